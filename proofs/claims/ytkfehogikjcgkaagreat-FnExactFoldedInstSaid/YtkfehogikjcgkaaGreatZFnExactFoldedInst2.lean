/- PROVED HERE: what the functions that the law FnExactFoldedInst reaches do in memory, each as a plain Lean function, and what these tell: part 3 of 6 of the proof of that law; no condition beyond those written out at each theorem. -/
import Derived.Lib.SliceRun
import Derived.Test.YtkfehogikjcgkaaGreatZFnExactFoldedInst0
import Derived.Test.YtkfehogikjcgkaaGreatZFnExactFoldedInst1
namespace Go.Proofs.YtkfehogikjcgkaaGreat.V
open Go
set_option linter.unusedVariables false
set_option linter.unusedSimpArgs false
def zeroB : List C → List Value → Bool
  | [], [] => true
  | c :: cs, u :: us => (match c, u with
    | .int k n, .int k' n' => decide (k = k') && decide (n = n')
    | .bool b, .bool b' => b == b'
    | .str s, .string s' => Nat.beq s.size 0 && Nat.beq s'.size 0
    | .nil, .slice none 0 0 => true
    | .nilp, .pointer none => true
    | _, _ => false) && zeroB cs us
  | _, _ => false
theorem ba_empty {s : ByteArray} (h : Nat.beq s.size 0 = true) : s = ByteArray.empty := by
  have := nb_eq h
  exact ByteArray.size_eq_zero_iff.1 this
theorem zeroB_is : ∀ {cs : List C} {us : List Value}, zeroB cs us = true → zeroIs cs us
  | [], [], _ => rfl
  | [], u :: us, h => by simp [zeroB] at h
  | c :: cs, [], h => by simp [zeroB] at h
  | c :: cs, u :: us, h => by
    simp only [zeroB, Bool.and_eq_true] at h
    refine ⟨u, us, rfl, ?_, zeroB_is h.2⟩
    have h1 := h.1
    split at h1
    · simp only [Bool.and_eq_true, decide_eq_true_eq] at h1
      obtain ⟨rfl, rfl⟩ := h1; rfl
    · simp only [beq_iff_eq] at h1
      subst h1; rfl
    · simp only [Bool.and_eq_true] at h1
      rw [ba_empty h1.1, ba_empty h1.2]
    · rfl
    · rfl
    · cases h1
/-- The cells of the zero of a code, off a list. -/
def dfltC : T → List C → Option (List C)
  | .int k, .int k' n :: r => bif decide (k = k') && decide (n = 0) then some r else none
  | .bool, .bool b :: r => bif b then none else some r
  | .str, .str s :: r => bif Nat.beq s.size 0 then some r else none
  | .list _, .nil :: r => some r
  | .pair a b, cs => (dfltC a cs).bind fun r => dfltC b r
  | .unit, cs => some cs
  | _, _ => none
theorem dfltC_ow {w : World} : ∀ {t : T} {cs rest : List C} {vs : List Value}, dfltC t cs = some rest → zeroIs cs vs → ∃ us ws, vs = us ++ ws ∧ Ow w t t.dflt us [] ∧ zeroIs rest ws
  | .int k, cs, rest, vs, h, hz => by
    cases cs with
    | nil => simp [dfltC] at h
    | cons c cs =>
      cases c <;> simp only [dfltC, reduceCtorEq] at h
      obtain ⟨h1, h2⟩ := bif_some h
      simp only [Bool.and_eq_true, decide_eq_true_eq] at h1
      obtain ⟨rfl, rfl⟩ := h1
      simp only [Option.some.injEq] at h2
      subst h2
      obtain ⟨u, us, rfl, h3, h4⟩ := hz
      exact ⟨[u], us, rfl, ⟨by rw [h3]; rfl, rfl⟩, h4⟩
  | .bool, cs, rest, vs, h, hz => by
    cases cs with
    | nil => simp [dfltC] at h
    | cons c cs =>
      cases c <;> simp only [dfltC, reduceCtorEq] at h
      rename_i b
      cases b <;> simp only [cond_true, cond_false, reduceCtorEq, Option.some.injEq] at h
      subst h
      obtain ⟨u, us, rfl, h3, h4⟩ := hz
      exact ⟨[u], us, rfl, ⟨by rw [h3]; rfl, rfl⟩, h4⟩
  | .str, cs, rest, vs, h, hz => by
    cases cs with
    | nil => simp [dfltC] at h
    | cons c cs =>
      cases c <;> simp only [dfltC, reduceCtorEq] at h
      obtain ⟨h1, h2⟩ := bif_some h
      simp only [Option.some.injEq] at h2
      subst h2
      obtain ⟨u, us, rfl, h3, h4⟩ := hz
      exact ⟨[u], us, rfl, ⟨by rw [h3, ba_empty h1]; rfl, rfl⟩, h4⟩
  | .list t, cs, rest, vs, h, hz => by
    cases cs with
    | nil => simp [dfltC] at h
    | cons c cs =>
      cases c <;> simp only [dfltC, reduceCtorEq] at h
      simp only [Option.some.injEq] at h
      subst h
      obtain ⟨u, us, rfl, h3, h4⟩ := hz
      exact ⟨[u], us, rfl, .inl ⟨rfl, rfl, none, by rw [h3]⟩, h4⟩
  | .pair a b, cs, rest, vs, h, hz => by
    simp only [dfltC, Option.bind_eq_some_iff] at h
    obtain ⟨r1, h1, h2⟩ := h
    obtain ⟨us, ws, rfl, o1, z1⟩ := dfltC_ow h1 hz
    obtain ⟨us', ws', rfl, o2, z2⟩ := dfltC_ow h2 z1
    exact ⟨us ++ us', ws', by simp, ⟨us, us', [], [], rfl, rfl, o1, o2⟩, z2⟩
  | .unit, cs, rest, vs, h, hz => by
    simp only [dfltC, Option.some.injEq] at h
    subst h
    exact ⟨[], vs, rfl, ⟨rfl, rfl⟩, hz⟩
def fldsB (P : Program) : List Field → List (Nat × Nat) → Bool
  | [], [] => true
  | fd :: fs, x :: l => Nat.beq fd.offset x.1 && (match P.info? fd.type with | some inf => Nat.beq inf.size x.2 | none => false) && fldsB P fs l
  | _, _ => false
theorem fldsB_spec {P : Program} : ∀ {fs : List Field} {l : List (Nat × Nat)}, fldsB P fs l = true → fs.length = l.length ∧ ∀ (f off n : Nat), l[f]? = some (off, n) → ∃ (fd : Field) (inf : TypeInfo), fs[f]? = some fd ∧ fd.offset = off ∧ P.info? fd.type = some inf ∧ inf.size = n
  | [], [], _ => ⟨rfl, fun f off n h => by simp at h⟩
  | [], x :: l, h => by simp [fldsB] at h
  | fd :: fs, [], h => by simp [fldsB] at h
  | fd :: fs, x :: l, h => by
    simp only [fldsB, Bool.and_eq_true] at h
    obtain ⟨⟨h1, h2⟩, h3⟩ := h
    obtain ⟨i1, i2⟩ := fldsB_spec h3
    refine ⟨by simp [i1], fun f off n hx => ?_⟩
    cases f with
    | zero =>
      simp only [List.getElem?_cons_zero, Option.some.injEq] at hx
      subst hx
      split at h2
      · rename_i inf hi
        exact ⟨fd, inf, rfl, nb_eq h1, hi, nb_eq h2⟩
      · cases h2
    | succ f =>
      simp only [List.getElem?_cons_succ] at hx
      simpa using i2 f off n hx
def descB (P : Program) (tab : Tab) (i : TI) (d : TypeDesc) : Bool :=
  (match d with | .struct fs => i.agg && fldsB P fs.toList i.flds | .array _ _ => false | _ => !i.agg && i.flds.isEmpty) &&
  (i.agg || match i.zero with
    | [.int k _] => (match d with | .int k' => decide (k = k') | _ => false)
    | [.str _] => (match d with | .string => true | _ => false)
    | [.bool _] => (match d with | .bool => true | _ => false)
    | _ => true) &&
  ((get tab i.elem).isNone || (match d with | .slice e => Nat.beq e i.elem | _ => false))
def tyB (P : Program) (tab : Tab) (t : TypeId) (i : TI) : Bool :=
  (match P.info? t with | some inf => Nat.beq inf.size i.sz && Nat.beq inf.bytes i.bytes && (match inf.zero with | some z => zeroB i.zero z.cells.toList | none => false) | none => false) &&
  Nat.beq i.zero.length i.sz && (i.agg || Nat.beq i.sz 1) && Nat.ble 1 i.sz &&
  (match P.underlying t with | some d => descB P tab i d | none => false) &&
  (!Nat.beq i.sz i.t.sz || match dfltC i.t i.zero with | some [] => true | _ => false)
theorem agg_of {P : Program} {i : TI} {d : TypeDesc} : (match d with | .struct fs => i.agg && fldsB P fs.toList i.flds | .array _ _ => false | _ => !i.agg && i.flds.isEmpty) = true → (match d with | .struct _ | .array _ _ => true | _ => false) = i.agg := by
  intro d1
  cases d <;> simp only [Bool.and_eq_true, Bool.not_eq_true', Bool.false_eq_true] at d1 <;> first | exact d1.1.symm | exact d1.elim
theorem tyB_ok {P : Program} {tab : Tab} {t : TypeId} {i : TI} (h : tyB P tab t i = true) : TyOK P tab t i := by
  simp only [tyB, Bool.and_eq_true] at h
  obtain ⟨⟨⟨⟨⟨h1, h2⟩, h3⟩, h4⟩, h5⟩, h6⟩ := h
  split at h1
  case h_2 => cases h1
  rename_i inf hinf
  simp only [Bool.and_eq_true] at h1
  obtain ⟨⟨s1, s2⟩, s3⟩ := h1
  split at s3
  case h_2 => cases s3
  rename_i z hz
  split at h5
  case h_2 => cases h5
  rename_i d hd
  simp only [descB, Bool.and_eq_true] at h5
  obtain ⟨⟨d1, d2⟩, d3⟩ := h5
  have ha := agg_of d1
  have hst : i.agg = true → ∃ fs, d = .struct fs ∧ fldsB P fs.toList i.flds = true := by
    intro hag
    split at d1
    · rename_i fs
      simp only [Bool.and_eq_true] at d1
      exact ⟨fs, rfl, d1.2⟩
    · cases d1
    · rw [hag] at d1; simp at d1
  refine ⟨⟨inf, z, hinf, nb_eq s1, nb_eq s2, hz, zeroB_is s3, nb_eq h2⟩, ⟨d, hd, ha⟩, fun hag => ?_, Nat.le_of_ble_eq_true h4, fun k n hz' hag => ?_, fun s hz' hag => ?_, fun b hz' hag => ?_, fun he => ?_, fun f off n hf => ?_, fun hag => ?_, fun vs hvs hsz w => ?_⟩
  · rw [hag, Bool.false_or] at h3; exact nb_eq h3
  · rw [hag, Bool.false_or, hz'] at d2
    simp only [] at d2
    split at d2
    · simp only [decide_eq_true_eq] at d2
      rw [hd, d2]
    · cases d2
  · rw [hag, Bool.false_or, hz'] at d2
    simp only [] at d2
    split at d2
    · exact hd
    · cases d2
  · rw [hag, Bool.false_or, hz'] at d2
    simp only [] at d2
    split at d2
    · exact hd
    · cases d2
  · cases hg : get tab i.elem with
    | none => rw [hg] at he; cases he
    | some x =>
      rw [hg] at d3
      simp only [Option.isNone_some, Bool.false_or] at d3
      split at d3
      · rw [hd, nb_eq d3]
      · cases d3
  · have hag : i.agg = true := by
      cases hag : i.agg with
      | true => rfl
      | false =>
        rw [hag] at d1
        split at d1
        · simp at d1
        · cases d1
        · simp only [Bool.not_false, Bool.true_and, List.isEmpty_iff] at d1
          rw [d1] at hf; simp at hf
    obtain ⟨fs, rfl, hfs⟩ := hst hag
    obtain ⟨fd, inf', q1, q2, q3, q4⟩ := (fldsB_spec hfs).2 f off n hf
    exact ⟨fs, fd, inf', hd, by rw [← Array.getElem?_toList]; exact q1, q2, q3, q4⟩
  · obtain ⟨fs, rfl, hfs⟩ := hst hag
    exact ⟨fs, hd, by rw [← Array.length_toList]; exact (fldsB_spec hfs).1⟩
  · have hb : Nat.beq i.sz i.t.sz = true := by rw [hsz]; exact Nat.beq_refl _
    rw [hb, Bool.not_true, Bool.false_or] at h6
    split at h6
    · rename_i hc
      obtain ⟨us, ws, rfl, h7, h8⟩ := dfltC_ow (w := w) hc hvs
      simp only [zeroIs] at h8
      subst h8
      rw [List.append_nil]
      exact h7
    · cases h6
def tabB (P : Program) (tab : Tab) : Bool := tab.all fun x => tyB P tab x.1 x.2
theorem tab_of {P : Program} {tab : Tab} (h : tabB P tab = true) : TabOK P tab := by
  intro t i hg
  unfold tabB at h
  rw [List.all_eq_true] at h
  exact tyB_ok (h _ (get_mem hg))
end Go.Proofs.YtkfehogikjcgkaaGreat.V
namespace Go.Proofs.YtkfehogikjcgkaaGreat.V
open Go
set_option linter.unusedVariables false
set_option linter.unusedSimpArgs false
def allK {R : Type} (keep : List Nat) : List (LS R) → Prop
  | [] => True
  | L :: l => L.keep = keep ∧ allK keep l
theorem allK_at {R : Type} {keep : List Nat} : ∀ {l : List (LS R)} {n : Nat} {L : LS R}, allK keep l → l[n]? = some L → L.keep = keep
  | [], n, L, _, h => by simp at h
  | L0 :: l, 0, L, hk, h => by
    simp only [List.getElem?_cons_zero, Option.some.injEq] at h
    subst h; exact hk.1
  | L0 :: l, n + 1, L, hk, h => by
    simp only [List.getElem?_cons_succ] at h
    exact allK_at hk.2 h
def all0 {R : Type} : List (LS R) → Prop
  | [] => True
  | L :: l => (∀ x, L.l x = none) ∧ all0 l
theorem all0_at {R : Type} : ∀ {l : List (LS R)} {n : Nat} {L : LS R}, all0 l → l[n]? = some L → ∀ x, L.l x = none
  | [], n, L, _, h => by simp at h
  | L0 :: l, 0, L, hk, h => by
    simp only [List.getElem?_cons_zero, Option.some.injEq] at h
    subst h; exact hk.1
  | L0 :: l, n + 1, L, hk, h => by
    simp only [List.getElem?_cons_succ] at h
    exact all0_at hk.2 h
def allS {R : Type} (φ : Nat → (L : LS R) → (DenV (L.live.map (·.2)) × DenO L.ob) → Option R) : Nat → List (LS R) → List (LS R) → Prop
  | _, [], [] => True
  | n, L' :: l', L :: l => (∃ f', L' = ⟨L.keep, L.live, L.ob, f'⟩ ∧ ∀ x, f' x = φ n L x) ∧ allS φ (n + 1) l' l
  | _, _, _ => False
theorem allS_at {R : Type} {φ : Nat → (L : LS R) → (DenV (L.live.map (·.2)) × DenO L.ob) → Option R} : ∀ {l' l : List (LS R)} {m n : Nat} {L' : LS R}, allS φ m l' l → l'[n]? = some L' → ∃ L f', l[n]? = some L ∧ L' = ⟨L.keep, L.live, L.ob, f'⟩ ∧ ∀ x, f' x = φ (m + n) L x
  | [], _, m, n, L', _, h => by simp at h
  | L0 :: l', [], m, n, L', hk, h => hk.elim
  | L0 :: l', L1 :: l, m, 0, L', hk, h => by
    simp only [List.getElem?_cons_zero, Option.some.injEq] at h
    subst h
    obtain ⟨⟨f', h1, h2⟩, _⟩ := hk
    exact ⟨L1, f', rfl, h1, h2⟩
  | L0 :: l', L1 :: l, m, n + 1, L', hk, h => by
    simp only [List.getElem?_cons_succ] at h
    obtain ⟨L, f', h1, h2, h3⟩ := allS_at hk.2 h
    exact ⟨L, f', h1, h2, fun x => by rw [h3]; congr 1; omega⟩
theorem EntsOK.nil {P : Program} : EntsOK P [] := fun f cl s h => by cases h
theorem EntsOK.cons {P : Program} {f : FuncId} {cl : List FuncId} {s : FS} {l : Ents} (h : Sound P f s) (hl : EntsOK P l) : EntsOK P ((⟨f, cl⟩, s) :: l) := by
  intro g c t ht
  simp only [find] at ht
  cases hb : Nat.beq f g && eqNs cl c with
  | true =>
    simp only [hb, cond_true, Option.some.injEq] at ht
    simp only [Bool.and_eq_true] at hb
    rw [← nb_eq hb.1, ← ht]; exact h
  | false =>
    simp only [hb, cond_false] at ht
    exact hl g c t ht
theorem sound_of {P : Program} {tab : Tab} (hm : P.follows .mixedOrders = true) (hT : TabOK P tab) {f : FuncId} {fn : Func} {c : Code} (hf : P.funcs[f]? = some fn) (hb : fn.body = some c) (hname : (fn.name == "runtime.NumGoroutine") = false) (S : ShapeParts) (hw : wfC fn.ntmps c = true) (ht : S.tup = !(Nat.beq fn.results.size 1))
    (pf : Nat → DenV S.ins × DenO S.io → Option (DenV S.outs × DenO S.oo)) (Ef : Nat → Ents) (hE : ∀ k, EntsOK P (Ef k)) (LSf : Nat → List (LS (DenV S.outs × DenO S.oo)))
    (hk : ∀ k, allK S.keep (LSf k)) (h0 : all0 (LSf 0)) (hS : ∀ k, allS (roundOf tab (Ef k) (LSf k) c (fin tab fn (S.fs (pf k)))) 0 (LSf (k + 1)) (LSf k))
    (hF : ∀ k x, pf k x = execF tab (Ef k) fn c (S.fs (pf k)) (LSf k) x) : ∀ k, Sound P f (S.fs (pf k)) :=
  fun_sound hT hf hb hname S hw ht hE (fun k B => draw_ok hm hT (hE k)) (fun k n L h j hj => by rw [allK_at (hk k) h]; exact hj) (fun n L h x => all0_at h0 h x)
    (fun k n L' h => by
      obtain ⟨L, f', h1, h2, h3⟩ := allS_at (hS k) h
      exact ⟨L, f', h1, h2, fun x => by have := h3 x; rwa [Nat.zero_add] at this⟩) hF
end Go.Proofs.YtkfehogikjcgkaaGreat.V
namespace Go.Proofs.YtkfehogikjcgkaaGreat.V
open Go
set_option linter.unusedVariables false
noncomputable section
theorem tab_ok : TabOK Tryz.prog tab := tab_of (by kernel_rfl)
theorem mixed : Tryz.prog.follows .mixedOrders = true := by kernel_rfl
end
end Go.Proofs.YtkfehogikjcgkaaGreat.V
namespace Go.Proofs.YtkfehogikjcgkaaGreat.V
open Go
set_option linter.unusedVariables false
set_option linter.unusedSimpArgs false
section
variable {P : Program} {tab : Tab} {E : Ents} {B : Base} {R : Type} {r : R}
theorem piece (hm : P.follows .mixedOrders = true) (hT : TabOK P tab) (hE : EntsOK P E) {c : Code} {g : Gh} {env : Env} {H : Heap} {a : Act} {w : World} {K : Ex → Env → Heap → Option R} {Q : Exit → Act → World → Prop}
    (hw : wfC B.n c = true) (h0 : nloops c = 0) (hK : KQ B r K Q) (Rl : Rel B g env H a w) (h : exec tab E [] c 0 env H K = some r) : c.wp P Q a w :=
  exec_sound (LS_ := []) (k := 0) hT hE (draw_ok hm hT hE) (fun n L h => by simp at h) c 0 K Q g env H a w hw hK (fun n h1 h2 => by omega) Rl h
/-- One operation that compares a slice with nil. -/
theorem nil_op {o : Oper} {t e ty : TypeId} {s d : Nat} {w : World} {a : Act} {N : Act → World → Prop} {Q : Exit → Act → World → Prop} {A : Option Addr} {n c : Nat} (hop : o.op = .binOp .eql t (.tmp s) (.const (.slice none 0 0)) ty) (hd : o.dst = some d) (hu : P.underlying t = some (.slice e))
    (hs : a.tmps.getD s undef = .slice A n c) (hN : N (a.put (some d) (.bool A.isNone)) w) : o.wp P a w N Q := by
  have hev : a.eval (.tmp s) = .slice A n c := by
    rw [← hs]; rfl
  have h2 : (execOp a.eval o).run P w = .ok (.value (.bool A.isNone)) w := by
    unfold execOp
    simp only [hop, hev]
    have h3 : a.eval (.const (.slice none 0 0)) = .slice none 0 0 := rfl
    rw [h3]
    have h4 := Lib.run_eql_slice_nil (P := P) w t e A n c 0 0 hu
    simp [eqGuard, h4]
  unfold Oper.wp
  rw [h2]
  show N (a.put o.dst (.bool A.isNone)) w
  rw [hd]
  exact hN
abbrev CloneR := (DenV [⟨false, [.own 100]⟩] × DenO [(100, .row true (.int .i64))])
def cloneF (a : List Int) : Option CloneR := bif decide ((0 + a.length) * 8 ≤ 140737488355328) then some ((((), ()), ()), (a, ())) else none
def cloneS : FS := ⟨[⟨false, [.lst (.int .i64)]⟩], [], false, [⟨false, [.own 100]⟩], [(100, .row true (.int .i64))], [], fun x => cloneF x.1.1.1⟩
abbrev lstV (xs : List Int) : V := .val false [.lst (.int .i64) xs]
theorem clone_sound (hm : P.follows .mixedOrders = true) (hT : TabOK P tab) {f : FuncId} {fn : Func} (hf : P.funcs[f]? = some fn) (hname : (fn.name == "runtime.NumGoroutine") = false) {o0 o1 : Oper} {Z0 Z2 Z3 : Array Oper} {i0 i1 i2 i3 : Nat} {t e ty : TypeId}
    (hb : fn.body = some (.seq (.region i0 Z0 false) (.seq (.seq (.region i1 #[o0, o1] false) (.cond (.tmp 4) (.seq (.region i2 Z2 false) .ret) .skip)) (.seq (.region i3 Z3 false) .ret))))
    (ht : cloneS.tup = !(Nat.beq fn.results.size 1)) (hn : fn.ntmps = 8) (hw0 : wfC 8 (.region i0 Z0 false) = true) (hw2 : wfC 8 (.region i2 Z2 false) = true) (hw3 : wfC 8 (.region i3 Z3 false) = true)
    (hd0 : o0.dst = some 3) (hg0 : o0.guard = none) (hd1 : o1.dst = some 4) (hg1 : o1.guard = none) (hop : o1.op = .binOp .eql t (.tmp 3) (.const (.slice none 0 0)) ty) (hu : P.underlying t = some (.slice e))
    (m0 : ∀ (xs : List Int) (K : Ex → Env → Heap → Option (Ex × Env × Heap)), exec tab [] [] (.region i0 Z0 false) 0 [(0, lstV xs)] [] K = K .normal [(2, .val false [.nil]), (0, lstV xs)] [])
    (m1 : ∀ (xs : List Int) (K : V → Heap → Option (V × Heap)), stepK tab [] [] o0 (ev [(2, .val false [.nil]), (0, lstV xs)]) K = K (lstV xs) [])
    (m2 : ∀ (xs : List Int) (K : Ex → Env → Heap → Option CloneR), exec tab [] [] (.seq (.region i2 Z2 false) .ret) 0 [(4, .val false [.bool true]), (3, lstV xs), (2, .val false [.nil]), (0, lstV xs)] [] K = K .ret [(2, .val false [.nil]), (4, .val false [.bool true]), (3, lstV xs), (2, .val false [.nil]), (0, lstV xs)] [])
    (m4 : ∀ (xs : List Int), fin tab fn cloneS .ret [(2, .val false [.nil]), (4, .val false [.bool true]), (3, lstV xs), (2, .val false [.nil]), (0, lstV xs)] [] = some ((((), ()), ()), (([] : List Int), ())))
    (m3 : ∀ (xs : List Int), exec tab [] [] (.seq (.region i3 Z3 false) .ret) 0 [(4, .val false [.bool false]), (3, lstV xs), (2, .val false [.nil]), (0, lstV xs)] [] (fin tab fn cloneS) = cloneF xs) : Sound P f cloneS := by
  refine ⟨⟨fn, hf, hname, by simp [hb]⟩, fun x y hy g w args hG hA => ?_⟩
  obtain ⟨⟨⟨xs, ⟨⟩⟩, ⟨⟩⟩, ⟨⟩⟩ := x
  have hy' : cloneF xs = some y := hy
  have hA0 := hA
  obtain ⟨v, vs, hargs, hv, hvs⟩ := hA
  have hvs' : vs = [] := hvs
  subst hvs'
  have hv' : RCs g [] w [.lst (.int .i64) xs] [v] := hv
  obtain ⟨v', vs', e1, hv1, hv2⟩ := hv'
  obtain ⟨e3, e4⟩ : v' = v ∧ vs' = [] := by simpa using e1.symm
  subst e3; subst e4
  obtain ⟨A, cp, e2, hcp, hel⟩ := hv1.2
  have hargs' : args = #[v'] := Array.toList_inj.1 (by simpa using hargs)
  subst hargs'
  refine calls_of_wp hf hb ?_
  have hsz : (#[v'] ++ Array.replicate (fn.ntmps - (#[v'] : Array Value).size) undef).size = 8 := by simp [hn]
  have Re : Rel ⟨w, g, [], 8, []⟩ g [(0, lstV xs)] [] { tmps := #[v'] ++ Array.replicate (fn.ntmps - (#[v'] : Array Value).size) undef, defers := [] } w :=
    { toRelG := hG, env := fun s u hs => envIn_rv (f := fun s => (#[v'] ++ Array.replicate (fn.ntmps - (#[v'] : Array Value).size) undef).getD s undef) (vs := [(false, [.lst (.int .i64) xs])]) hA0 (fun j v hj => by
            have hlt := (List.getElem?_eq_some_iff.1 hj).1
            rw [Array.length_toList] at hlt
            rw [Nat.zero_add, Array.getD_eq_getD_getElem?, Array.getElem?_append_left hlt, ← Array.getElem?_toList, hj]; rfl) s u hs,
          sz := hsz, df := rfl, fr := Ext.refl _ w, owB := fun b o h => .inl (by show g.ow b ≠ none; rw [h]; simp), FB := fun b h => .inl h, BF := fun b h => h, bs := fun b cur e fr h => ⟨cur, fr, h, rfl⟩,
          kp := fun j _ _ ob t n h1 h2 => ⟨ob, h1, h2, rfl⟩, kd := fun j ob _ h => ⟨ob, h, rfl, fun _ => rfl⟩ }
  have hK : KQ ⟨w, g, [], 8, []⟩ y (fin tab fn cloneS) (bodyPost P fn fun | .returned v, w' => ∃ g', Out cloneS (((xs, ()), ()), ()) y g w g' w' v | _, _ => False) := fin_sound (P := P) (s := cloneS) (x := (((xs, ()), ()), ())) hT ht
  generalize ({ tmps := #[v'] ++ Array.replicate (fn.ntmps - (#[v'] : Array Value).size) undef, defers := [] } : Act) = a at Re ⊢
  generalize (bodyPost P fn fun | .returned v, w' => ∃ g', Out cloneS (((xs, ()), ()), ()) y g w g' w' v | _, _ => False) = Q at hK ⊢
  refine wp_seq (piece hm hT EntsOK.nil hw0 rfl (K := fun x env H => some (x, env, H)) (r := (.normal, [(2, .val false [.nil]), (0, lstV xs)], [])) ?_ Re (m0 xs _))
  intro x1 g1 env1 H1 a1 w1 R1 h1
  simp only [Option.some.injEq, Prod.mk.injEq] at h1
  obtain ⟨rfl, rfl, rfl⟩ := h1
  refine wp_seq (wp_seq (wp_region ?_))
  show wpOps P #[o0, o1] _ [0, 1] a1 w1
  have hw1 : Region.wanted o0 (yielded #[o0, o1] a1.tmps) = true := by simp [Region.wanted, hg0]
  simp only [wpOps]
  rw [show (#[o0, o1] : Array Oper)[0]? = some o0 from rfl]
  simp only [hw1, if_true]
  have hlt0 : ∀ d, o0.dst = some d → d < 8 := fun d h => by rw [← Option.some.inj (hd0.symm.trans h)]; exact (by decide : 3 < 8)
  refine .inl (stepK_sound hT EntsOK.nil R1 (fun d h => hlt0 d h) (m1 xs (fun v e => some (v, e))) fun v e g2 cv w2 R2 h2 => ?_)
  simp only [Option.some.injEq, Prod.mk.injEq] at h2
  obtain ⟨rfl, rfl⟩ := h2
  rw [hd0] at R2 ⊢
  simp only [setD, hd0, List.nil_append] at R2
  have hw2' : Region.wanted o1 (yielded #[o0, o1] (a1.put (some 3) cv).tmps) = true := by simp [Region.wanted, hg1]
  rw [show (#[o0, o1] : Array Oper)[1]? = some o1 from rfl]
  simp only [hw2', if_true]
  obtain ⟨A2, c2, e5, _, hel2⟩ := (rv_one (c := .lst (.int .i64) xs) rfl (R2.env 3 _ rfl)).2
  have e5' := (List.cons.inj e5).1
  have hd1' : ∀ d, o1.dst = some d → d < 8 := fun d h => by rw [← Option.some.inj (hd1.symm.trans h)]; exact (by decide : 4 < 8)
  have R3 : Rel ⟨w, g, [], 8, []⟩ g2 (setD o1 (.val false [.bool A2.isNone]) [(3, lstV xs), (2, .val false [.nil]), (0, lstV xs)]) [] ((a1.put (some 3) cv).put o1.dst (.bool A2.isNone)) w2 :=
    R2.put hd1' ⟨_, [], rfl, ⟨rfl, rfl⟩, rfl⟩
  rw [hd1] at R3
  simp only [setD, hd1] at R3
  refine .inl (nil_op (Q := _) hop hd1 hu e5' ?_)
  generalize ((a1.put (some 3) cv).put (some 4) (.bool A2.isNone)) = a3 at R3 ⊢
  show (Code.cond (.tmp 4) _ .skip).wp P _ a3 w2
  have hc := rc_bool (rv_one (c := .bool A2.isNone) rfl (R3.env 4 _ rfl))
  cases A2 with
  | none =>
    have hx : xs = ([] : List Int) := by
      by_cases h : xs = ([] : List Int)
      · exact h
      · obtain ⟨_, _, _, h', _⟩ := hel2 h
        cases h'
    subst hx
    refine wp_cond_true hc ?_
    have hy2 : y = ((((), ()), ()), (([] : List Int), ())) := by
      have : cloneF [] = some ((((), ()), ()), (([] : List Int), ())) := rfl
      rw [this] at hy'
      exact (Option.some.inj hy').symm
    refine piece hm hT EntsOK.nil (K := fun x env H => match x with | .normal => none | x => fin tab fn cloneS x env H) (r := y) (by simp only [wfC, Bool.and_true]; exact hw2) rfl (fun x g env H a w R h => ?_) R3 ?_
    · cases x with
      | normal => cases h
      | ret => exact hK .ret g env H a w R h
      | exit id => exact hK (.exit id) g env H a w R h
    · exact (m2 _ _).trans ((m4 _).trans (congrArg some hy2.symm))
  | some A2 =>
    refine wp_cond_false hc (wp_skip ?_)
    refine piece hm hT EntsOK.nil (K := fin tab fn cloneS) (r := y) (by simp only [wfC, Bool.and_true]; exact hw3) rfl hK R3 ?_
    exact (m3 xs).trans hy'
end
end Go.Proofs.YtkfehogikjcgkaaGreat.V
namespace Go.Proofs.YtkfehogikjcgkaaGreat.V
open Go
set_option linter.unusedVariables false
noncomputable section
abbrev slices_Clone_int64_int64.R := CloneR
abbrev slices_Clone_int64_int64.f (_k : Nat) (a : List Int) : Option slices_Clone_int64_int64.R := cloneF a
abbrev slices_Clone_int64_int64.s (_k : Nat) : FS := cloneS
noncomputable def cat1 : Code → Code
  | .seq a _ => a
  | c => c
noncomputable def cat2 : Code → Code
  | .seq _ a => a
  | c => c
noncomputable def opsOf : Code → Array Oper
  | .region _ o _ => o
  | _ => #[]
noncomputable def thenOf : Code → Code
  | .cond _ a _ => a
  | c => c
noncomputable def cloneC : Code := Tryz.f63.body.getD .skip
noncomputable def cloneR1 : Array Oper := opsOf (cat1 (cat1 (cat2 cloneC)))
noncomputable def cloneO0 : Oper := (cloneR1.toList[0]?).getD default
noncomputable def cloneO1 : Oper := (cloneR1.toList[1]?).getD default
noncomputable def cloneT : TypeId := match cloneO1.op with
  | .binOp _ t _ _ _ => t
  | _ => 0
noncomputable def cloneE : TypeId := match Tryz.prog.underlying cloneT with
  | some (.slice e) => e
  | _ => 0
theorem slices_Clone_int64_int64.sound (k : Nat) : Sound Tryz.prog 63 (slices_Clone_int64_int64.s k) :=
  clone_sound mixed tab_ok (f := 63) (fn := Tryz.f63) (by kernel_rfl) (by kernel_rfl) (o0 := cloneO0) (o1 := cloneO1) (Z0 := opsOf (cat1 cloneC)) (Z2 := opsOf (cat1 (thenOf (cat2 (cat1 (cat2 cloneC)))))) (Z3 := opsOf (cat1 (cat2 (cat2 cloneC))))
    (i0 := 0) (i1 := 1) (i2 := 2) (i3 := 3) (t := cloneT) (e := cloneE) (ty := cloneT)
    (by kernel_rfl) (by kernel_rfl) (by kernel_rfl) (by kernel_rfl) (by kernel_rfl) (by kernel_rfl) (by kernel_rfl) (by kernel_rfl) (by kernel_rfl) (by kernel_rfl) (by kernel_rfl) (by kernel_rfl)
    (by intro xs K; kernel_rfl) (by intro xs K; kernel_rfl) (by intro xs K; kernel_rfl) (by intro xs; kernel_rfl) (by intro xs; kernel_rfl)
end
end Go.Proofs.YtkfehogikjcgkaaGreat.V
namespace Go.Proofs.YtkfehogikjcgkaaGreat.V
open Go
set_option linter.unusedVariables false
noncomputable section
/-! ### laws.szInt64S: function 22 -/
abbrev laws_szInt64S.R := (((Int × Unit) × Unit) × Unit)
def laws_szInt64S.f (k : Nat) (a0 : List Int) (a1 : Int) : Option laws_szInt64S.R := bif decide (IntKind.wrap .i64 (a1 - ((List.length a0 : Nat) : Int)) < 0) then (some (((-1, ()), ()), ())) else (some (((IntKind.wrap .i64 (a1 - ((List.length a0 : Nat) : Int)), ()), ()), ()))
def laws_szInt64S.s (k : Nat) : FS := ⟨[⟨false, [.lst (.int .i64)]⟩, ⟨false, [.int .i64]⟩], [], false, [⟨false, [.int .i64]⟩], [], [], fun x => laws_szInt64S.f k x.1.1.1 x.1.2.1.1⟩
def laws_szInt64S.E (k : Nat) : Ents := []
def laws_szInt64S.L : List (LS laws_szInt64S.R) := []
def laws_szInt64S.c : Code := Tryz.f22.body.getD .skip
theorem laws_szInt64S.eq (k : Nat) (x) : (laws_szInt64S.s k).pf x = execF tab (laws_szInt64S.E k) Tryz.f22 laws_szInt64S.c (laws_szInt64S.s k) laws_szInt64S.L x := by kernel_rfl
theorem laws_szInt64S.sound : ∀ k, Sound Tryz.prog 22 (laws_szInt64S.s k) := sound_of mixed tab_ok (f := 22) (fn := Tryz.f22) (c := laws_szInt64S.c) (by kernel_rfl) (by kernel_rfl) (by kernel_rfl) ⟨[⟨false, [.lst (.int .i64)]⟩, ⟨false, [.int .i64]⟩], [], false, [⟨false, [.int .i64]⟩], [], []⟩ (by kernel_rfl) (by kernel_rfl) (fun k => (laws_szInt64S.s k).pf) laws_szInt64S.E (fun k => EntsOK.nil) (fun k => laws_szInt64S.L) (fun k => trivial) trivial (fun k => trivial) laws_szInt64S.eq
end
end Go.Proofs.YtkfehogikjcgkaaGreat.V
namespace Go.Proofs.YtkfehogikjcgkaaGreat.V
open Go
set_option linter.unusedVariables false
noncomputable section
/-! ### laws.szInst: function 15 -/
abbrev laws_szInst.R := (((Int × Unit) × Unit) × Unit)
def laws_szInst.f (k : Nat) (a0 : tInstD) (a1 : Int) : Option laws_szInst.R := Option.bind (laws_szInt64S.f k a0.2.2.2.2.2.2.1 a1) fun r1 => bif decide (r1.1.1.1 < 0) then (some (((-1, ()), ()), ())) else (some (((r1.1.1.1, ()), ()), ()))
def laws_szInst.s (k : Nat) : FS := ⟨[⟨true, [.int .i64, .int .i64, .int .i64, .int .i64, .int .i64, .int .i64, .lst (.int .i64)]⟩, ⟨false, [.int .i64]⟩], [], false, [⟨false, [.int .i64]⟩], [], [], fun x => laws_szInst.f k x.1.1 x.1.2.1.1⟩
def laws_szInst.E (k : Nat) : Ents := [(⟨22, []⟩, laws_szInt64S.s k)]
def laws_szInst.L : List (LS laws_szInst.R) := []
def laws_szInst.c : Code := Tryz.f15.body.getD .skip
theorem laws_szInst.eq (k : Nat) (x) : (laws_szInst.s k).pf x = execF tab (laws_szInst.E k) Tryz.f15 laws_szInst.c (laws_szInst.s k) laws_szInst.L x := by kernel_rfl
theorem laws_szInst.sound : ∀ k, Sound Tryz.prog 15 (laws_szInst.s k) := sound_of mixed tab_ok (f := 15) (fn := Tryz.f15) (c := laws_szInst.c) (by kernel_rfl) (by kernel_rfl) (by kernel_rfl) ⟨[⟨true, [.int .i64, .int .i64, .int .i64, .int .i64, .int .i64, .int .i64, .lst (.int .i64)]⟩, ⟨false, [.int .i64]⟩], [], false, [⟨false, [.int .i64]⟩], [], []⟩ (by kernel_rfl) (by kernel_rfl) (fun k => (laws_szInst.s k).pf) laws_szInst.E (fun k => (EntsOK.cons (laws_szInt64S.sound k) EntsOK.nil)) (fun k => laws_szInst.L) (fun k => trivial) trivial (fun k => trivial) laws_szInst.eq
end
end Go.Proofs.YtkfehogikjcgkaaGreat.V
namespace Go.Proofs.YtkfehogikjcgkaaGreat.V
open Go
set_option linter.unusedVariables false
noncomputable section
/-! ### laws.szPhi: function 130 -/
abbrev laws_szPhi.R := (((Int × Unit) × Unit) × Unit)
def laws_szPhi.f (k : Nat) (a0 : tPhiD) (a1 : Int) : Option laws_szPhi.R := Option.bind (laws_szInt64S.f k a0.2.1 a1) fun r1 => bif decide (r1.1.1.1 < 0) then (some (((-1, ()), ()), ())) else (some (((r1.1.1.1, ()), ()), ()))
def laws_szPhi.s (k : Nat) : FS := ⟨[⟨true, [.int .i64, .lst (.int .i64)]⟩, ⟨false, [.int .i64]⟩], [], false, [⟨false, [.int .i64]⟩], [], [], fun x => laws_szPhi.f k x.1.1 x.1.2.1.1⟩
def laws_szPhi.E (k : Nat) : Ents := [(⟨22, []⟩, laws_szInt64S.s k)]
def laws_szPhi.L : List (LS laws_szPhi.R) := []
def laws_szPhi.c : Code := Tryz.f130.body.getD .skip
theorem laws_szPhi.eq (k : Nat) (x) : (laws_szPhi.s k).pf x = execF tab (laws_szPhi.E k) Tryz.f130 laws_szPhi.c (laws_szPhi.s k) laws_szPhi.L x := by kernel_rfl
theorem laws_szPhi.sound : ∀ k, Sound Tryz.prog 130 (laws_szPhi.s k) := sound_of mixed tab_ok (f := 130) (fn := Tryz.f130) (c := laws_szPhi.c) (by kernel_rfl) (by kernel_rfl) (by kernel_rfl) ⟨[⟨true, [.int .i64, .lst (.int .i64)]⟩, ⟨false, [.int .i64]⟩], [], false, [⟨false, [.int .i64]⟩], [], []⟩ (by kernel_rfl) (by kernel_rfl) (fun k => (laws_szPhi.s k).pf) laws_szPhi.E (fun k => (EntsOK.cons (laws_szInt64S.sound k) EntsOK.nil)) (fun k => laws_szPhi.L) (fun k => trivial) trivial (fun k => trivial) laws_szPhi.eq
end
end Go.Proofs.YtkfehogikjcgkaaGreat.V
namespace Go.Proofs.YtkfehogikjcgkaaGreat.V
open Go
set_option linter.unusedVariables false
noncomputable section
/-! ### laws.szPhiS: function 92 -/
abbrev laws_szPhiS.R := (((Int × Unit) × Unit) × Unit)
def laws_szPhiS.l0_ (k : Nat) (l0 : (List tPhiD) → Int → Int → Option laws_szPhiS.R) (a0 : List tPhiD) (a1 : Int) (a2 : Int) : Option laws_szPhiS.R := bif decide (a2 < ((List.length a0 : Nat) : Int)) then (bif (decide (0 ≤ a2)) && (decide (a2 < ((List.length a0 : Nat) : Int))) then (Option.bind (laws_szPhi.f k (List.getD a0 (Int.toNat a2) tPhiZ) a1) fun r1 => bif decide (r1.1.1.1 < 0) then (some (((-1, ()), ()), ())) else (l0 a0 r1.1.1.1 (IntKind.wrap .i64 (a2 + 1)))) else none) else (some (((a1, ()), ()), ()))
def laws_szPhiS.all : Nat → ((List tPhiD) → Int → Int → Option laws_szPhiS.R) × Unit
  | 0 => (fun _ _ _ => none, ())
  | k + 1 => (laws_szPhiS.l0_ k (laws_szPhiS.all k).1, ())
def laws_szPhiS.l0 (k : Nat) : (List tPhiD) → Int → Int → Option laws_szPhiS.R := (laws_szPhiS.all k).1
def laws_szPhiS.f (k : Nat) (a0 : List tPhiD) (a1 : Int) : Option laws_szPhiS.R := bif decide (IntKind.wrap .i64 (a1 - ((List.length a0 : Nat) : Int)) < 0) then (some (((-1, ()), ()), ())) else (laws_szPhiS.l0 k a0 (IntKind.wrap .i64 (a1 - ((List.length a0 : Nat) : Int))) 0)
def laws_szPhiS.s (k : Nat) : FS := ⟨[⟨false, [.lst tPhi]⟩, ⟨false, [.int .i64]⟩], [], false, [⟨false, [.int .i64]⟩], [], [], fun x => laws_szPhiS.f k x.1.1.1 x.1.2.1.1⟩
def laws_szPhiS.E (k : Nat) : Ents := [(⟨130, []⟩, laws_szPhi.s k)]
def laws_szPhiS.L0 (l : (List tPhiD) → Int → Int → Option laws_szPhiS.R) : LS laws_szPhiS.R := ⟨[], [(0, ⟨false, [.lst tPhi]⟩), (1, ⟨false, [.int .i64]⟩), (5, ⟨false, [.int .i64]⟩)], [], fun x => l x.1.1.1 x.1.2.1.1 x.1.2.2.1.1⟩
def laws_szPhiS.L (l0 : (List tPhiD) → Int → Int → Option laws_szPhiS.R) : List (LS laws_szPhiS.R) := [laws_szPhiS.L0 l0]
def laws_szPhiS.c : Code := Tryz.f92.body.getD .skip
theorem laws_szPhiS.eq (k : Nat) (x) : (laws_szPhiS.s k).pf x = execF tab (laws_szPhiS.E k) Tryz.f92 laws_szPhiS.c (laws_szPhiS.s k) (laws_szPhiS.L (laws_szPhiS.l0 k)) x := by kernel_rfl
theorem laws_szPhiS.r0 (l0 : (List tPhiD) → Int → Int → Option laws_szPhiS.R) (k : Nat) (x) : laws_szPhiS.l0_ k l0 x.1.1.1 x.1.2.1.1 x.1.2.2.1.1 = roundOf tab (laws_szPhiS.E k) (laws_szPhiS.L l0) laws_szPhiS.c (fin tab Tryz.f92 (laws_szPhiS.s k)) 0 (laws_szPhiS.L0 l0) x := by kernel_rfl
theorem laws_szPhiS.sound : ∀ k, Sound Tryz.prog 92 (laws_szPhiS.s k) := sound_of mixed tab_ok (f := 92) (fn := Tryz.f92) (c := laws_szPhiS.c) (by kernel_rfl) (by kernel_rfl) (by kernel_rfl) ⟨[⟨false, [.lst tPhi]⟩, ⟨false, [.int .i64]⟩], [], false, [⟨false, [.int .i64]⟩], [], []⟩ (by kernel_rfl) (by kernel_rfl) (fun k => (laws_szPhiS.s k).pf) laws_szPhiS.E (fun k => (EntsOK.cons (laws_szPhi.sound k) EntsOK.nil)) (fun k => laws_szPhiS.L (laws_szPhiS.l0 k)) (fun k => ⟨rfl, trivial⟩) ⟨fun _ => rfl, trivial⟩ (fun k => ⟨⟨(laws_szPhiS.L0 (laws_szPhiS.l0 (k + 1))).l, rfl, fun x => laws_szPhiS.r0 (laws_szPhiS.l0 k) k x⟩, trivial⟩) laws_szPhiS.eq
end
end Go.Proofs.YtkfehogikjcgkaaGreat.V
namespace Go.Proofs.YtkfehogikjcgkaaGreat.V
open Go
set_option linter.unusedVariables false
noncomputable section
/-! ### laws.szInstS: function 93 -/
abbrev laws_szInstS.R := (((Int × Unit) × Unit) × Unit)
def laws_szInstS.l0_ (k : Nat) (l0 : (List tInstD) → Int → Int → Option laws_szInstS.R) (a0 : List tInstD) (a1 : Int) (a2 : Int) : Option laws_szInstS.R := bif decide (a2 < ((List.length a0 : Nat) : Int)) then (bif (decide (0 ≤ a2)) && (decide (a2 < ((List.length a0 : Nat) : Int))) then (Option.bind (laws_szInst.f k (List.getD a0 (Int.toNat a2) tInstZ) a1) fun r1 => bif decide (r1.1.1.1 < 0) then (some (((-1, ()), ()), ())) else (l0 a0 r1.1.1.1 (IntKind.wrap .i64 (a2 + 1)))) else none) else (some (((a1, ()), ()), ()))
def laws_szInstS.all : Nat → ((List tInstD) → Int → Int → Option laws_szInstS.R) × Unit
  | 0 => (fun _ _ _ => none, ())
  | k + 1 => (laws_szInstS.l0_ k (laws_szInstS.all k).1, ())
def laws_szInstS.l0 (k : Nat) : (List tInstD) → Int → Int → Option laws_szInstS.R := (laws_szInstS.all k).1
def laws_szInstS.f (k : Nat) (a0 : List tInstD) (a1 : Int) : Option laws_szInstS.R := bif decide (IntKind.wrap .i64 (a1 - ((List.length a0 : Nat) : Int)) < 0) then (some (((-1, ()), ()), ())) else (laws_szInstS.l0 k a0 (IntKind.wrap .i64 (a1 - ((List.length a0 : Nat) : Int))) 0)
def laws_szInstS.s (k : Nat) : FS := ⟨[⟨false, [.lst tInst]⟩, ⟨false, [.int .i64]⟩], [], false, [⟨false, [.int .i64]⟩], [], [], fun x => laws_szInstS.f k x.1.1.1 x.1.2.1.1⟩
def laws_szInstS.E (k : Nat) : Ents := [(⟨15, []⟩, laws_szInst.s k)]
def laws_szInstS.L0 (l : (List tInstD) → Int → Int → Option laws_szInstS.R) : LS laws_szInstS.R := ⟨[], [(0, ⟨false, [.lst tInst]⟩), (1, ⟨false, [.int .i64]⟩), (5, ⟨false, [.int .i64]⟩)], [], fun x => l x.1.1.1 x.1.2.1.1 x.1.2.2.1.1⟩
def laws_szInstS.L (l0 : (List tInstD) → Int → Int → Option laws_szInstS.R) : List (LS laws_szInstS.R) := [laws_szInstS.L0 l0]
def laws_szInstS.c : Code := Tryz.f93.body.getD .skip
theorem laws_szInstS.eq (k : Nat) (x) : (laws_szInstS.s k).pf x = execF tab (laws_szInstS.E k) Tryz.f93 laws_szInstS.c (laws_szInstS.s k) (laws_szInstS.L (laws_szInstS.l0 k)) x := by kernel_rfl
theorem laws_szInstS.r0 (l0 : (List tInstD) → Int → Int → Option laws_szInstS.R) (k : Nat) (x) : laws_szInstS.l0_ k l0 x.1.1.1 x.1.2.1.1 x.1.2.2.1.1 = roundOf tab (laws_szInstS.E k) (laws_szInstS.L l0) laws_szInstS.c (fin tab Tryz.f93 (laws_szInstS.s k)) 0 (laws_szInstS.L0 l0) x := by kernel_rfl
theorem laws_szInstS.sound : ∀ k, Sound Tryz.prog 93 (laws_szInstS.s k) := sound_of mixed tab_ok (f := 93) (fn := Tryz.f93) (c := laws_szInstS.c) (by kernel_rfl) (by kernel_rfl) (by kernel_rfl) ⟨[⟨false, [.lst tInst]⟩, ⟨false, [.int .i64]⟩], [], false, [⟨false, [.int .i64]⟩], [], []⟩ (by kernel_rfl) (by kernel_rfl) (fun k => (laws_szInstS.s k).pf) laws_szInstS.E (fun k => (EntsOK.cons (laws_szInst.sound k) EntsOK.nil)) (fun k => laws_szInstS.L (laws_szInstS.l0 k)) (fun k => ⟨rfl, trivial⟩) ⟨fun _ => rfl, trivial⟩ (fun k => ⟨⟨(laws_szInstS.L0 (laws_szInstS.l0 (k + 1))).l, rfl, fun x => laws_szInstS.r0 (laws_szInstS.l0 k) k x⟩, trivial⟩) laws_szInstS.eq
end
end Go.Proofs.YtkfehogikjcgkaaGreat.V
namespace Go.Proofs.YtkfehogikjcgkaaGreat.V
open Go
set_option linter.unusedVariables false
noncomputable section
/-! ### laws.szBlock: function 49 -/
abbrev laws_szBlock.R := (((Int × Unit) × Unit) × Unit)
def laws_szBlock.f (k : Nat) (a0 : tBlockD) (a1 : Int) : Option laws_szBlock.R := Option.bind (laws_szPhiS.f k a0.1 a1) fun r1 => bif decide (r1.1.1.1 < 0) then (some (((-1, ()), ()), ())) else (Option.bind (laws_szInstS.f k a0.2.1 r1.1.1.1) fun r2 => bif decide (r2.1.1.1 < 0) then (some (((-1, ()), ()), ())) else (some (((r2.1.1.1, ()), ()), ())))
def laws_szBlock.s (k : Nat) : FS := ⟨[⟨true, [.lst tPhi, .lst tInst, .int .i64, .int .i64, .int .i64, .int .i64]⟩, ⟨false, [.int .i64]⟩], [], false, [⟨false, [.int .i64]⟩], [], [], fun x => laws_szBlock.f k x.1.1 x.1.2.1.1⟩
def laws_szBlock.E (k : Nat) : Ents := [(⟨92, []⟩, laws_szPhiS.s k), (⟨93, []⟩, laws_szInstS.s k)]
def laws_szBlock.L : List (LS laws_szBlock.R) := []
def laws_szBlock.c : Code := Tryz.f49.body.getD .skip
theorem laws_szBlock.eq (k : Nat) (x) : (laws_szBlock.s k).pf x = execF tab (laws_szBlock.E k) Tryz.f49 laws_szBlock.c (laws_szBlock.s k) laws_szBlock.L x := by kernel_rfl
theorem laws_szBlock.sound : ∀ k, Sound Tryz.prog 49 (laws_szBlock.s k) := sound_of mixed tab_ok (f := 49) (fn := Tryz.f49) (c := laws_szBlock.c) (by kernel_rfl) (by kernel_rfl) (by kernel_rfl) ⟨[⟨true, [.lst tPhi, .lst tInst, .int .i64, .int .i64, .int .i64, .int .i64]⟩, ⟨false, [.int .i64]⟩], [], false, [⟨false, [.int .i64]⟩], [], []⟩ (by kernel_rfl) (by kernel_rfl) (fun k => (laws_szBlock.s k).pf) laws_szBlock.E (fun k => (EntsOK.cons (laws_szPhiS.sound k) (EntsOK.cons (laws_szInstS.sound k) EntsOK.nil))) (fun k => laws_szBlock.L) (fun k => trivial) trivial (fun k => trivial) laws_szBlock.eq
end
end Go.Proofs.YtkfehogikjcgkaaGreat.V
namespace Go.Proofs.YtkfehogikjcgkaaGreat.V
open Go
set_option linter.unusedVariables false
noncomputable section
/-! ### laws.szBlockS: function 23 -/
abbrev laws_szBlockS.R := (((Int × Unit) × Unit) × Unit)
def laws_szBlockS.l0_ (k : Nat) (l0 : (List tBlockD) → Int → Int → Option laws_szBlockS.R) (a0 : List tBlockD) (a1 : Int) (a2 : Int) : Option laws_szBlockS.R := bif decide (a2 < ((List.length a0 : Nat) : Int)) then (bif (decide (0 ≤ a2)) && (decide (a2 < ((List.length a0 : Nat) : Int))) then (Option.bind (laws_szBlock.f k (List.getD a0 (Int.toNat a2) tBlockZ) a1) fun r1 => bif decide (r1.1.1.1 < 0) then (some (((-1, ()), ()), ())) else (l0 a0 r1.1.1.1 (IntKind.wrap .i64 (a2 + 1)))) else none) else (some (((a1, ()), ()), ()))
def laws_szBlockS.all : Nat → ((List tBlockD) → Int → Int → Option laws_szBlockS.R) × Unit
  | 0 => (fun _ _ _ => none, ())
  | k + 1 => (laws_szBlockS.l0_ k (laws_szBlockS.all k).1, ())
def laws_szBlockS.l0 (k : Nat) : (List tBlockD) → Int → Int → Option laws_szBlockS.R := (laws_szBlockS.all k).1
def laws_szBlockS.f (k : Nat) (a0 : List tBlockD) (a1 : Int) : Option laws_szBlockS.R := bif decide (IntKind.wrap .i64 (a1 - ((List.length a0 : Nat) : Int)) < 0) then (some (((-1, ()), ()), ())) else (laws_szBlockS.l0 k a0 (IntKind.wrap .i64 (a1 - ((List.length a0 : Nat) : Int))) 0)
def laws_szBlockS.s (k : Nat) : FS := ⟨[⟨false, [.lst tBlock]⟩, ⟨false, [.int .i64]⟩], [], false, [⟨false, [.int .i64]⟩], [], [], fun x => laws_szBlockS.f k x.1.1.1 x.1.2.1.1⟩
def laws_szBlockS.E (k : Nat) : Ents := [(⟨49, []⟩, laws_szBlock.s k)]
def laws_szBlockS.L0 (l : (List tBlockD) → Int → Int → Option laws_szBlockS.R) : LS laws_szBlockS.R := ⟨[], [(0, ⟨false, [.lst tBlock]⟩), (1, ⟨false, [.int .i64]⟩), (5, ⟨false, [.int .i64]⟩)], [], fun x => l x.1.1.1 x.1.2.1.1 x.1.2.2.1.1⟩
def laws_szBlockS.L (l0 : (List tBlockD) → Int → Int → Option laws_szBlockS.R) : List (LS laws_szBlockS.R) := [laws_szBlockS.L0 l0]
def laws_szBlockS.c : Code := Tryz.f23.body.getD .skip
theorem laws_szBlockS.eq (k : Nat) (x) : (laws_szBlockS.s k).pf x = execF tab (laws_szBlockS.E k) Tryz.f23 laws_szBlockS.c (laws_szBlockS.s k) (laws_szBlockS.L (laws_szBlockS.l0 k)) x := by kernel_rfl
theorem laws_szBlockS.r0 (l0 : (List tBlockD) → Int → Int → Option laws_szBlockS.R) (k : Nat) (x) : laws_szBlockS.l0_ k l0 x.1.1.1 x.1.2.1.1 x.1.2.2.1.1 = roundOf tab (laws_szBlockS.E k) (laws_szBlockS.L l0) laws_szBlockS.c (fin tab Tryz.f23 (laws_szBlockS.s k)) 0 (laws_szBlockS.L0 l0) x := by kernel_rfl
theorem laws_szBlockS.sound : ∀ k, Sound Tryz.prog 23 (laws_szBlockS.s k) := sound_of mixed tab_ok (f := 23) (fn := Tryz.f23) (c := laws_szBlockS.c) (by kernel_rfl) (by kernel_rfl) (by kernel_rfl) ⟨[⟨false, [.lst tBlock]⟩, ⟨false, [.int .i64]⟩], [], false, [⟨false, [.int .i64]⟩], [], []⟩ (by kernel_rfl) (by kernel_rfl) (fun k => (laws_szBlockS.s k).pf) laws_szBlockS.E (fun k => (EntsOK.cons (laws_szBlock.sound k) EntsOK.nil)) (fun k => laws_szBlockS.L (laws_szBlockS.l0 k)) (fun k => ⟨rfl, trivial⟩) ⟨fun _ => rfl, trivial⟩ (fun k => ⟨⟨(laws_szBlockS.L0 (laws_szBlockS.l0 (k + 1))).l, rfl, fun x => laws_szBlockS.r0 (laws_szBlockS.l0 k) k x⟩, trivial⟩) laws_szBlockS.eq
end
end Go.Proofs.YtkfehogikjcgkaaGreat.V
namespace Go.Proofs.YtkfehogikjcgkaaGreat.V
open Go
set_option linter.unusedVariables false
noncomputable section
/-! ### laws.szFunc: function 5 -/
abbrev laws_szFunc.R := (((Int × Unit) × Unit) × Unit)
def laws_szFunc.f (k : Nat) (a0 : tFuncD) (a1 : Int) : Option laws_szFunc.R := Option.bind (laws_szInt64S.f k a0.1 a1) fun r1 => bif decide (r1.1.1.1 < 0) then (some (((-1, ()), ()), ())) else (Option.bind (laws_szBlockS.f k a0.2.2.1 r1.1.1.1) fun r2 => bif decide (r2.1.1.1 < 0) then (some (((-1, ()), ()), ())) else (some (((r2.1.1.1, ()), ()), ())))
def laws_szFunc.s (k : Nat) : FS := ⟨[⟨true, [.lst (.int .i64), .int .i64, .lst tBlock]⟩, ⟨false, [.int .i64]⟩], [], false, [⟨false, [.int .i64]⟩], [], [], fun x => laws_szFunc.f k x.1.1 x.1.2.1.1⟩
def laws_szFunc.E (k : Nat) : Ents := [(⟨22, []⟩, laws_szInt64S.s k), (⟨23, []⟩, laws_szBlockS.s k)]
def laws_szFunc.L : List (LS laws_szFunc.R) := []
def laws_szFunc.c : Code := Tryz.f5.body.getD .skip
theorem laws_szFunc.eq (k : Nat) (x) : (laws_szFunc.s k).pf x = execF tab (laws_szFunc.E k) Tryz.f5 laws_szFunc.c (laws_szFunc.s k) laws_szFunc.L x := by kernel_rfl
theorem laws_szFunc.sound : ∀ k, Sound Tryz.prog 5 (laws_szFunc.s k) := sound_of mixed tab_ok (f := 5) (fn := Tryz.f5) (c := laws_szFunc.c) (by kernel_rfl) (by kernel_rfl) (by kernel_rfl) ⟨[⟨true, [.lst (.int .i64), .int .i64, .lst tBlock]⟩, ⟨false, [.int .i64]⟩], [], false, [⟨false, [.int .i64]⟩], [], []⟩ (by kernel_rfl) (by kernel_rfl) (fun k => (laws_szFunc.s k).pf) laws_szFunc.E (fun k => (EntsOK.cons (laws_szInt64S.sound k) (EntsOK.cons (laws_szBlockS.sound k) EntsOK.nil))) (fun k => laws_szFunc.L) (fun k => trivial) trivial (fun k => trivial) laws_szFunc.eq
end
end Go.Proofs.YtkfehogikjcgkaaGreat.V
namespace Go.Proofs.YtkfehogikjcgkaaGreat.V
open Go
set_option linter.unusedVariables false
noncomputable section
/-! ### laws.toInt64S: function 8 -/
abbrev laws_toInt64S.R := (((Unit × Unit) × Unit) × ((List Int) × Unit))
def laws_toInt64S.l0_ (k : Nat) (l0 : (List Int) → Int → (List Int) → Option laws_toInt64S.R) (a0 : List Int) (a1 : Int) (a2 : List Int) : Option laws_toInt64S.R := bif decide (a1 < ((List.length a0 : Nat) : Int)) then (bif (decide (0 ≤ a1)) && (decide (a1 < ((List.length a0 : Nat) : Int))) then (bif (decide (0 ≤ a1)) && (decide (a1 < ((List.length a2 : Nat) : Int))) then (l0 a0 (IntKind.wrap .i64 (a1 + 1)) (List.set a2 (Int.toNat a1) (List.getD a0 (Int.toNat a1) 0))) else none) else none) else (some ((((), ()), ()), (a2, ())))
def laws_toInt64S.all : Nat → ((List Int) → Int → (List Int) → Option laws_toInt64S.R) × Unit
  | 0 => (fun _ _ _ => none, ())
  | k + 1 => (laws_toInt64S.l0_ k (laws_toInt64S.all k).1, ())
def laws_toInt64S.l0 (k : Nat) : (List Int) → Int → (List Int) → Option laws_toInt64S.R := (laws_toInt64S.all k).1
def laws_toInt64S.f (k : Nat) (a0 : List Int) : Option laws_toInt64S.R := bif (decide (((List.length a0 : Nat) : Int) = ((List.length a0 : Nat) : Int))) && (decide (0 ≤ ((List.length a0 : Nat) : Int))) && (decide (((List.length a0 : Nat) : Int) * 8 ≤ 281474976710656)) then (laws_toInt64S.l0 k a0 0 (List.replicate (Int.toNat ((List.length a0 : Nat) : Int)) 0)) else none
def laws_toInt64S.s (k : Nat) : FS := ⟨[⟨false, [.lst (.int .i64)]⟩], [], false, [⟨false, [.own 100]⟩], [(100, .row true (.int .i64))], [], fun x => laws_toInt64S.f k x.1.1.1⟩
def laws_toInt64S.E (k : Nat) : Ents := []
def laws_toInt64S.L0 (l : (List Int) → Int → (List Int) → Option laws_toInt64S.R) : LS laws_toInt64S.R := ⟨[], [(0, ⟨false, [.lst (.int .i64)]⟩), (3, ⟨false, [.own 100000]⟩), (4, ⟨false, [.int .i64]⟩)], [(100000, .row true (.int .i64))], fun x => l x.1.1.1 x.1.2.2.1.1 x.2.1⟩
def laws_toInt64S.L (l0 : (List Int) → Int → (List Int) → Option laws_toInt64S.R) : List (LS laws_toInt64S.R) := [laws_toInt64S.L0 l0]
def laws_toInt64S.c : Code := Tryz.f8.body.getD .skip
theorem laws_toInt64S.eq (k : Nat) (x) : (laws_toInt64S.s k).pf x = execF tab (laws_toInt64S.E k) Tryz.f8 laws_toInt64S.c (laws_toInt64S.s k) (laws_toInt64S.L (laws_toInt64S.l0 k)) x := by kernel_rfl
theorem laws_toInt64S.r0 (l0 : (List Int) → Int → (List Int) → Option laws_toInt64S.R) (k : Nat) (x) : laws_toInt64S.l0_ k l0 x.1.1.1 x.1.2.2.1.1 x.2.1 = roundOf tab (laws_toInt64S.E k) (laws_toInt64S.L l0) laws_toInt64S.c (fin tab Tryz.f8 (laws_toInt64S.s k)) 0 (laws_toInt64S.L0 l0) x := by kernel_rfl
theorem laws_toInt64S.sound : ∀ k, Sound Tryz.prog 8 (laws_toInt64S.s k) := sound_of mixed tab_ok (f := 8) (fn := Tryz.f8) (c := laws_toInt64S.c) (by kernel_rfl) (by kernel_rfl) (by kernel_rfl) ⟨[⟨false, [.lst (.int .i64)]⟩], [], false, [⟨false, [.own 100]⟩], [(100, .row true (.int .i64))], []⟩ (by kernel_rfl) (by kernel_rfl) (fun k => (laws_toInt64S.s k).pf) laws_toInt64S.E (fun k => EntsOK.nil) (fun k => laws_toInt64S.L (laws_toInt64S.l0 k)) (fun k => ⟨rfl, trivial⟩) ⟨fun _ => rfl, trivial⟩ (fun k => ⟨⟨(laws_toInt64S.L0 (laws_toInt64S.l0 (k + 1))).l, rfl, fun x => laws_toInt64S.r0 (laws_toInt64S.l0 k) k x⟩, trivial⟩) laws_toInt64S.eq
end
end Go.Proofs.YtkfehogikjcgkaaGreat.V
namespace Go.Proofs.YtkfehogikjcgkaaGreat.V
open Go
set_option linter.unusedVariables false
noncomputable section
/-! ### laws.toInst: function 17 -/
abbrev laws_toInst.R := (((Int × Int × Int × Int × Int × Int × Unit × Unit) × Unit) × ((List Int) × Unit))
def laws_toInst.f (k : Nat) (a0 : tInstD) : Option laws_toInst.R := Option.bind (laws_toInt64S.f k a0.2.2.2.2.2.2.1) fun r1 => some (((a0.1, a0.2.1, a0.2.2.1, a0.2.2.2.1, a0.2.2.2.2.1, a0.2.2.2.2.2.1, (), ()), ()), (r1.2.1, ()))
def laws_toInst.s (k : Nat) : FS := ⟨[⟨true, [.int .i64, .int .i64, .int .i64, .int .i64, .int .i64, .int .i64, .lst (.int .i64)]⟩], [], false, [⟨true, [.int .i64, .int .i64, .int .i64, .int .i64, .int .i64, .int .i64, .own 100]⟩], [(100, .row true (.int .i64))], [], fun x => laws_toInst.f k x.1.1⟩
def laws_toInst.E (k : Nat) : Ents := [(⟨8, []⟩, laws_toInt64S.s k)]
def laws_toInst.L : List (LS laws_toInst.R) := []
def laws_toInst.c : Code := Tryz.f17.body.getD .skip
theorem laws_toInst.eq (k : Nat) (x) : (laws_toInst.s k).pf x = execF tab (laws_toInst.E k) Tryz.f17 laws_toInst.c (laws_toInst.s k) laws_toInst.L x := by kernel_rfl
theorem laws_toInst.sound : ∀ k, Sound Tryz.prog 17 (laws_toInst.s k) := sound_of mixed tab_ok (f := 17) (fn := Tryz.f17) (c := laws_toInst.c) (by kernel_rfl) (by kernel_rfl) (by kernel_rfl) ⟨[⟨true, [.int .i64, .int .i64, .int .i64, .int .i64, .int .i64, .int .i64, .lst (.int .i64)]⟩], [], false, [⟨true, [.int .i64, .int .i64, .int .i64, .int .i64, .int .i64, .int .i64, .own 100]⟩], [(100, .row true (.int .i64))], []⟩ (by kernel_rfl) (by kernel_rfl) (fun k => (laws_toInst.s k).pf) laws_toInst.E (fun k => (EntsOK.cons (laws_toInt64S.sound k) EntsOK.nil)) (fun k => laws_toInst.L) (fun k => trivial) trivial (fun k => trivial) laws_toInst.eq
end
end Go.Proofs.YtkfehogikjcgkaaGreat.V
namespace Go.Proofs.YtkfehogikjcgkaaGreat.V
open Go
set_option linter.unusedVariables false
noncomputable section
/-! ### laws.toPhi: function 134 -/
abbrev laws_toPhi.R := (((Int × Unit × Unit) × Unit) × ((List Int) × Unit))
def laws_toPhi.f (k : Nat) (a0 : tPhiD) : Option laws_toPhi.R := Option.bind (laws_toInt64S.f k a0.2.1) fun r1 => some (((a0.1, (), ()), ()), (r1.2.1, ()))
def laws_toPhi.s (k : Nat) : FS := ⟨[⟨true, [.int .i64, .lst (.int .i64)]⟩], [], false, [⟨true, [.int .i64, .own 100]⟩], [(100, .row true (.int .i64))], [], fun x => laws_toPhi.f k x.1.1⟩
def laws_toPhi.E (k : Nat) : Ents := [(⟨8, []⟩, laws_toInt64S.s k)]
def laws_toPhi.L : List (LS laws_toPhi.R) := []
def laws_toPhi.c : Code := Tryz.f134.body.getD .skip
theorem laws_toPhi.eq (k : Nat) (x) : (laws_toPhi.s k).pf x = execF tab (laws_toPhi.E k) Tryz.f134 laws_toPhi.c (laws_toPhi.s k) laws_toPhi.L x := by kernel_rfl
theorem laws_toPhi.sound : ∀ k, Sound Tryz.prog 134 (laws_toPhi.s k) := sound_of mixed tab_ok (f := 134) (fn := Tryz.f134) (c := laws_toPhi.c) (by kernel_rfl) (by kernel_rfl) (by kernel_rfl) ⟨[⟨true, [.int .i64, .lst (.int .i64)]⟩], [], false, [⟨true, [.int .i64, .own 100]⟩], [(100, .row true (.int .i64))], []⟩ (by kernel_rfl) (by kernel_rfl) (fun k => (laws_toPhi.s k).pf) laws_toPhi.E (fun k => (EntsOK.cons (laws_toInt64S.sound k) EntsOK.nil)) (fun k => laws_toPhi.L) (fun k => trivial) trivial (fun k => trivial) laws_toPhi.eq
end
end Go.Proofs.YtkfehogikjcgkaaGreat.V
namespace Go.Proofs.YtkfehogikjcgkaaGreat.V
open Go
set_option linter.unusedVariables false
noncomputable section
/-! ### laws.toPhiS: function 97 -/
abbrev laws_toPhiS.R := (((Unit × Unit) × Unit) × ((List tPhiD) × Unit))
def laws_toPhiS.l0_ (k : Nat) (l0 : (List tPhiD) → Int → (List tPhiD) → Option laws_toPhiS.R) (a0 : List tPhiD) (a1 : Int) (a2 : List tPhiD) : Option laws_toPhiS.R := bif decide (a1 < ((List.length a0 : Nat) : Int)) then (bif (decide (0 ≤ a1)) && (decide (a1 < ((List.length a0 : Nat) : Int))) then (Option.bind (laws_toPhi.f k (List.getD a0 (Int.toNat a1) tPhiZ)) fun r1 => bif (decide (0 ≤ a1)) && (decide (a1 < ((List.length a2 : Nat) : Int))) then (l0 a0 (IntKind.wrap .i64 (a1 + 1)) (List.set a2 (Int.toNat a1) (r1.1.1.1, r1.2.1, ()))) else none) else none) else (some ((((), ()), ()), (a2, ())))
def laws_toPhiS.all : Nat → ((List tPhiD) → Int → (List tPhiD) → Option laws_toPhiS.R) × Unit
  | 0 => (fun _ _ _ => none, ())
  | k + 1 => (laws_toPhiS.l0_ k (laws_toPhiS.all k).1, ())
def laws_toPhiS.l0 (k : Nat) : (List tPhiD) → Int → (List tPhiD) → Option laws_toPhiS.R := (laws_toPhiS.all k).1
def laws_toPhiS.f (k : Nat) (a0 : List tPhiD) : Option laws_toPhiS.R := bif (decide (((List.length a0 : Nat) : Int) = ((List.length a0 : Nat) : Int))) && (decide (0 ≤ ((List.length a0 : Nat) : Int))) && (decide (((List.length a0 : Nat) : Int) * 32 ≤ 281474976710656)) then (laws_toPhiS.l0 k a0 0 (List.replicate (Int.toNat ((List.length a0 : Nat) : Int)) tPhiZ)) else none
def laws_toPhiS.s (k : Nat) : FS := ⟨[⟨false, [.lst tPhi]⟩], [], false, [⟨false, [.own 100]⟩], [(100, .row true tPhi)], [], fun x => laws_toPhiS.f k x.1.1.1⟩
def laws_toPhiS.E (k : Nat) : Ents := [(⟨134, []⟩, laws_toPhi.s k)]
def laws_toPhiS.L0 (l : (List tPhiD) → Int → (List tPhiD) → Option laws_toPhiS.R) : LS laws_toPhiS.R := ⟨[], [(0, ⟨false, [.lst tPhi]⟩), (3, ⟨false, [.own 100000]⟩), (4, ⟨false, [.int .i64]⟩)], [(100000, .row true tPhi)], fun x => l x.1.1.1 x.1.2.2.1.1 x.2.1⟩
def laws_toPhiS.L (l0 : (List tPhiD) → Int → (List tPhiD) → Option laws_toPhiS.R) : List (LS laws_toPhiS.R) := [laws_toPhiS.L0 l0]
def laws_toPhiS.c : Code := Tryz.f97.body.getD .skip
theorem laws_toPhiS.eq (k : Nat) (x) : (laws_toPhiS.s k).pf x = execF tab (laws_toPhiS.E k) Tryz.f97 laws_toPhiS.c (laws_toPhiS.s k) (laws_toPhiS.L (laws_toPhiS.l0 k)) x := by kernel_rfl
theorem laws_toPhiS.r0 (l0 : (List tPhiD) → Int → (List tPhiD) → Option laws_toPhiS.R) (k : Nat) (x) : laws_toPhiS.l0_ k l0 x.1.1.1 x.1.2.2.1.1 x.2.1 = roundOf tab (laws_toPhiS.E k) (laws_toPhiS.L l0) laws_toPhiS.c (fin tab Tryz.f97 (laws_toPhiS.s k)) 0 (laws_toPhiS.L0 l0) x := by kernel_rfl
theorem laws_toPhiS.sound : ∀ k, Sound Tryz.prog 97 (laws_toPhiS.s k) := sound_of mixed tab_ok (f := 97) (fn := Tryz.f97) (c := laws_toPhiS.c) (by kernel_rfl) (by kernel_rfl) (by kernel_rfl) ⟨[⟨false, [.lst tPhi]⟩], [], false, [⟨false, [.own 100]⟩], [(100, .row true tPhi)], []⟩ (by kernel_rfl) (by kernel_rfl) (fun k => (laws_toPhiS.s k).pf) laws_toPhiS.E (fun k => (EntsOK.cons (laws_toPhi.sound k) EntsOK.nil)) (fun k => laws_toPhiS.L (laws_toPhiS.l0 k)) (fun k => ⟨rfl, trivial⟩) ⟨fun _ => rfl, trivial⟩ (fun k => ⟨⟨(laws_toPhiS.L0 (laws_toPhiS.l0 (k + 1))).l, rfl, fun x => laws_toPhiS.r0 (laws_toPhiS.l0 k) k x⟩, trivial⟩) laws_toPhiS.eq
end
end Go.Proofs.YtkfehogikjcgkaaGreat.V
namespace Go.Proofs.YtkfehogikjcgkaaGreat.V
open Go
set_option linter.unusedVariables false
noncomputable section
/-! ### laws.toInstS: function 98 -/
abbrev laws_toInstS.R := (((Unit × Unit) × Unit) × ((List tInstD) × Unit))
def laws_toInstS.l0_ (k : Nat) (l0 : (List tInstD) → Int → (List tInstD) → Option laws_toInstS.R) (a0 : List tInstD) (a1 : Int) (a2 : List tInstD) : Option laws_toInstS.R := bif decide (a1 < ((List.length a0 : Nat) : Int)) then (bif (decide (0 ≤ a1)) && (decide (a1 < ((List.length a0 : Nat) : Int))) then (Option.bind (laws_toInst.f k (List.getD a0 (Int.toNat a1) tInstZ)) fun r1 => bif (decide (0 ≤ a1)) && (decide (a1 < ((List.length a2 : Nat) : Int))) then (l0 a0 (IntKind.wrap .i64 (a1 + 1)) (List.set a2 (Int.toNat a1) (r1.1.1.1, r1.1.1.2.1, r1.1.1.2.2.1, r1.1.1.2.2.2.1, r1.1.1.2.2.2.2.1, r1.1.1.2.2.2.2.2.1, r1.2.1, ()))) else none) else none) else (some ((((), ()), ()), (a2, ())))
def laws_toInstS.all : Nat → ((List tInstD) → Int → (List tInstD) → Option laws_toInstS.R) × Unit
  | 0 => (fun _ _ _ => none, ())
  | k + 1 => (laws_toInstS.l0_ k (laws_toInstS.all k).1, ())
def laws_toInstS.l0 (k : Nat) : (List tInstD) → Int → (List tInstD) → Option laws_toInstS.R := (laws_toInstS.all k).1
def laws_toInstS.f (k : Nat) (a0 : List tInstD) : Option laws_toInstS.R := bif (decide (((List.length a0 : Nat) : Int) = ((List.length a0 : Nat) : Int))) && (decide (0 ≤ ((List.length a0 : Nat) : Int))) && (decide (((List.length a0 : Nat) : Int) * 72 ≤ 281474976710656)) then (laws_toInstS.l0 k a0 0 (List.replicate (Int.toNat ((List.length a0 : Nat) : Int)) tInstZ)) else none
def laws_toInstS.s (k : Nat) : FS := ⟨[⟨false, [.lst tInst]⟩], [], false, [⟨false, [.own 100]⟩], [(100, .row true tInst)], [], fun x => laws_toInstS.f k x.1.1.1⟩
def laws_toInstS.E (k : Nat) : Ents := [(⟨17, []⟩, laws_toInst.s k)]
def laws_toInstS.L0 (l : (List tInstD) → Int → (List tInstD) → Option laws_toInstS.R) : LS laws_toInstS.R := ⟨[], [(0, ⟨false, [.lst tInst]⟩), (3, ⟨false, [.own 100000]⟩), (4, ⟨false, [.int .i64]⟩)], [(100000, .row true tInst)], fun x => l x.1.1.1 x.1.2.2.1.1 x.2.1⟩
def laws_toInstS.L (l0 : (List tInstD) → Int → (List tInstD) → Option laws_toInstS.R) : List (LS laws_toInstS.R) := [laws_toInstS.L0 l0]
def laws_toInstS.c : Code := Tryz.f98.body.getD .skip
theorem laws_toInstS.eq (k : Nat) (x) : (laws_toInstS.s k).pf x = execF tab (laws_toInstS.E k) Tryz.f98 laws_toInstS.c (laws_toInstS.s k) (laws_toInstS.L (laws_toInstS.l0 k)) x := by kernel_rfl
theorem laws_toInstS.r0 (l0 : (List tInstD) → Int → (List tInstD) → Option laws_toInstS.R) (k : Nat) (x) : laws_toInstS.l0_ k l0 x.1.1.1 x.1.2.2.1.1 x.2.1 = roundOf tab (laws_toInstS.E k) (laws_toInstS.L l0) laws_toInstS.c (fin tab Tryz.f98 (laws_toInstS.s k)) 0 (laws_toInstS.L0 l0) x := by kernel_rfl
theorem laws_toInstS.sound : ∀ k, Sound Tryz.prog 98 (laws_toInstS.s k) := sound_of mixed tab_ok (f := 98) (fn := Tryz.f98) (c := laws_toInstS.c) (by kernel_rfl) (by kernel_rfl) (by kernel_rfl) ⟨[⟨false, [.lst tInst]⟩], [], false, [⟨false, [.own 100]⟩], [(100, .row true tInst)], []⟩ (by kernel_rfl) (by kernel_rfl) (fun k => (laws_toInstS.s k).pf) laws_toInstS.E (fun k => (EntsOK.cons (laws_toInst.sound k) EntsOK.nil)) (fun k => laws_toInstS.L (laws_toInstS.l0 k)) (fun k => ⟨rfl, trivial⟩) ⟨fun _ => rfl, trivial⟩ (fun k => ⟨⟨(laws_toInstS.L0 (laws_toInstS.l0 (k + 1))).l, rfl, fun x => laws_toInstS.r0 (laws_toInstS.l0 k) k x⟩, trivial⟩) laws_toInstS.eq
end
end Go.Proofs.YtkfehogikjcgkaaGreat.V
namespace Go.Proofs.YtkfehogikjcgkaaGreat.V
open Go
set_option linter.unusedVariables false
noncomputable section
/-! ### laws.toTerm: function 99 -/
abbrev laws_toTerm.R := (((Int × Int × Int × Int × Unit) × Unit) × Unit)
def laws_toTerm.f (k : Nat) (a0 : tTermD) : Option laws_toTerm.R := some ((a0, ()), ())
def laws_toTerm.s (k : Nat) : FS := ⟨[⟨true, [.int .i64, .int .i64, .int .i64, .int .i64]⟩], [], false, [⟨true, [.int .i64, .int .i64, .int .i64, .int .i64]⟩], [], [], fun x => laws_toTerm.f k x.1.1⟩
def laws_toTerm.E (k : Nat) : Ents := []
def laws_toTerm.L : List (LS laws_toTerm.R) := []
def laws_toTerm.c : Code := Tryz.f99.body.getD .skip
theorem laws_toTerm.eq (k : Nat) (x) : (laws_toTerm.s k).pf x = execF tab (laws_toTerm.E k) Tryz.f99 laws_toTerm.c (laws_toTerm.s k) laws_toTerm.L x := by kernel_rfl
theorem laws_toTerm.sound : ∀ k, Sound Tryz.prog 99 (laws_toTerm.s k) := sound_of mixed tab_ok (f := 99) (fn := Tryz.f99) (c := laws_toTerm.c) (by kernel_rfl) (by kernel_rfl) (by kernel_rfl) ⟨[⟨true, [.int .i64, .int .i64, .int .i64, .int .i64]⟩], [], false, [⟨true, [.int .i64, .int .i64, .int .i64, .int .i64]⟩], [], []⟩ (by kernel_rfl) (by kernel_rfl) (fun k => (laws_toTerm.s k).pf) laws_toTerm.E (fun k => EntsOK.nil) (fun k => laws_toTerm.L) (fun k => trivial) trivial (fun k => trivial) laws_toTerm.eq
end
end Go.Proofs.YtkfehogikjcgkaaGreat.V
namespace Go.Proofs.YtkfehogikjcgkaaGreat.V
open Go
set_option linter.unusedVariables false
noncomputable section
/-! ### laws.toBlock: function 56 -/
abbrev laws_toBlock.R := (((Unit × Unit × Int × Int × Int × Int × Unit) × Unit) × ((List tPhiD) × (List tInstD) × Unit))
def laws_toBlock.f (k : Nat) (a0 : tBlockD) : Option laws_toBlock.R := Option.bind (laws_toPhiS.f k a0.1) fun r1 => Option.bind (laws_toInstS.f k a0.2.1) fun r2 => Option.bind (laws_toTerm.f k a0.2.2) fun r3 => some ((((), (), r3.1.1.1, r3.1.1.2.1, r3.1.1.2.2.1, r3.1.1.2.2.2.1, ()), ()), (r1.2.1, r2.2.1, ()))
def laws_toBlock.s (k : Nat) : FS := ⟨[⟨true, [.lst tPhi, .lst tInst, .int .i64, .int .i64, .int .i64, .int .i64]⟩], [], false, [⟨true, [.own 100, .own 101, .int .i64, .int .i64, .int .i64, .int .i64]⟩], [(100, .row true tPhi), (101, .row true tInst)], [], fun x => laws_toBlock.f k x.1.1⟩
def laws_toBlock.E (k : Nat) : Ents := [(⟨97, []⟩, laws_toPhiS.s k), (⟨98, []⟩, laws_toInstS.s k), (⟨99, []⟩, laws_toTerm.s k)]
def laws_toBlock.L : List (LS laws_toBlock.R) := []
def laws_toBlock.c : Code := Tryz.f56.body.getD .skip
theorem laws_toBlock.eq (k : Nat) (x) : (laws_toBlock.s k).pf x = execF tab (laws_toBlock.E k) Tryz.f56 laws_toBlock.c (laws_toBlock.s k) laws_toBlock.L x := by kernel_rfl
theorem laws_toBlock.sound : ∀ k, Sound Tryz.prog 56 (laws_toBlock.s k) := sound_of mixed tab_ok (f := 56) (fn := Tryz.f56) (c := laws_toBlock.c) (by kernel_rfl) (by kernel_rfl) (by kernel_rfl) ⟨[⟨true, [.lst tPhi, .lst tInst, .int .i64, .int .i64, .int .i64, .int .i64]⟩], [], false, [⟨true, [.own 100, .own 101, .int .i64, .int .i64, .int .i64, .int .i64]⟩], [(100, .row true tPhi), (101, .row true tInst)], []⟩ (by kernel_rfl) (by kernel_rfl) (fun k => (laws_toBlock.s k).pf) laws_toBlock.E (fun k => (EntsOK.cons (laws_toPhiS.sound k) (EntsOK.cons (laws_toInstS.sound k) (EntsOK.cons (laws_toTerm.sound k) EntsOK.nil)))) (fun k => laws_toBlock.L) (fun k => trivial) trivial (fun k => trivial) laws_toBlock.eq
end
end Go.Proofs.YtkfehogikjcgkaaGreat.V
namespace Go.Proofs.YtkfehogikjcgkaaGreat.V
open Go
set_option linter.unusedVariables false
noncomputable section
/-! ### laws.toBlockS: function 29 -/
abbrev laws_toBlockS.R := (((Unit × Unit) × Unit) × ((List tBlockD) × Unit))
def laws_toBlockS.l0_ (k : Nat) (l0 : (List tBlockD) → Int → (List tBlockD) → Option laws_toBlockS.R) (a0 : List tBlockD) (a1 : Int) (a2 : List tBlockD) : Option laws_toBlockS.R := bif decide (a1 < ((List.length a0 : Nat) : Int)) then (bif (decide (0 ≤ a1)) && (decide (a1 < ((List.length a0 : Nat) : Int))) then (Option.bind (laws_toBlock.f k (List.getD a0 (Int.toNat a1) tBlockZ)) fun r1 => bif (decide (0 ≤ a1)) && (decide (a1 < ((List.length a2 : Nat) : Int))) then (l0 a0 (IntKind.wrap .i64 (a1 + 1)) (List.set a2 (Int.toNat a1) (r1.2.1, r1.2.2.1, r1.1.1.2.2.1, r1.1.1.2.2.2.1, r1.1.1.2.2.2.2.1, r1.1.1.2.2.2.2.2.1, ()))) else none) else none) else (some ((((), ()), ()), (a2, ())))
def laws_toBlockS.all : Nat → ((List tBlockD) → Int → (List tBlockD) → Option laws_toBlockS.R) × Unit
  | 0 => (fun _ _ _ => none, ())
  | k + 1 => (laws_toBlockS.l0_ k (laws_toBlockS.all k).1, ())
def laws_toBlockS.l0 (k : Nat) : (List tBlockD) → Int → (List tBlockD) → Option laws_toBlockS.R := (laws_toBlockS.all k).1
def laws_toBlockS.f (k : Nat) (a0 : List tBlockD) : Option laws_toBlockS.R := bif (decide (((List.length a0 : Nat) : Int) = ((List.length a0 : Nat) : Int))) && (decide (0 ≤ ((List.length a0 : Nat) : Int))) && (decide (((List.length a0 : Nat) : Int) * 80 ≤ 281474976710656)) then (laws_toBlockS.l0 k a0 0 (List.replicate (Int.toNat ((List.length a0 : Nat) : Int)) tBlockZ)) else none
def laws_toBlockS.s (k : Nat) : FS := ⟨[⟨false, [.lst tBlock]⟩], [], false, [⟨false, [.own 100]⟩], [(100, .row true tBlock)], [], fun x => laws_toBlockS.f k x.1.1.1⟩
def laws_toBlockS.E (k : Nat) : Ents := [(⟨56, []⟩, laws_toBlock.s k)]
def laws_toBlockS.L0 (l : (List tBlockD) → Int → (List tBlockD) → Option laws_toBlockS.R) : LS laws_toBlockS.R := ⟨[], [(0, ⟨false, [.lst tBlock]⟩), (3, ⟨false, [.own 100000]⟩), (4, ⟨false, [.int .i64]⟩)], [(100000, .row true tBlock)], fun x => l x.1.1.1 x.1.2.2.1.1 x.2.1⟩
def laws_toBlockS.L (l0 : (List tBlockD) → Int → (List tBlockD) → Option laws_toBlockS.R) : List (LS laws_toBlockS.R) := [laws_toBlockS.L0 l0]
def laws_toBlockS.c : Code := Tryz.f29.body.getD .skip
theorem laws_toBlockS.eq (k : Nat) (x) : (laws_toBlockS.s k).pf x = execF tab (laws_toBlockS.E k) Tryz.f29 laws_toBlockS.c (laws_toBlockS.s k) (laws_toBlockS.L (laws_toBlockS.l0 k)) x := by kernel_rfl
theorem laws_toBlockS.r0 (l0 : (List tBlockD) → Int → (List tBlockD) → Option laws_toBlockS.R) (k : Nat) (x) : laws_toBlockS.l0_ k l0 x.1.1.1 x.1.2.2.1.1 x.2.1 = roundOf tab (laws_toBlockS.E k) (laws_toBlockS.L l0) laws_toBlockS.c (fin tab Tryz.f29 (laws_toBlockS.s k)) 0 (laws_toBlockS.L0 l0) x := by kernel_rfl
theorem laws_toBlockS.sound : ∀ k, Sound Tryz.prog 29 (laws_toBlockS.s k) := sound_of mixed tab_ok (f := 29) (fn := Tryz.f29) (c := laws_toBlockS.c) (by kernel_rfl) (by kernel_rfl) (by kernel_rfl) ⟨[⟨false, [.lst tBlock]⟩], [], false, [⟨false, [.own 100]⟩], [(100, .row true tBlock)], []⟩ (by kernel_rfl) (by kernel_rfl) (fun k => (laws_toBlockS.s k).pf) laws_toBlockS.E (fun k => (EntsOK.cons (laws_toBlock.sound k) EntsOK.nil)) (fun k => laws_toBlockS.L (laws_toBlockS.l0 k)) (fun k => ⟨rfl, trivial⟩) ⟨fun _ => rfl, trivial⟩ (fun k => ⟨⟨(laws_toBlockS.L0 (laws_toBlockS.l0 (k + 1))).l, rfl, fun x => laws_toBlockS.r0 (laws_toBlockS.l0 k) k x⟩, trivial⟩) laws_toBlockS.eq
end
end Go.Proofs.YtkfehogikjcgkaaGreat.V
namespace Go.Proofs.YtkfehogikjcgkaaGreat.V
open Go
set_option linter.unusedVariables false
noncomputable section
/-! ### laws.toFunc: function 7 -/
abbrev laws_toFunc.R := (((Unit × Int × Unit × Unit) × Unit) × ((List Int) × (List tBlockD) × Unit))
def laws_toFunc.f (k : Nat) (a0 : tFuncD) : Option laws_toFunc.R := Option.bind (laws_toInt64S.f k a0.1) fun r1 => Option.bind (laws_toBlockS.f k a0.2.2.1) fun r2 => some ((((), a0.2.1, (), ()), ()), (r1.2.1, r2.2.1, ()))
def laws_toFunc.s (k : Nat) : FS := ⟨[⟨true, [.lst (.int .i64), .int .i64, .lst tBlock]⟩], [], false, [⟨true, [.own 100, .int .i64, .own 101]⟩], [(100, .row true (.int .i64)), (101, .row true tBlock)], [], fun x => laws_toFunc.f k x.1.1⟩
def laws_toFunc.E (k : Nat) : Ents := [(⟨8, []⟩, laws_toInt64S.s k), (⟨29, []⟩, laws_toBlockS.s k)]
def laws_toFunc.L : List (LS laws_toFunc.R) := []
def laws_toFunc.c : Code := Tryz.f7.body.getD .skip
theorem laws_toFunc.eq (k : Nat) (x) : (laws_toFunc.s k).pf x = execF tab (laws_toFunc.E k) Tryz.f7 laws_toFunc.c (laws_toFunc.s k) laws_toFunc.L x := by kernel_rfl
theorem laws_toFunc.sound : ∀ k, Sound Tryz.prog 7 (laws_toFunc.s k) := sound_of mixed tab_ok (f := 7) (fn := Tryz.f7) (c := laws_toFunc.c) (by kernel_rfl) (by kernel_rfl) (by kernel_rfl) ⟨[⟨true, [.lst (.int .i64), .int .i64, .lst tBlock]⟩], [], false, [⟨true, [.own 100, .int .i64, .own 101]⟩], [(100, .row true (.int .i64)), (101, .row true tBlock)], []⟩ (by kernel_rfl) (by kernel_rfl) (fun k => (laws_toFunc.s k).pf) laws_toFunc.E (fun k => (EntsOK.cons (laws_toInt64S.sound k) (EntsOK.cons (laws_toBlockS.sound k) EntsOK.nil))) (fun k => laws_toFunc.L) (fun k => trivial) trivial (fun k => trivial) laws_toFunc.eq
end
end Go.Proofs.YtkfehogikjcgkaaGreat.V
namespace Go.Proofs.YtkfehogikjcgkaaGreat.V
open Go
set_option linter.unusedVariables false
noncomputable section
/-! ### spec.CountOf: function 26 -/
abbrev spec_CountOf.R := (((Int × Unit) × Unit) × Unit)
def spec_CountOf.l0_ (k : Nat) (l0 : Int → Int → tFuncD → Option spec_CountOf.R) (a0 : Int) (a1 : Int) (a2 : tFuncD) : Option spec_CountOf.R := bif decide (a1 < ((List.length a2.2.2.1 : Nat) : Int)) then (bif (decide (0 ≤ a1)) && (decide (a1 < ((List.length a2.2.2.1 : Nat) : Int))) then (bif (decide (0 ≤ a1)) && (decide (a1 < ((List.length a2.2.2.1 : Nat) : Int))) then (l0 (IntKind.wrap .i64 (a0 + (IntKind.wrap .i64 (((List.length ((List.getD a2.2.2.1 (Int.toNat a1) tBlockZ).1) : Nat) : Int) + ((List.length ((List.getD a2.2.2.1 (Int.toNat a1) tBlockZ).2.1) : Nat) : Int))))) (IntKind.wrap .i64 (a1 + 1)) a2) else none) else none) else (some (((a0, ()), ()), ()))
def spec_CountOf.all : Nat → (Int → Int → tFuncD → Option spec_CountOf.R) × Unit
  | 0 => (fun _ _ _ => none, ())
  | k + 1 => (spec_CountOf.l0_ k (spec_CountOf.all k).1, ())
def spec_CountOf.l0 (k : Nat) : Int → Int → tFuncD → Option spec_CountOf.R := (spec_CountOf.all k).1
def spec_CountOf.f (k : Nat) (a0 : tFuncD) : Option spec_CountOf.R := spec_CountOf.l0 k ((List.length a0.1 : Nat) : Int) 0 a0
def spec_CountOf.s (k : Nat) : FS := ⟨[⟨true, [.lst (.int .i64), .int .i64, .lst tBlock]⟩], [], false, [⟨false, [.int .i64]⟩], [], [], fun x => spec_CountOf.f k x.1.1⟩
def spec_CountOf.E (k : Nat) : Ents := []
def spec_CountOf.L0 (l : Int → Int → tFuncD → Option spec_CountOf.R) : LS spec_CountOf.R := ⟨[], [(1, ⟨false, [.ptr 100000 0]⟩), (3, ⟨false, [.int .i64]⟩), (4, ⟨false, [.int .i64]⟩)], [(100000, .box [.lst (.int .i64), .int .i64, .lst tBlock])], fun x => l x.1.2.1.1 x.1.2.2.1.1 x.2.1⟩
def spec_CountOf.L (l0 : Int → Int → tFuncD → Option spec_CountOf.R) : List (LS spec_CountOf.R) := [spec_CountOf.L0 l0]
def spec_CountOf.c : Code := Tryz.f26.body.getD .skip
theorem spec_CountOf.eq (k : Nat) (x) : (spec_CountOf.s k).pf x = execF tab (spec_CountOf.E k) Tryz.f26 spec_CountOf.c (spec_CountOf.s k) (spec_CountOf.L (spec_CountOf.l0 k)) x := by kernel_rfl
theorem spec_CountOf.r0 (l0 : Int → Int → tFuncD → Option spec_CountOf.R) (k : Nat) (x) : spec_CountOf.l0_ k l0 x.1.2.1.1 x.1.2.2.1.1 x.2.1 = roundOf tab (spec_CountOf.E k) (spec_CountOf.L l0) spec_CountOf.c (fin tab Tryz.f26 (spec_CountOf.s k)) 0 (spec_CountOf.L0 l0) x := by kernel_rfl
theorem spec_CountOf.sound : ∀ k, Sound Tryz.prog 26 (spec_CountOf.s k) := sound_of mixed tab_ok (f := 26) (fn := Tryz.f26) (c := spec_CountOf.c) (by kernel_rfl) (by kernel_rfl) (by kernel_rfl) ⟨[⟨true, [.lst (.int .i64), .int .i64, .lst tBlock]⟩], [], false, [⟨false, [.int .i64]⟩], [], []⟩ (by kernel_rfl) (by kernel_rfl) (fun k => (spec_CountOf.s k).pf) spec_CountOf.E (fun k => EntsOK.nil) (fun k => spec_CountOf.L (spec_CountOf.l0 k)) (fun k => ⟨rfl, trivial⟩) ⟨fun _ => rfl, trivial⟩ (fun k => ⟨⟨(spec_CountOf.L0 (spec_CountOf.l0 (k + 1))).l, rfl, fun x => spec_CountOf.r0 (spec_CountOf.l0 k) k x⟩, trivial⟩) spec_CountOf.eq
end
end Go.Proofs.YtkfehogikjcgkaaGreat.V
namespace Go.Proofs.YtkfehogikjcgkaaGreat.V
open Go
set_option linter.unusedVariables false
noncomputable section
/-! ### spec.WidthOk: function 50 -/
abbrev spec_WidthOk.R := (((Bool × Unit) × Unit) × Unit)
def spec_WidthOk.f (k : Nat) (a0 : Int) : Option spec_WidthOk.R := bif decide (a0 = 1) then (some (((true, ()), ()), ())) else (bif decide (a0 = 8) then (some (((true, ()), ()), ())) else (bif decide (a0 = 16) then (some (((true, ()), ()), ())) else (some (((decide (a0 = 32), ()), ()), ()))))
def spec_WidthOk.s (k : Nat) : FS := ⟨[⟨false, [.int .i64]⟩], [], false, [⟨false, [.bool]⟩], [], [], fun x => spec_WidthOk.f k x.1.1.1⟩
def spec_WidthOk.E (k : Nat) : Ents := []
def spec_WidthOk.L : List (LS spec_WidthOk.R) := []
def spec_WidthOk.c : Code := Tryz.f50.body.getD .skip
theorem spec_WidthOk.eq (k : Nat) (x) : (spec_WidthOk.s k).pf x = execF tab (spec_WidthOk.E k) Tryz.f50 spec_WidthOk.c (spec_WidthOk.s k) spec_WidthOk.L x := by kernel_rfl
theorem spec_WidthOk.sound : ∀ k, Sound Tryz.prog 50 (spec_WidthOk.s k) := sound_of mixed tab_ok (f := 50) (fn := Tryz.f50) (c := spec_WidthOk.c) (by kernel_rfl) (by kernel_rfl) (by kernel_rfl) ⟨[⟨false, [.int .i64]⟩], [], false, [⟨false, [.bool]⟩], [], []⟩ (by kernel_rfl) (by kernel_rfl) (fun k => (spec_WidthOk.s k).pf) spec_WidthOk.E (fun k => EntsOK.nil) (fun k => spec_WidthOk.L) (fun k => trivial) trivial (fun k => trivial) spec_WidthOk.eq
end
end Go.Proofs.YtkfehogikjcgkaaGreat.V
namespace Go.Proofs.YtkfehogikjcgkaaGreat.V
open Go
set_option linter.unusedVariables false
noncomputable section
/-! ### spec.l1In: function 25 -/
abbrev spec_l1In.R := (((Bool × Unit) × Unit) × Unit)
def spec_l1In.f (k : Nat) (a0 : Int) (a1 : Int) (a2 : Int) : Option spec_l1In.R := bif decide (a1 ≤ a0) then (some (((decide (a0 ≤ a2), ()), ()), ())) else (some (((false, ()), ()), ()))
def spec_l1In.s (k : Nat) : FS := ⟨[⟨false, [.int .i64]⟩, ⟨false, [.int .i64]⟩, ⟨false, [.int .i64]⟩], [], false, [⟨false, [.bool]⟩], [], [], fun x => spec_l1In.f k x.1.1.1 x.1.2.1.1 x.1.2.2.1.1⟩
def spec_l1In.E (k : Nat) : Ents := []
def spec_l1In.L : List (LS spec_l1In.R) := []
def spec_l1In.c : Code := Tryz.f25.body.getD .skip
theorem spec_l1In.eq (k : Nat) (x) : (spec_l1In.s k).pf x = execF tab (spec_l1In.E k) Tryz.f25 spec_l1In.c (spec_l1In.s k) spec_l1In.L x := by kernel_rfl
theorem spec_l1In.sound : ∀ k, Sound Tryz.prog 25 (spec_l1In.s k) := sound_of mixed tab_ok (f := 25) (fn := Tryz.f25) (c := spec_l1In.c) (by kernel_rfl) (by kernel_rfl) (by kernel_rfl) ⟨[⟨false, [.int .i64]⟩, ⟨false, [.int .i64]⟩, ⟨false, [.int .i64]⟩], [], false, [⟨false, [.bool]⟩], [], []⟩ (by kernel_rfl) (by kernel_rfl) (fun k => (spec_l1In.s k).pf) spec_l1In.E (fun k => EntsOK.nil) (fun k => spec_l1In.L) (fun k => trivial) trivial (fun k => trivial) spec_l1In.eq
end
end Go.Proofs.YtkfehogikjcgkaaGreat.V
namespace Go.Proofs.YtkfehogikjcgkaaGreat.V
open Go
set_option linter.unusedVariables false
noncomputable section
/-! ### spec.l1Copy: function 95 -/
abbrev spec_l1Copy.R := (((Unit × Unit) × Unit) × ((List Int) × Unit))
def spec_l1Copy.f (k : Nat) (a0 : List Int) : Option spec_l1Copy.R := bif decide ((List.length ([] : List Int) + List.length a0) * 8 ≤ 140737488355328) then (some ((((), ()), ()), (([] : List Int) ++ a0, ()))) else none
def spec_l1Copy.s (k : Nat) : FS := ⟨[⟨false, [.lst (.int .i64)]⟩], [], false, [⟨false, [.own 100]⟩], [(100, .row true (.int .i64))], [], fun x => spec_l1Copy.f k x.1.1.1⟩
def spec_l1Copy.E (k : Nat) : Ents := []
def spec_l1Copy.L : List (LS spec_l1Copy.R) := []
def spec_l1Copy.c : Code := Tryz.f95.body.getD .skip
theorem spec_l1Copy.eq (k : Nat) (x) : (spec_l1Copy.s k).pf x = execF tab (spec_l1Copy.E k) Tryz.f95 spec_l1Copy.c (spec_l1Copy.s k) spec_l1Copy.L x := by kernel_rfl
theorem spec_l1Copy.sound : ∀ k, Sound Tryz.prog 95 (spec_l1Copy.s k) := sound_of mixed tab_ok (f := 95) (fn := Tryz.f95) (c := spec_l1Copy.c) (by kernel_rfl) (by kernel_rfl) (by kernel_rfl) ⟨[⟨false, [.lst (.int .i64)]⟩], [], false, [⟨false, [.own 100]⟩], [(100, .row true (.int .i64))], []⟩ (by kernel_rfl) (by kernel_rfl) (fun k => (spec_l1Copy.s k).pf) spec_l1Copy.E (fun k => EntsOK.nil) (fun k => spec_l1Copy.L) (fun k => trivial) trivial (fun k => trivial) spec_l1Copy.eq
end
end Go.Proofs.YtkfehogikjcgkaaGreat.V
namespace Go.Proofs.YtkfehogikjcgkaaGreat.V
open Go
set_option linter.unusedVariables false
noncomputable section
/-! ### spec.l2Operands: function 54 -/
abbrev spec_l2Operands.R := (((Unit × Unit) × Unit) × ((List Int) × Unit))
def spec_l2Operands.f (k : Nat) (a0 : tInstD) : Option spec_l2Operands.R := Option.bind (spec_l1In.f k a0.1 1 17) fun r1 => bif r1.1.1.1 then (bif r1.1.1.1 then (some ((((), ()), ()), ([a0.2.2.1, a0.2.2.2.1], ()))) else (Option.bind (spec_l1In.f k a0.1 18 20) fun r2 => bif r2.1.1.1 then (bif r2.1.1.1 then (some ((((), ()), ()), ([a0.2.2.1], ()))) else (bif decide (a0.1 = 22) then (some ((((), ()), ()), ([a0.2.2.1, a0.2.2.2.1, a0.2.2.2.2.1], ()))) else (bif decide (a0.1 = 26) then (Option.bind (spec_l1Copy.f k a0.2.2.2.2.2.2.1) fun r3 => some ((((), ()), ()), (r3.2.1, ()))) else (some ((((), ()), ()), (([] : List Int), ())))))) else (bif decide (a0.1 = 23) then (bif decide (a0.1 = 23) then (some ((((), ()), ()), ([a0.2.2.1], ()))) else (bif decide (a0.1 = 22) then (some ((((), ()), ()), ([a0.2.2.1, a0.2.2.2.1, a0.2.2.2.2.1], ()))) else (bif decide (a0.1 = 26) then (Option.bind (spec_l1Copy.f k a0.2.2.2.2.2.2.1) fun r4 => some ((((), ()), ()), (r4.2.1, ()))) else (some ((((), ()), ()), (([] : List Int), ())))))) else (bif decide (a0.1 = 25) then (bif decide (a0.1 = 25) then (some ((((), ()), ()), ([a0.2.2.1], ()))) else (bif decide (a0.1 = 22) then (some ((((), ()), ()), ([a0.2.2.1, a0.2.2.2.1, a0.2.2.2.2.1], ()))) else (bif decide (a0.1 = 26) then (Option.bind (spec_l1Copy.f k a0.2.2.2.2.2.2.1) fun r5 => some ((((), ()), ()), (r5.2.1, ()))) else (some ((((), ()), ()), (([] : List Int), ())))))) else (bif decide (a0.1 = 27) then (some ((((), ()), ()), ([a0.2.2.1], ()))) else (bif decide (a0.1 = 22) then (some ((((), ()), ()), ([a0.2.2.1, a0.2.2.2.1, a0.2.2.2.2.1], ()))) else (bif decide (a0.1 = 26) then (Option.bind (spec_l1Copy.f k a0.2.2.2.2.2.2.1) fun r6 => some ((((), ()), ()), (r6.2.1, ()))) else (some ((((), ()), ()), (([] : List Int), ())))))))))) else (bif decide (a0.1 = 24) then (some ((((), ()), ()), ([a0.2.2.1, a0.2.2.2.1], ()))) else (Option.bind (spec_l1In.f k a0.1 18 20) fun r7 => bif r7.1.1.1 then (bif r7.1.1.1 then (some ((((), ()), ()), ([a0.2.2.1], ()))) else (bif decide (a0.1 = 22) then (some ((((), ()), ()), ([a0.2.2.1, a0.2.2.2.1, a0.2.2.2.2.1], ()))) else (bif decide (a0.1 = 26) then (Option.bind (spec_l1Copy.f k a0.2.2.2.2.2.2.1) fun r8 => some ((((), ()), ()), (r8.2.1, ()))) else (some ((((), ()), ()), (([] : List Int), ())))))) else (bif decide (a0.1 = 23) then (bif decide (a0.1 = 23) then (some ((((), ()), ()), ([a0.2.2.1], ()))) else (bif decide (a0.1 = 22) then (some ((((), ()), ()), ([a0.2.2.1, a0.2.2.2.1, a0.2.2.2.2.1], ()))) else (bif decide (a0.1 = 26) then (Option.bind (spec_l1Copy.f k a0.2.2.2.2.2.2.1) fun r9 => some ((((), ()), ()), (r9.2.1, ()))) else (some ((((), ()), ()), (([] : List Int), ())))))) else (bif decide (a0.1 = 25) then (bif decide (a0.1 = 25) then (some ((((), ()), ()), ([a0.2.2.1], ()))) else (bif decide (a0.1 = 22) then (some ((((), ()), ()), ([a0.2.2.1, a0.2.2.2.1, a0.2.2.2.2.1], ()))) else (bif decide (a0.1 = 26) then (Option.bind (spec_l1Copy.f k a0.2.2.2.2.2.2.1) fun r10 => some ((((), ()), ()), (r10.2.1, ()))) else (some ((((), ()), ()), (([] : List Int), ())))))) else (bif decide (a0.1 = 27) then (some ((((), ()), ()), ([a0.2.2.1], ()))) else (bif decide (a0.1 = 22) then (some ((((), ()), ()), ([a0.2.2.1, a0.2.2.2.1, a0.2.2.2.2.1], ()))) else (bif decide (a0.1 = 26) then (Option.bind (spec_l1Copy.f k a0.2.2.2.2.2.2.1) fun r11 => some ((((), ()), ()), (r11.2.1, ()))) else (some ((((), ()), ()), (([] : List Int), ()))))))))))
def spec_l2Operands.s (k : Nat) : FS := ⟨[⟨true, [.int .i64, .int .i64, .int .i64, .int .i64, .int .i64, .int .i64, .lst (.int .i64)]⟩], [], false, [⟨false, [.own 100]⟩], [(100, .row true (.int .i64))], [], fun x => spec_l2Operands.f k x.1.1⟩
def spec_l2Operands.E (k : Nat) : Ents := [(⟨25, []⟩, spec_l1In.s k), (⟨95, []⟩, spec_l1Copy.s k)]
def spec_l2Operands.L : List (LS spec_l2Operands.R) := []
def spec_l2Operands.c : Code := Tryz.f54.body.getD .skip
theorem spec_l2Operands.eq (k : Nat) (x) : (spec_l2Operands.s k).pf x = execF tab (spec_l2Operands.E k) Tryz.f54 spec_l2Operands.c (spec_l2Operands.s k) spec_l2Operands.L x := by kernel_rfl
theorem spec_l2Operands.sound : ∀ k, Sound Tryz.prog 54 (spec_l2Operands.s k) := sound_of mixed tab_ok (f := 54) (fn := Tryz.f54) (c := spec_l2Operands.c) (by kernel_rfl) (by kernel_rfl) (by kernel_rfl) ⟨[⟨true, [.int .i64, .int .i64, .int .i64, .int .i64, .int .i64, .int .i64, .lst (.int .i64)]⟩], [], false, [⟨false, [.own 100]⟩], [(100, .row true (.int .i64))], []⟩ (by kernel_rfl) (by kernel_rfl) (fun k => (spec_l2Operands.s k).pf) spec_l2Operands.E (fun k => (EntsOK.cons (spec_l1In.sound k) (EntsOK.cons (spec_l1Copy.sound k) EntsOK.nil))) (fun k => spec_l2Operands.L) (fun k => trivial) trivial (fun k => trivial) spec_l2Operands.eq
end
end Go.Proofs.YtkfehogikjcgkaaGreat.V
namespace Go.Proofs.YtkfehogikjcgkaaGreat.V
open Go
set_option linter.unusedVariables false
noncomputable section
/-! ### spec.l1Top: function 114 -/
abbrev spec_l1Top.R := (((Int × Unit) × Unit) × Unit)
def spec_l1Top.f (k : Nat) (a0 : Int) : Option spec_l1Top.R := bif decide (0 ≤ IntKind.wrap .u64 a0) then (some (((V.shl .i64 1 (IntKind.wrap .u64 a0), ()), ()), ())) else none
def spec_l1Top.s (k : Nat) : FS := ⟨[⟨false, [.int .i64]⟩], [], false, [⟨false, [.int .i64]⟩], [], [], fun x => spec_l1Top.f k x.1.1.1⟩
def spec_l1Top.E (k : Nat) : Ents := []
def spec_l1Top.L : List (LS spec_l1Top.R) := []
def spec_l1Top.c : Code := Tryz.f114.body.getD .skip
theorem spec_l1Top.eq (k : Nat) (x) : (spec_l1Top.s k).pf x = execF tab (spec_l1Top.E k) Tryz.f114 spec_l1Top.c (spec_l1Top.s k) spec_l1Top.L x := by kernel_rfl
theorem spec_l1Top.sound : ∀ k, Sound Tryz.prog 114 (spec_l1Top.s k) := sound_of mixed tab_ok (f := 114) (fn := Tryz.f114) (c := spec_l1Top.c) (by kernel_rfl) (by kernel_rfl) (by kernel_rfl) ⟨[⟨false, [.int .i64]⟩], [], false, [⟨false, [.int .i64]⟩], [], []⟩ (by kernel_rfl) (by kernel_rfl) (fun k => (spec_l1Top.s k).pf) spec_l1Top.E (fun k => EntsOK.nil) (fun k => spec_l1Top.L) (fun k => trivial) trivial (fun k => trivial) spec_l1Top.eq
end
end Go.Proofs.YtkfehogikjcgkaaGreat.V
namespace Go.Proofs.YtkfehogikjcgkaaGreat.V
open Go
set_option linter.unusedVariables false
noncomputable section
/-! ### spec.l1Value: function 71 -/
abbrev spec_l1Value.R := (((Bool × Unit) × Unit) × Unit)
def spec_l1Value.f (k : Nat) (a0 : Int) (a1 : Int) : Option spec_l1Value.R := Option.bind (spec_WidthOk.f k a0) fun r1 => bif r1.1.1.1 then (Option.bind (spec_l1Top.f k a0) fun r2 => Option.bind (spec_l1In.f k a1 0 (IntKind.wrap .i64 (r2.1.1.1 - 1))) fun r3 => some (((r3.1.1.1, ()), ()), ())) else (some (((false, ()), ()), ()))
def spec_l1Value.s (k : Nat) : FS := ⟨[⟨false, [.int .i64]⟩, ⟨false, [.int .i64]⟩], [], false, [⟨false, [.bool]⟩], [], [], fun x => spec_l1Value.f k x.1.1.1 x.1.2.1.1⟩
def spec_l1Value.E (k : Nat) : Ents := [(⟨50, []⟩, spec_WidthOk.s k), (⟨114, []⟩, spec_l1Top.s k), (⟨25, []⟩, spec_l1In.s k)]
def spec_l1Value.L : List (LS spec_l1Value.R) := []
def spec_l1Value.c : Code := Tryz.f71.body.getD .skip
theorem spec_l1Value.eq (k : Nat) (x) : (spec_l1Value.s k).pf x = execF tab (spec_l1Value.E k) Tryz.f71 spec_l1Value.c (spec_l1Value.s k) spec_l1Value.L x := by kernel_rfl
theorem spec_l1Value.sound : ∀ k, Sound Tryz.prog 71 (spec_l1Value.s k) := sound_of mixed tab_ok (f := 71) (fn := Tryz.f71) (c := spec_l1Value.c) (by kernel_rfl) (by kernel_rfl) (by kernel_rfl) ⟨[⟨false, [.int .i64]⟩, ⟨false, [.int .i64]⟩], [], false, [⟨false, [.bool]⟩], [], []⟩ (by kernel_rfl) (by kernel_rfl) (fun k => (spec_l1Value.s k).pf) spec_l1Value.E (fun k => (EntsOK.cons (spec_WidthOk.sound k) (EntsOK.cons (spec_l1Top.sound k) (EntsOK.cons (spec_l1In.sound k) EntsOK.nil)))) (fun k => spec_l1Value.L) (fun k => trivial) trivial (fun k => trivial) spec_l1Value.eq
end
end Go.Proofs.YtkfehogikjcgkaaGreat.V
namespace Go.Proofs.YtkfehogikjcgkaaGreat.V
open Go
set_option linter.unusedVariables false
noncomputable section
/-! ### spec.l2Inst: function 43 -/
abbrev spec_l2Inst.R := (((Bool × Unit) × Unit) × Unit)
def spec_l2Inst.l0_ (k : Nat) (l0 : Int → Int → Int → tInstD → (List Int) → Option spec_l2Inst.R) (a0 : Int) (a1 : Int) (a2 : Int) (a3 : tInstD) (a4 : List Int) : Option spec_l2Inst.R := bif decide (a2 < ((List.length a4 : Nat) : Int)) then (bif (decide (0 ≤ a2)) && (decide (a2 < ((List.length a4 : Nat) : Int))) then (Option.bind (spec_l1In.f k (List.getD a4 (Int.toNat a2) 0) 0 (IntKind.wrap .i64 (a0 - 1))) fun r1 => bif !r1.1.1.1 then (some (((false, ()), ()), ())) else (l0 a0 a1 (IntKind.wrap .i64 (a2 + 1)) a3 a4)) else none) else (bif decide (a3.1 = 24) then (bif !(true == (decide (a3.2.1 = 0))) then (some (((false, ()), ()), ())) else (bif decide (4 < ((List.length a3.2.2.2.2.2.2.1 : Nat) : Int)) then (some (((false, ()), ()), ())) else (bif decide (a3.1 = 26) then (bif decide (0 < 1) then (bif !decide (a3.2.2.1 = 0) then (some (((false, ()), ()), ())) else (bif decide (0 < 2) then (bif !decide (a3.2.2.2.1 = 0) then (some (((false, ()), ()), ())) else (bif decide (0 < 3) then (bif !decide (a3.2.2.2.2.1 = 0) then (some (((false, ()), ()), ())) else (bif decide (a3.1 = 21) then (Option.bind (spec_l1Value.f k a3.2.1 a3.2.2.2.2.2.1) fun r2 => some (((r2.1.1.1, ()), ()), ())) else (bif decide (a3.1 = 26) then (Option.bind (spec_l1In.f k a3.2.2.2.2.2.1 0 (IntKind.wrap .i64 (a1 - 1))) fun r3 => some (((r3.1.1.1, ()), ()), ())) else (bif decide (a3.1 = 23) then (bif decide (a3.2.1 = 8) then (some (((decide (a3.2.2.2.2.2.1 = 0), ()), ()), ())) else (some (((false, ()), ()), ()))) else (some (((decide (a3.2.2.2.2.2.1 = 0), ()), ()), ())))))) else (bif decide (a3.1 = 21) then (Option.bind (spec_l1Value.f k a3.2.1 a3.2.2.2.2.2.1) fun r4 => some (((r4.1.1.1, ()), ()), ())) else (bif decide (a3.1 = 26) then (Option.bind (spec_l1In.f k a3.2.2.2.2.2.1 0 (IntKind.wrap .i64 (a1 - 1))) fun r5 => some (((r5.1.1.1, ()), ()), ())) else (bif decide (a3.1 = 23) then (bif decide (a3.2.1 = 8) then (some (((decide (a3.2.2.2.2.2.1 = 0), ()), ()), ())) else (some (((false, ()), ()), ()))) else (some (((decide (a3.2.2.2.2.2.1 = 0), ()), ()), ()))))))) else (bif decide (0 < 3) then (bif !decide (a3.2.2.2.2.1 = 0) then (some (((false, ()), ()), ())) else (bif decide (a3.1 = 21) then (Option.bind (spec_l1Value.f k a3.2.1 a3.2.2.2.2.2.1) fun r6 => some (((r6.1.1.1, ()), ()), ())) else (bif decide (a3.1 = 26) then (Option.bind (spec_l1In.f k a3.2.2.2.2.2.1 0 (IntKind.wrap .i64 (a1 - 1))) fun r7 => some (((r7.1.1.1, ()), ()), ())) else (bif decide (a3.1 = 23) then (bif decide (a3.2.1 = 8) then (some (((decide (a3.2.2.2.2.2.1 = 0), ()), ()), ())) else (some (((false, ()), ()), ()))) else (some (((decide (a3.2.2.2.2.2.1 = 0), ()), ()), ())))))) else (bif decide (a3.1 = 21) then (Option.bind (spec_l1Value.f k a3.2.1 a3.2.2.2.2.2.1) fun r8 => some (((r8.1.1.1, ()), ()), ())) else (bif decide (a3.1 = 26) then (Option.bind (spec_l1In.f k a3.2.2.2.2.2.1 0 (IntKind.wrap .i64 (a1 - 1))) fun r9 => some (((r9.1.1.1, ()), ()), ())) else (bif decide (a3.1 = 23) then (bif decide (a3.2.1 = 8) then (some (((decide (a3.2.2.2.2.2.1 = 0), ()), ()), ())) else (some (((false, ()), ()), ()))) else (some (((decide (a3.2.2.2.2.2.1 = 0), ()), ()), ())))))))) else (bif decide (0 < 2) then (bif !decide (a3.2.2.2.1 = 0) then (some (((false, ()), ()), ())) else (bif decide (0 < 3) then (bif !decide (a3.2.2.2.2.1 = 0) then (some (((false, ()), ()), ())) else (bif decide (a3.1 = 21) then (Option.bind (spec_l1Value.f k a3.2.1 a3.2.2.2.2.2.1) fun r10 => some (((r10.1.1.1, ()), ()), ())) else (bif decide (a3.1 = 26) then (Option.bind (spec_l1In.f k a3.2.2.2.2.2.1 0 (IntKind.wrap .i64 (a1 - 1))) fun r11 => some (((r11.1.1.1, ()), ()), ())) else (bif decide (a3.1 = 23) then (bif decide (a3.2.1 = 8) then (some (((decide (a3.2.2.2.2.2.1 = 0), ()), ()), ())) else (some (((false, ()), ()), ()))) else (some (((decide (a3.2.2.2.2.2.1 = 0), ()), ()), ())))))) else (bif decide (a3.1 = 21) then (Option.bind (spec_l1Value.f k a3.2.1 a3.2.2.2.2.2.1) fun r12 => some (((r12.1.1.1, ()), ()), ())) else (bif decide (a3.1 = 26) then (Option.bind (spec_l1In.f k a3.2.2.2.2.2.1 0 (IntKind.wrap .i64 (a1 - 1))) fun r13 => some (((r13.1.1.1, ()), ()), ())) else (bif decide (a3.1 = 23) then (bif decide (a3.2.1 = 8) then (some (((decide (a3.2.2.2.2.2.1 = 0), ()), ()), ())) else (some (((false, ()), ()), ()))) else (some (((decide (a3.2.2.2.2.2.1 = 0), ()), ()), ()))))))) else (bif decide (0 < 3) then (bif !decide (a3.2.2.2.2.1 = 0) then (some (((false, ()), ()), ())) else (bif decide (a3.1 = 21) then (Option.bind (spec_l1Value.f k a3.2.1 a3.2.2.2.2.2.1) fun r14 => some (((r14.1.1.1, ()), ()), ())) else (bif decide (a3.1 = 26) then (Option.bind (spec_l1In.f k a3.2.2.2.2.2.1 0 (IntKind.wrap .i64 (a1 - 1))) fun r15 => some (((r15.1.1.1, ()), ()), ())) else (bif decide (a3.1 = 23) then (bif decide (a3.2.1 = 8) then (some (((decide (a3.2.2.2.2.2.1 = 0), ()), ()), ())) else (some (((false, ()), ()), ()))) else (some (((decide (a3.2.2.2.2.2.1 = 0), ()), ()), ())))))) else (bif decide (a3.1 = 21) then (Option.bind (spec_l1Value.f k a3.2.1 a3.2.2.2.2.2.1) fun r16 => some (((r16.1.1.1, ()), ()), ())) else (bif decide (a3.1 = 26) then (Option.bind (spec_l1In.f k a3.2.2.2.2.2.1 0 (IntKind.wrap .i64 (a1 - 1))) fun r17 => some (((r17.1.1.1, ()), ()), ())) else (bif decide (a3.1 = 23) then (bif decide (a3.2.1 = 8) then (some (((decide (a3.2.2.2.2.2.1 = 0), ()), ()), ())) else (some (((false, ()), ()), ()))) else (some (((decide (a3.2.2.2.2.2.1 = 0), ()), ()), ())))))))) else (bif decide (((List.length a4 : Nat) : Int) < 1) then (bif !decide (a3.2.2.1 = 0) then (some (((false, ()), ()), ())) else (bif decide (((List.length a4 : Nat) : Int) < 2) then (bif !decide (a3.2.2.2.1 = 0) then (some (((false, ()), ()), ())) else (bif decide (((List.length a4 : Nat) : Int) < 3) then (bif !decide (a3.2.2.2.2.1 = 0) then (some (((false, ()), ()), ())) else (bif decide (a3.1 = 21) then (Option.bind (spec_l1Value.f k a3.2.1 a3.2.2.2.2.2.1) fun r18 => some (((r18.1.1.1, ()), ()), ())) else (bif decide (a3.1 = 26) then (Option.bind (spec_l1In.f k a3.2.2.2.2.2.1 0 (IntKind.wrap .i64 (a1 - 1))) fun r19 => some (((r19.1.1.1, ()), ()), ())) else (bif decide (a3.1 = 23) then (bif decide (a3.2.1 = 8) then (some (((decide (a3.2.2.2.2.2.1 = 0), ()), ()), ())) else (some (((false, ()), ()), ()))) else (some (((decide (a3.2.2.2.2.2.1 = 0), ()), ()), ())))))) else (bif decide (a3.1 = 21) then (Option.bind (spec_l1Value.f k a3.2.1 a3.2.2.2.2.2.1) fun r20 => some (((r20.1.1.1, ()), ()), ())) else (bif decide (a3.1 = 26) then (Option.bind (spec_l1In.f k a3.2.2.2.2.2.1 0 (IntKind.wrap .i64 (a1 - 1))) fun r21 => some (((r21.1.1.1, ()), ()), ())) else (bif decide (a3.1 = 23) then (bif decide (a3.2.1 = 8) then (some (((decide (a3.2.2.2.2.2.1 = 0), ()), ()), ())) else (some (((false, ()), ()), ()))) else (some (((decide (a3.2.2.2.2.2.1 = 0), ()), ()), ()))))))) else (bif decide (((List.length a4 : Nat) : Int) < 3) then (bif !decide (a3.2.2.2.2.1 = 0) then (some (((false, ()), ()), ())) else (bif decide (a3.1 = 21) then (Option.bind (spec_l1Value.f k a3.2.1 a3.2.2.2.2.2.1) fun r22 => some (((r22.1.1.1, ()), ()), ())) else (bif decide (a3.1 = 26) then (Option.bind (spec_l1In.f k a3.2.2.2.2.2.1 0 (IntKind.wrap .i64 (a1 - 1))) fun r23 => some (((r23.1.1.1, ()), ()), ())) else (bif decide (a3.1 = 23) then (bif decide (a3.2.1 = 8) then (some (((decide (a3.2.2.2.2.2.1 = 0), ()), ()), ())) else (some (((false, ()), ()), ()))) else (some (((decide (a3.2.2.2.2.2.1 = 0), ()), ()), ())))))) else (bif decide (a3.1 = 21) then (Option.bind (spec_l1Value.f k a3.2.1 a3.2.2.2.2.2.1) fun r24 => some (((r24.1.1.1, ()), ()), ())) else (bif decide (a3.1 = 26) then (Option.bind (spec_l1In.f k a3.2.2.2.2.2.1 0 (IntKind.wrap .i64 (a1 - 1))) fun r25 => some (((r25.1.1.1, ()), ()), ())) else (bif decide (a3.1 = 23) then (bif decide (a3.2.1 = 8) then (some (((decide (a3.2.2.2.2.2.1 = 0), ()), ()), ())) else (some (((false, ()), ()), ()))) else (some (((decide (a3.2.2.2.2.2.1 = 0), ()), ()), ())))))))) else (bif decide (((List.length a4 : Nat) : Int) < 2) then (bif !decide (a3.2.2.2.1 = 0) then (some (((false, ()), ()), ())) else (bif decide (((List.length a4 : Nat) : Int) < 3) then (bif !decide (a3.2.2.2.2.1 = 0) then (some (((false, ()), ()), ())) else (bif decide (a3.1 = 21) then (Option.bind (spec_l1Value.f k a3.2.1 a3.2.2.2.2.2.1) fun r26 => some (((r26.1.1.1, ()), ()), ())) else (bif decide (a3.1 = 26) then (Option.bind (spec_l1In.f k a3.2.2.2.2.2.1 0 (IntKind.wrap .i64 (a1 - 1))) fun r27 => some (((r27.1.1.1, ()), ()), ())) else (bif decide (a3.1 = 23) then (bif decide (a3.2.1 = 8) then (some (((decide (a3.2.2.2.2.2.1 = 0), ()), ()), ())) else (some (((false, ()), ()), ()))) else (some (((decide (a3.2.2.2.2.2.1 = 0), ()), ()), ())))))) else (bif decide (a3.1 = 21) then (Option.bind (spec_l1Value.f k a3.2.1 a3.2.2.2.2.2.1) fun r28 => some (((r28.1.1.1, ()), ()), ())) else (bif decide (a3.1 = 26) then (Option.bind (spec_l1In.f k a3.2.2.2.2.2.1 0 (IntKind.wrap .i64 (a1 - 1))) fun r29 => some (((r29.1.1.1, ()), ()), ())) else (bif decide (a3.1 = 23) then (bif decide (a3.2.1 = 8) then (some (((decide (a3.2.2.2.2.2.1 = 0), ()), ()), ())) else (some (((false, ()), ()), ()))) else (some (((decide (a3.2.2.2.2.2.1 = 0), ()), ()), ()))))))) else (bif decide (((List.length a4 : Nat) : Int) < 3) then (bif !decide (a3.2.2.2.2.1 = 0) then (some (((false, ()), ()), ())) else (bif decide (a3.1 = 21) then (Option.bind (spec_l1Value.f k a3.2.1 a3.2.2.2.2.2.1) fun r30 => some (((r30.1.1.1, ()), ()), ())) else (bif decide (a3.1 = 26) then (Option.bind (spec_l1In.f k a3.2.2.2.2.2.1 0 (IntKind.wrap .i64 (a1 - 1))) fun r31 => some (((r31.1.1.1, ()), ()), ())) else (bif decide (a3.1 = 23) then (bif decide (a3.2.1 = 8) then (some (((decide (a3.2.2.2.2.2.1 = 0), ()), ()), ())) else (some (((false, ()), ()), ()))) else (some (((decide (a3.2.2.2.2.2.1 = 0), ()), ()), ())))))) else (bif decide (a3.1 = 21) then (Option.bind (spec_l1Value.f k a3.2.1 a3.2.2.2.2.2.1) fun r32 => some (((r32.1.1.1, ()), ()), ())) else (bif decide (a3.1 = 26) then (Option.bind (spec_l1In.f k a3.2.2.2.2.2.1 0 (IntKind.wrap .i64 (a1 - 1))) fun r33 => some (((r33.1.1.1, ()), ()), ())) else (bif decide (a3.1 = 23) then (bif decide (a3.2.1 = 8) then (some (((decide (a3.2.2.2.2.2.1 = 0), ()), ()), ())) else (some (((false, ()), ()), ()))) else (some (((decide (a3.2.2.2.2.2.1 = 0), ()), ()), ()))))))))))) else (bif !((decide (a3.1 = 25)) == (decide (a3.2.1 = 0))) then (some (((false, ()), ()), ())) else (bif !(decide (a3.1 = 25)) then (Option.bind (spec_WidthOk.f k a3.2.1) fun r34 => bif !r34.1.1.1 then (some (((false, ()), ()), ())) else (bif decide (4 < ((List.length a3.2.2.2.2.2.2.1 : Nat) : Int)) then (some (((false, ()), ()), ())) else (bif decide (a3.1 = 26) then (bif decide (0 < 1) then (bif !decide (a3.2.2.1 = 0) then (some (((false, ()), ()), ())) else (bif decide (0 < 2) then (bif !decide (a3.2.2.2.1 = 0) then (some (((false, ()), ()), ())) else (bif decide (0 < 3) then (bif !decide (a3.2.2.2.2.1 = 0) then (some (((false, ()), ()), ())) else (bif decide (a3.1 = 21) then (Option.bind (spec_l1Value.f k a3.2.1 a3.2.2.2.2.2.1) fun r35 => some (((r35.1.1.1, ()), ()), ())) else (bif decide (a3.1 = 26) then (Option.bind (spec_l1In.f k a3.2.2.2.2.2.1 0 (IntKind.wrap .i64 (a1 - 1))) fun r36 => some (((r36.1.1.1, ()), ()), ())) else (bif decide (a3.1 = 23) then (bif decide (a3.2.1 = 8) then (some (((decide (a3.2.2.2.2.2.1 = 0), ()), ()), ())) else (some (((false, ()), ()), ()))) else (some (((decide (a3.2.2.2.2.2.1 = 0), ()), ()), ())))))) else (bif decide (a3.1 = 21) then (Option.bind (spec_l1Value.f k a3.2.1 a3.2.2.2.2.2.1) fun r37 => some (((r37.1.1.1, ()), ()), ())) else (bif decide (a3.1 = 26) then (Option.bind (spec_l1In.f k a3.2.2.2.2.2.1 0 (IntKind.wrap .i64 (a1 - 1))) fun r38 => some (((r38.1.1.1, ()), ()), ())) else (bif decide (a3.1 = 23) then (bif decide (a3.2.1 = 8) then (some (((decide (a3.2.2.2.2.2.1 = 0), ()), ()), ())) else (some (((false, ()), ()), ()))) else (some (((decide (a3.2.2.2.2.2.1 = 0), ()), ()), ()))))))) else (bif decide (0 < 3) then (bif !decide (a3.2.2.2.2.1 = 0) then (some (((false, ()), ()), ())) else (bif decide (a3.1 = 21) then (Option.bind (spec_l1Value.f k a3.2.1 a3.2.2.2.2.2.1) fun r39 => some (((r39.1.1.1, ()), ()), ())) else (bif decide (a3.1 = 26) then (Option.bind (spec_l1In.f k a3.2.2.2.2.2.1 0 (IntKind.wrap .i64 (a1 - 1))) fun r40 => some (((r40.1.1.1, ()), ()), ())) else (bif decide (a3.1 = 23) then (bif decide (a3.2.1 = 8) then (some (((decide (a3.2.2.2.2.2.1 = 0), ()), ()), ())) else (some (((false, ()), ()), ()))) else (some (((decide (a3.2.2.2.2.2.1 = 0), ()), ()), ())))))) else (bif decide (a3.1 = 21) then (Option.bind (spec_l1Value.f k a3.2.1 a3.2.2.2.2.2.1) fun r41 => some (((r41.1.1.1, ()), ()), ())) else (bif decide (a3.1 = 26) then (Option.bind (spec_l1In.f k a3.2.2.2.2.2.1 0 (IntKind.wrap .i64 (a1 - 1))) fun r42 => some (((r42.1.1.1, ()), ()), ())) else (bif decide (a3.1 = 23) then (bif decide (a3.2.1 = 8) then (some (((decide (a3.2.2.2.2.2.1 = 0), ()), ()), ())) else (some (((false, ()), ()), ()))) else (some (((decide (a3.2.2.2.2.2.1 = 0), ()), ()), ())))))))) else (bif decide (0 < 2) then (bif !decide (a3.2.2.2.1 = 0) then (some (((false, ()), ()), ())) else (bif decide (0 < 3) then (bif !decide (a3.2.2.2.2.1 = 0) then (some (((false, ()), ()), ())) else (bif decide (a3.1 = 21) then (Option.bind (spec_l1Value.f k a3.2.1 a3.2.2.2.2.2.1) fun r43 => some (((r43.1.1.1, ()), ()), ())) else (bif decide (a3.1 = 26) then (Option.bind (spec_l1In.f k a3.2.2.2.2.2.1 0 (IntKind.wrap .i64 (a1 - 1))) fun r44 => some (((r44.1.1.1, ()), ()), ())) else (bif decide (a3.1 = 23) then (bif decide (a3.2.1 = 8) then (some (((decide (a3.2.2.2.2.2.1 = 0), ()), ()), ())) else (some (((false, ()), ()), ()))) else (some (((decide (a3.2.2.2.2.2.1 = 0), ()), ()), ())))))) else (bif decide (a3.1 = 21) then (Option.bind (spec_l1Value.f k a3.2.1 a3.2.2.2.2.2.1) fun r45 => some (((r45.1.1.1, ()), ()), ())) else (bif decide (a3.1 = 26) then (Option.bind (spec_l1In.f k a3.2.2.2.2.2.1 0 (IntKind.wrap .i64 (a1 - 1))) fun r46 => some (((r46.1.1.1, ()), ()), ())) else (bif decide (a3.1 = 23) then (bif decide (a3.2.1 = 8) then (some (((decide (a3.2.2.2.2.2.1 = 0), ()), ()), ())) else (some (((false, ()), ()), ()))) else (some (((decide (a3.2.2.2.2.2.1 = 0), ()), ()), ()))))))) else (bif decide (0 < 3) then (bif !decide (a3.2.2.2.2.1 = 0) then (some (((false, ()), ()), ())) else (bif decide (a3.1 = 21) then (Option.bind (spec_l1Value.f k a3.2.1 a3.2.2.2.2.2.1) fun r47 => some (((r47.1.1.1, ()), ()), ())) else (bif decide (a3.1 = 26) then (Option.bind (spec_l1In.f k a3.2.2.2.2.2.1 0 (IntKind.wrap .i64 (a1 - 1))) fun r48 => some (((r48.1.1.1, ()), ()), ())) else (bif decide (a3.1 = 23) then (bif decide (a3.2.1 = 8) then (some (((decide (a3.2.2.2.2.2.1 = 0), ()), ()), ())) else (some (((false, ()), ()), ()))) else (some (((decide (a3.2.2.2.2.2.1 = 0), ()), ()), ())))))) else (bif decide (a3.1 = 21) then (Option.bind (spec_l1Value.f k a3.2.1 a3.2.2.2.2.2.1) fun r49 => some (((r49.1.1.1, ()), ()), ())) else (bif decide (a3.1 = 26) then (Option.bind (spec_l1In.f k a3.2.2.2.2.2.1 0 (IntKind.wrap .i64 (a1 - 1))) fun r50 => some (((r50.1.1.1, ()), ()), ())) else (bif decide (a3.1 = 23) then (bif decide (a3.2.1 = 8) then (some (((decide (a3.2.2.2.2.2.1 = 0), ()), ()), ())) else (some (((false, ()), ()), ()))) else (some (((decide (a3.2.2.2.2.2.1 = 0), ()), ()), ())))))))) else (bif decide (((List.length a4 : Nat) : Int) < 1) then (bif !decide (a3.2.2.1 = 0) then (some (((false, ()), ()), ())) else (bif decide (((List.length a4 : Nat) : Int) < 2) then (bif !decide (a3.2.2.2.1 = 0) then (some (((false, ()), ()), ())) else (bif decide (((List.length a4 : Nat) : Int) < 3) then (bif !decide (a3.2.2.2.2.1 = 0) then (some (((false, ()), ()), ())) else (bif decide (a3.1 = 21) then (Option.bind (spec_l1Value.f k a3.2.1 a3.2.2.2.2.2.1) fun r51 => some (((r51.1.1.1, ()), ()), ())) else (bif decide (a3.1 = 26) then (Option.bind (spec_l1In.f k a3.2.2.2.2.2.1 0 (IntKind.wrap .i64 (a1 - 1))) fun r52 => some (((r52.1.1.1, ()), ()), ())) else (bif decide (a3.1 = 23) then (bif decide (a3.2.1 = 8) then (some (((decide (a3.2.2.2.2.2.1 = 0), ()), ()), ())) else (some (((false, ()), ()), ()))) else (some (((decide (a3.2.2.2.2.2.1 = 0), ()), ()), ())))))) else (bif decide (a3.1 = 21) then (Option.bind (spec_l1Value.f k a3.2.1 a3.2.2.2.2.2.1) fun r53 => some (((r53.1.1.1, ()), ()), ())) else (bif decide (a3.1 = 26) then (Option.bind (spec_l1In.f k a3.2.2.2.2.2.1 0 (IntKind.wrap .i64 (a1 - 1))) fun r54 => some (((r54.1.1.1, ()), ()), ())) else (bif decide (a3.1 = 23) then (bif decide (a3.2.1 = 8) then (some (((decide (a3.2.2.2.2.2.1 = 0), ()), ()), ())) else (some (((false, ()), ()), ()))) else (some (((decide (a3.2.2.2.2.2.1 = 0), ()), ()), ()))))))) else (bif decide (((List.length a4 : Nat) : Int) < 3) then (bif !decide (a3.2.2.2.2.1 = 0) then (some (((false, ()), ()), ())) else (bif decide (a3.1 = 21) then (Option.bind (spec_l1Value.f k a3.2.1 a3.2.2.2.2.2.1) fun r55 => some (((r55.1.1.1, ()), ()), ())) else (bif decide (a3.1 = 26) then (Option.bind (spec_l1In.f k a3.2.2.2.2.2.1 0 (IntKind.wrap .i64 (a1 - 1))) fun r56 => some (((r56.1.1.1, ()), ()), ())) else (bif decide (a3.1 = 23) then (bif decide (a3.2.1 = 8) then (some (((decide (a3.2.2.2.2.2.1 = 0), ()), ()), ())) else (some (((false, ()), ()), ()))) else (some (((decide (a3.2.2.2.2.2.1 = 0), ()), ()), ())))))) else (bif decide (a3.1 = 21) then (Option.bind (spec_l1Value.f k a3.2.1 a3.2.2.2.2.2.1) fun r57 => some (((r57.1.1.1, ()), ()), ())) else (bif decide (a3.1 = 26) then (Option.bind (spec_l1In.f k a3.2.2.2.2.2.1 0 (IntKind.wrap .i64 (a1 - 1))) fun r58 => some (((r58.1.1.1, ()), ()), ())) else (bif decide (a3.1 = 23) then (bif decide (a3.2.1 = 8) then (some (((decide (a3.2.2.2.2.2.1 = 0), ()), ()), ())) else (some (((false, ()), ()), ()))) else (some (((decide (a3.2.2.2.2.2.1 = 0), ()), ()), ())))))))) else (bif decide (((List.length a4 : Nat) : Int) < 2) then (bif !decide (a3.2.2.2.1 = 0) then (some (((false, ()), ()), ())) else (bif decide (((List.length a4 : Nat) : Int) < 3) then (bif !decide (a3.2.2.2.2.1 = 0) then (some (((false, ()), ()), ())) else (bif decide (a3.1 = 21) then (Option.bind (spec_l1Value.f k a3.2.1 a3.2.2.2.2.2.1) fun r59 => some (((r59.1.1.1, ()), ()), ())) else (bif decide (a3.1 = 26) then (Option.bind (spec_l1In.f k a3.2.2.2.2.2.1 0 (IntKind.wrap .i64 (a1 - 1))) fun r60 => some (((r60.1.1.1, ()), ()), ())) else (bif decide (a3.1 = 23) then (bif decide (a3.2.1 = 8) then (some (((decide (a3.2.2.2.2.2.1 = 0), ()), ()), ())) else (some (((false, ()), ()), ()))) else (some (((decide (a3.2.2.2.2.2.1 = 0), ()), ()), ())))))) else (bif decide (a3.1 = 21) then (Option.bind (spec_l1Value.f k a3.2.1 a3.2.2.2.2.2.1) fun r61 => some (((r61.1.1.1, ()), ()), ())) else (bif decide (a3.1 = 26) then (Option.bind (spec_l1In.f k a3.2.2.2.2.2.1 0 (IntKind.wrap .i64 (a1 - 1))) fun r62 => some (((r62.1.1.1, ()), ()), ())) else (bif decide (a3.1 = 23) then (bif decide (a3.2.1 = 8) then (some (((decide (a3.2.2.2.2.2.1 = 0), ()), ()), ())) else (some (((false, ()), ()), ()))) else (some (((decide (a3.2.2.2.2.2.1 = 0), ()), ()), ()))))))) else (bif decide (((List.length a4 : Nat) : Int) < 3) then (bif !decide (a3.2.2.2.2.1 = 0) then (some (((false, ()), ()), ())) else (bif decide (a3.1 = 21) then (Option.bind (spec_l1Value.f k a3.2.1 a3.2.2.2.2.2.1) fun r63 => some (((r63.1.1.1, ()), ()), ())) else (bif decide (a3.1 = 26) then (Option.bind (spec_l1In.f k a3.2.2.2.2.2.1 0 (IntKind.wrap .i64 (a1 - 1))) fun r64 => some (((r64.1.1.1, ()), ()), ())) else (bif decide (a3.1 = 23) then (bif decide (a3.2.1 = 8) then (some (((decide (a3.2.2.2.2.2.1 = 0), ()), ()), ())) else (some (((false, ()), ()), ()))) else (some (((decide (a3.2.2.2.2.2.1 = 0), ()), ()), ())))))) else (bif decide (a3.1 = 21) then (Option.bind (spec_l1Value.f k a3.2.1 a3.2.2.2.2.2.1) fun r65 => some (((r65.1.1.1, ()), ()), ())) else (bif decide (a3.1 = 26) then (Option.bind (spec_l1In.f k a3.2.2.2.2.2.1 0 (IntKind.wrap .i64 (a1 - 1))) fun r66 => some (((r66.1.1.1, ()), ()), ())) else (bif decide (a3.1 = 23) then (bif decide (a3.2.1 = 8) then (some (((decide (a3.2.2.2.2.2.1 = 0), ()), ()), ())) else (some (((false, ()), ()), ()))) else (some (((decide (a3.2.2.2.2.2.1 = 0), ()), ()), ()))))))))))) else (bif decide (4 < ((List.length a3.2.2.2.2.2.2.1 : Nat) : Int)) then (some (((false, ()), ()), ())) else (bif decide (a3.1 = 26) then (bif decide (0 < 1) then (bif !decide (a3.2.2.1 = 0) then (some (((false, ()), ()), ())) else (bif decide (0 < 2) then (bif !decide (a3.2.2.2.1 = 0) then (some (((false, ()), ()), ())) else (bif decide (0 < 3) then (bif !decide (a3.2.2.2.2.1 = 0) then (some (((false, ()), ()), ())) else (bif decide (a3.1 = 21) then (Option.bind (spec_l1Value.f k a3.2.1 a3.2.2.2.2.2.1) fun r67 => some (((r67.1.1.1, ()), ()), ())) else (bif decide (a3.1 = 26) then (Option.bind (spec_l1In.f k a3.2.2.2.2.2.1 0 (IntKind.wrap .i64 (a1 - 1))) fun r68 => some (((r68.1.1.1, ()), ()), ())) else (bif decide (a3.1 = 23) then (bif decide (a3.2.1 = 8) then (some (((decide (a3.2.2.2.2.2.1 = 0), ()), ()), ())) else (some (((false, ()), ()), ()))) else (some (((decide (a3.2.2.2.2.2.1 = 0), ()), ()), ())))))) else (bif decide (a3.1 = 21) then (Option.bind (spec_l1Value.f k a3.2.1 a3.2.2.2.2.2.1) fun r69 => some (((r69.1.1.1, ()), ()), ())) else (bif decide (a3.1 = 26) then (Option.bind (spec_l1In.f k a3.2.2.2.2.2.1 0 (IntKind.wrap .i64 (a1 - 1))) fun r70 => some (((r70.1.1.1, ()), ()), ())) else (bif decide (a3.1 = 23) then (bif decide (a3.2.1 = 8) then (some (((decide (a3.2.2.2.2.2.1 = 0), ()), ()), ())) else (some (((false, ()), ()), ()))) else (some (((decide (a3.2.2.2.2.2.1 = 0), ()), ()), ()))))))) else (bif decide (0 < 3) then (bif !decide (a3.2.2.2.2.1 = 0) then (some (((false, ()), ()), ())) else (bif decide (a3.1 = 21) then (Option.bind (spec_l1Value.f k a3.2.1 a3.2.2.2.2.2.1) fun r71 => some (((r71.1.1.1, ()), ()), ())) else (bif decide (a3.1 = 26) then (Option.bind (spec_l1In.f k a3.2.2.2.2.2.1 0 (IntKind.wrap .i64 (a1 - 1))) fun r72 => some (((r72.1.1.1, ()), ()), ())) else (bif decide (a3.1 = 23) then (bif decide (a3.2.1 = 8) then (some (((decide (a3.2.2.2.2.2.1 = 0), ()), ()), ())) else (some (((false, ()), ()), ()))) else (some (((decide (a3.2.2.2.2.2.1 = 0), ()), ()), ())))))) else (bif decide (a3.1 = 21) then (Option.bind (spec_l1Value.f k a3.2.1 a3.2.2.2.2.2.1) fun r73 => some (((r73.1.1.1, ()), ()), ())) else (bif decide (a3.1 = 26) then (Option.bind (spec_l1In.f k a3.2.2.2.2.2.1 0 (IntKind.wrap .i64 (a1 - 1))) fun r74 => some (((r74.1.1.1, ()), ()), ())) else (bif decide (a3.1 = 23) then (bif decide (a3.2.1 = 8) then (some (((decide (a3.2.2.2.2.2.1 = 0), ()), ()), ())) else (some (((false, ()), ()), ()))) else (some (((decide (a3.2.2.2.2.2.1 = 0), ()), ()), ())))))))) else (bif decide (0 < 2) then (bif !decide (a3.2.2.2.1 = 0) then (some (((false, ()), ()), ())) else (bif decide (0 < 3) then (bif !decide (a3.2.2.2.2.1 = 0) then (some (((false, ()), ()), ())) else (bif decide (a3.1 = 21) then (Option.bind (spec_l1Value.f k a3.2.1 a3.2.2.2.2.2.1) fun r75 => some (((r75.1.1.1, ()), ()), ())) else (bif decide (a3.1 = 26) then (Option.bind (spec_l1In.f k a3.2.2.2.2.2.1 0 (IntKind.wrap .i64 (a1 - 1))) fun r76 => some (((r76.1.1.1, ()), ()), ())) else (bif decide (a3.1 = 23) then (bif decide (a3.2.1 = 8) then (some (((decide (a3.2.2.2.2.2.1 = 0), ()), ()), ())) else (some (((false, ()), ()), ()))) else (some (((decide (a3.2.2.2.2.2.1 = 0), ()), ()), ())))))) else (bif decide (a3.1 = 21) then (Option.bind (spec_l1Value.f k a3.2.1 a3.2.2.2.2.2.1) fun r77 => some (((r77.1.1.1, ()), ()), ())) else (bif decide (a3.1 = 26) then (Option.bind (spec_l1In.f k a3.2.2.2.2.2.1 0 (IntKind.wrap .i64 (a1 - 1))) fun r78 => some (((r78.1.1.1, ()), ()), ())) else (bif decide (a3.1 = 23) then (bif decide (a3.2.1 = 8) then (some (((decide (a3.2.2.2.2.2.1 = 0), ()), ()), ())) else (some (((false, ()), ()), ()))) else (some (((decide (a3.2.2.2.2.2.1 = 0), ()), ()), ()))))))) else (bif decide (0 < 3) then (bif !decide (a3.2.2.2.2.1 = 0) then (some (((false, ()), ()), ())) else (bif decide (a3.1 = 21) then (Option.bind (spec_l1Value.f k a3.2.1 a3.2.2.2.2.2.1) fun r79 => some (((r79.1.1.1, ()), ()), ())) else (bif decide (a3.1 = 26) then (Option.bind (spec_l1In.f k a3.2.2.2.2.2.1 0 (IntKind.wrap .i64 (a1 - 1))) fun r80 => some (((r80.1.1.1, ()), ()), ())) else (bif decide (a3.1 = 23) then (bif decide (a3.2.1 = 8) then (some (((decide (a3.2.2.2.2.2.1 = 0), ()), ()), ())) else (some (((false, ()), ()), ()))) else (some (((decide (a3.2.2.2.2.2.1 = 0), ()), ()), ())))))) else (bif decide (a3.1 = 21) then (Option.bind (spec_l1Value.f k a3.2.1 a3.2.2.2.2.2.1) fun r81 => some (((r81.1.1.1, ()), ()), ())) else (bif decide (a3.1 = 26) then (Option.bind (spec_l1In.f k a3.2.2.2.2.2.1 0 (IntKind.wrap .i64 (a1 - 1))) fun r82 => some (((r82.1.1.1, ()), ()), ())) else (bif decide (a3.1 = 23) then (bif decide (a3.2.1 = 8) then (some (((decide (a3.2.2.2.2.2.1 = 0), ()), ()), ())) else (some (((false, ()), ()), ()))) else (some (((decide (a3.2.2.2.2.2.1 = 0), ()), ()), ())))))))) else (bif decide (((List.length a4 : Nat) : Int) < 1) then (bif !decide (a3.2.2.1 = 0) then (some (((false, ()), ()), ())) else (bif decide (((List.length a4 : Nat) : Int) < 2) then (bif !decide (a3.2.2.2.1 = 0) then (some (((false, ()), ()), ())) else (bif decide (((List.length a4 : Nat) : Int) < 3) then (bif !decide (a3.2.2.2.2.1 = 0) then (some (((false, ()), ()), ())) else (bif decide (a3.1 = 21) then (Option.bind (spec_l1Value.f k a3.2.1 a3.2.2.2.2.2.1) fun r83 => some (((r83.1.1.1, ()), ()), ())) else (bif decide (a3.1 = 26) then (Option.bind (spec_l1In.f k a3.2.2.2.2.2.1 0 (IntKind.wrap .i64 (a1 - 1))) fun r84 => some (((r84.1.1.1, ()), ()), ())) else (bif decide (a3.1 = 23) then (bif decide (a3.2.1 = 8) then (some (((decide (a3.2.2.2.2.2.1 = 0), ()), ()), ())) else (some (((false, ()), ()), ()))) else (some (((decide (a3.2.2.2.2.2.1 = 0), ()), ()), ())))))) else (bif decide (a3.1 = 21) then (Option.bind (spec_l1Value.f k a3.2.1 a3.2.2.2.2.2.1) fun r85 => some (((r85.1.1.1, ()), ()), ())) else (bif decide (a3.1 = 26) then (Option.bind (spec_l1In.f k a3.2.2.2.2.2.1 0 (IntKind.wrap .i64 (a1 - 1))) fun r86 => some (((r86.1.1.1, ()), ()), ())) else (bif decide (a3.1 = 23) then (bif decide (a3.2.1 = 8) then (some (((decide (a3.2.2.2.2.2.1 = 0), ()), ()), ())) else (some (((false, ()), ()), ()))) else (some (((decide (a3.2.2.2.2.2.1 = 0), ()), ()), ()))))))) else (bif decide (((List.length a4 : Nat) : Int) < 3) then (bif !decide (a3.2.2.2.2.1 = 0) then (some (((false, ()), ()), ())) else (bif decide (a3.1 = 21) then (Option.bind (spec_l1Value.f k a3.2.1 a3.2.2.2.2.2.1) fun r87 => some (((r87.1.1.1, ()), ()), ())) else (bif decide (a3.1 = 26) then (Option.bind (spec_l1In.f k a3.2.2.2.2.2.1 0 (IntKind.wrap .i64 (a1 - 1))) fun r88 => some (((r88.1.1.1, ()), ()), ())) else (bif decide (a3.1 = 23) then (bif decide (a3.2.1 = 8) then (some (((decide (a3.2.2.2.2.2.1 = 0), ()), ()), ())) else (some (((false, ()), ()), ()))) else (some (((decide (a3.2.2.2.2.2.1 = 0), ()), ()), ())))))) else (bif decide (a3.1 = 21) then (Option.bind (spec_l1Value.f k a3.2.1 a3.2.2.2.2.2.1) fun r89 => some (((r89.1.1.1, ()), ()), ())) else (bif decide (a3.1 = 26) then (Option.bind (spec_l1In.f k a3.2.2.2.2.2.1 0 (IntKind.wrap .i64 (a1 - 1))) fun r90 => some (((r90.1.1.1, ()), ()), ())) else (bif decide (a3.1 = 23) then (bif decide (a3.2.1 = 8) then (some (((decide (a3.2.2.2.2.2.1 = 0), ()), ()), ())) else (some (((false, ()), ()), ()))) else (some (((decide (a3.2.2.2.2.2.1 = 0), ()), ()), ())))))))) else (bif decide (((List.length a4 : Nat) : Int) < 2) then (bif !decide (a3.2.2.2.1 = 0) then (some (((false, ()), ()), ())) else (bif decide (((List.length a4 : Nat) : Int) < 3) then (bif !decide (a3.2.2.2.2.1 = 0) then (some (((false, ()), ()), ())) else (bif decide (a3.1 = 21) then (Option.bind (spec_l1Value.f k a3.2.1 a3.2.2.2.2.2.1) fun r91 => some (((r91.1.1.1, ()), ()), ())) else (bif decide (a3.1 = 26) then (Option.bind (spec_l1In.f k a3.2.2.2.2.2.1 0 (IntKind.wrap .i64 (a1 - 1))) fun r92 => some (((r92.1.1.1, ()), ()), ())) else (bif decide (a3.1 = 23) then (bif decide (a3.2.1 = 8) then (some (((decide (a3.2.2.2.2.2.1 = 0), ()), ()), ())) else (some (((false, ()), ()), ()))) else (some (((decide (a3.2.2.2.2.2.1 = 0), ()), ()), ())))))) else (bif decide (a3.1 = 21) then (Option.bind (spec_l1Value.f k a3.2.1 a3.2.2.2.2.2.1) fun r93 => some (((r93.1.1.1, ()), ()), ())) else (bif decide (a3.1 = 26) then (Option.bind (spec_l1In.f k a3.2.2.2.2.2.1 0 (IntKind.wrap .i64 (a1 - 1))) fun r94 => some (((r94.1.1.1, ()), ()), ())) else (bif decide (a3.1 = 23) then (bif decide (a3.2.1 = 8) then (some (((decide (a3.2.2.2.2.2.1 = 0), ()), ()), ())) else (some (((false, ()), ()), ()))) else (some (((decide (a3.2.2.2.2.2.1 = 0), ()), ()), ()))))))) else (bif decide (((List.length a4 : Nat) : Int) < 3) then (bif !decide (a3.2.2.2.2.1 = 0) then (some (((false, ()), ()), ())) else (bif decide (a3.1 = 21) then (Option.bind (spec_l1Value.f k a3.2.1 a3.2.2.2.2.2.1) fun r95 => some (((r95.1.1.1, ()), ()), ())) else (bif decide (a3.1 = 26) then (Option.bind (spec_l1In.f k a3.2.2.2.2.2.1 0 (IntKind.wrap .i64 (a1 - 1))) fun r96 => some (((r96.1.1.1, ()), ()), ())) else (bif decide (a3.1 = 23) then (bif decide (a3.2.1 = 8) then (some (((decide (a3.2.2.2.2.2.1 = 0), ()), ()), ())) else (some (((false, ()), ()), ()))) else (some (((decide (a3.2.2.2.2.2.1 = 0), ()), ()), ())))))) else (bif decide (a3.1 = 21) then (Option.bind (spec_l1Value.f k a3.2.1 a3.2.2.2.2.2.1) fun r97 => some (((r97.1.1.1, ()), ()), ())) else (bif decide (a3.1 = 26) then (Option.bind (spec_l1In.f k a3.2.2.2.2.2.1 0 (IntKind.wrap .i64 (a1 - 1))) fun r98 => some (((r98.1.1.1, ()), ()), ())) else (bif decide (a3.1 = 23) then (bif decide (a3.2.1 = 8) then (some (((decide (a3.2.2.2.2.2.1 = 0), ()), ()), ())) else (some (((false, ()), ()), ()))) else (some (((decide (a3.2.2.2.2.2.1 = 0), ()), ()), ())))))))))))))
def spec_l2Inst.all : Nat → (Int → Int → Int → tInstD → (List Int) → Option spec_l2Inst.R) × Unit
  | 0 => (fun _ _ _ _ _ => none, ())
  | k + 1 => (spec_l2Inst.l0_ k (spec_l2Inst.all k).1, ())
def spec_l2Inst.l0 (k : Nat) : Int → Int → Int → tInstD → (List Int) → Option spec_l2Inst.R := (spec_l2Inst.all k).1
def spec_l2Inst.f (k : Nat) (a0 : tInstD) (a1 : Int) (a2 : Int) : Option spec_l2Inst.R := Option.bind (spec_l1In.f k a0.1 1 27) fun r1 => bif !r1.1.1.1 then (some (((false, ()), ()), ())) else (bif !decide (a0.1 = 26) then (bif decide (0 < ((List.length a0.2.2.2.2.2.2.1 : Nat) : Int)) then (some (((false, ()), ()), ())) else (Option.bind (spec_l2Operands.f k a0) fun r2 => spec_l2Inst.l0 k a1 a2 0 a0 r2.2.1)) else (Option.bind (spec_l2Operands.f k a0) fun r3 => spec_l2Inst.l0 k a1 a2 0 a0 r3.2.1))
def spec_l2Inst.s (k : Nat) : FS := ⟨[⟨true, [.int .i64, .int .i64, .int .i64, .int .i64, .int .i64, .int .i64, .lst (.int .i64)]⟩, ⟨false, [.int .i64]⟩, ⟨false, [.int .i64]⟩], [], false, [⟨false, [.bool]⟩], [], [], fun x => spec_l2Inst.f k x.1.1 x.1.2.1.1 x.1.2.2.1.1⟩
def spec_l2Inst.E (k : Nat) : Ents := [(⟨25, []⟩, spec_l1In.s k), (⟨54, []⟩, spec_l2Operands.s k), (⟨71, []⟩, spec_l1Value.s k), (⟨50, []⟩, spec_WidthOk.s k)]
def spec_l2Inst.L0 (l : Int → Int → Int → tInstD → (List Int) → Option spec_l2Inst.R) : LS spec_l2Inst.R := ⟨[], [(1, ⟨false, [.int .i64]⟩), (2, ⟨false, [.int .i64]⟩), (3, ⟨false, [.ptr 100000 0]⟩), (7, ⟨false, [.own 100001]⟩), (8, ⟨false, [.int .i64]⟩)], [(100000, .box [.int .i64, .int .i64, .int .i64, .int .i64, .int .i64, .int .i64, .lst (.int .i64)]), (100001, .row true (.int .i64))], fun x => l x.1.1.1 x.1.2.1.1 x.1.2.2.2.2.1.1 x.2.1 x.2.2.1⟩
def spec_l2Inst.L (l0 : Int → Int → Int → tInstD → (List Int) → Option spec_l2Inst.R) : List (LS spec_l2Inst.R) := [spec_l2Inst.L0 l0]
def spec_l2Inst.c : Code := Tryz.f43.body.getD .skip
theorem spec_l2Inst.eq (k : Nat) (x) : (spec_l2Inst.s k).pf x = execF tab (spec_l2Inst.E k) Tryz.f43 spec_l2Inst.c (spec_l2Inst.s k) (spec_l2Inst.L (spec_l2Inst.l0 k)) x := by kernel_rfl
theorem spec_l2Inst.r0 (l0 : Int → Int → Int → tInstD → (List Int) → Option spec_l2Inst.R) (k : Nat) (x) : spec_l2Inst.l0_ k l0 x.1.1.1 x.1.2.1.1 x.1.2.2.2.2.1.1 x.2.1 x.2.2.1 = roundOf tab (spec_l2Inst.E k) (spec_l2Inst.L l0) spec_l2Inst.c (fin tab Tryz.f43 (spec_l2Inst.s k)) 0 (spec_l2Inst.L0 l0) x := by kernel_rfl
theorem spec_l2Inst.sound : ∀ k, Sound Tryz.prog 43 (spec_l2Inst.s k) := sound_of mixed tab_ok (f := 43) (fn := Tryz.f43) (c := spec_l2Inst.c) (by kernel_rfl) (by kernel_rfl) (by kernel_rfl) ⟨[⟨true, [.int .i64, .int .i64, .int .i64, .int .i64, .int .i64, .int .i64, .lst (.int .i64)]⟩, ⟨false, [.int .i64]⟩, ⟨false, [.int .i64]⟩], [], false, [⟨false, [.bool]⟩], [], []⟩ (by kernel_rfl) (by kernel_rfl) (fun k => (spec_l2Inst.s k).pf) spec_l2Inst.E (fun k => (EntsOK.cons (spec_l1In.sound k) (EntsOK.cons (spec_l2Operands.sound k) (EntsOK.cons (spec_l1Value.sound k) (EntsOK.cons (spec_WidthOk.sound k) EntsOK.nil))))) (fun k => spec_l2Inst.L (spec_l2Inst.l0 k)) (fun k => ⟨rfl, trivial⟩) ⟨fun _ => rfl, trivial⟩ (fun k => ⟨⟨(spec_l2Inst.L0 (spec_l2Inst.l0 (k + 1))).l, rfl, fun x => spec_l2Inst.r0 (spec_l2Inst.l0 k) k x⟩, trivial⟩) spec_l2Inst.eq
end
end Go.Proofs.YtkfehogikjcgkaaGreat.V
namespace Go.Proofs.YtkfehogikjcgkaaGreat.V
open Go
set_option linter.unusedVariables false
noncomputable section
/-! ### spec.l2Term: function 51 -/
abbrev spec_l2Term.R := (((Bool × Unit) × Unit) × Unit)
def spec_l2Term.f (k : Nat) (a0 : tTermD) (a1 : Int) (a2 : Int) : Option spec_l2Term.R := bif decide (a0.1 = 1) then (Option.bind (spec_l1In.f k a0.2.1 0 (IntKind.wrap .i64 (a1 - 1))) fun r1 => bif r1.1.1.1 then (bif decide (a0.2.2.1 = 0) then (some (((decide (a0.2.2.2.1 = 0), ()), ()), ())) else (some (((false, ()), ()), ()))) else (some (((false, ()), ()), ()))) else (bif decide (a0.1 = 2) then (bif decide (a0.2.1 = 0) then (Option.bind (spec_l1In.f k a0.2.2.1 0 (IntKind.wrap .i64 (a2 - 1))) fun r2 => bif r2.1.1.1 then (some (((decide (a0.2.2.2.1 = 0), ()), ()), ())) else (some (((false, ()), ()), ()))) else (some (((false, ()), ()), ()))) else (bif decide (a0.1 = 3) then (Option.bind (spec_l1In.f k a0.2.1 0 (IntKind.wrap .i64 (a1 - 1))) fun r3 => bif r3.1.1.1 then (Option.bind (spec_l1In.f k a0.2.2.1 0 (IntKind.wrap .i64 (a2 - 1))) fun r4 => bif r4.1.1.1 then (Option.bind (spec_l1In.f k a0.2.2.2.1 0 (IntKind.wrap .i64 (a2 - 1))) fun r5 => bif r5.1.1.1 then (some (((!decide (a0.2.2.1 = a0.2.2.2.1), ()), ()), ())) else (some (((false, ()), ()), ()))) else (some (((false, ()), ()), ()))) else (some (((false, ()), ()), ()))) else (bif decide (a0.1 = 4) then (bif decide (a0.2.1 = 0) then (bif decide (a0.2.2.1 = 0) then (some (((decide (a0.2.2.2.1 = 0), ()), ()), ())) else (some (((false, ()), ()), ()))) else (some (((false, ()), ()), ()))) else (some (((false, ()), ()), ())))))
def spec_l2Term.s (k : Nat) : FS := ⟨[⟨true, [.int .i64, .int .i64, .int .i64, .int .i64]⟩, ⟨false, [.int .i64]⟩, ⟨false, [.int .i64]⟩], [], false, [⟨false, [.bool]⟩], [], [], fun x => spec_l2Term.f k x.1.1 x.1.2.1.1 x.1.2.2.1.1⟩
def spec_l2Term.E (k : Nat) : Ents := [(⟨25, []⟩, spec_l1In.s k)]
def spec_l2Term.L : List (LS spec_l2Term.R) := []
def spec_l2Term.c : Code := Tryz.f51.body.getD .skip
theorem spec_l2Term.eq (k : Nat) (x) : (spec_l2Term.s k).pf x = execF tab (spec_l2Term.E k) Tryz.f51 spec_l2Term.c (spec_l2Term.s k) spec_l2Term.L x := by kernel_rfl
theorem spec_l2Term.sound : ∀ k, Sound Tryz.prog 51 (spec_l2Term.s k) := sound_of mixed tab_ok (f := 51) (fn := Tryz.f51) (c := spec_l2Term.c) (by kernel_rfl) (by kernel_rfl) (by kernel_rfl) ⟨[⟨true, [.int .i64, .int .i64, .int .i64, .int .i64]⟩, ⟨false, [.int .i64]⟩, ⟨false, [.int .i64]⟩], [], false, [⟨false, [.bool]⟩], [], []⟩ (by kernel_rfl) (by kernel_rfl) (fun k => (spec_l2Term.s k).pf) spec_l2Term.E (fun k => (EntsOK.cons (spec_l1In.sound k) EntsOK.nil)) (fun k => spec_l2Term.L) (fun k => trivial) trivial (fun k => trivial) spec_l2Term.eq
end
end Go.Proofs.YtkfehogikjcgkaaGreat.V
namespace Go.Proofs.YtkfehogikjcgkaaGreat.V
open Go
set_option linter.unusedVariables false
noncomputable section
/-! ### spec.l2Func: function 24 -/
abbrev spec_l2Func.R := (((Bool × Unit) × Unit) × Unit)
def spec_l2Func.l0_ (k : Nat) (l0 : Int → Int → Int → Int → tFuncD → Option spec_l2Func.R) (l1 : Int → Int → Int → Int → tFuncD → Option spec_l2Func.R) (l2 : Int → Int → Int → Int → Int → tFuncD → tBlockD → Option spec_l2Func.R) (l3 : Int → Int → Int → Int → Int → Int → tFuncD → tBlockD → Option spec_l2Func.R) (l4 : Int → Int → Int → Int → Int → tFuncD → tBlockD → Option spec_l2Func.R) (a0 : Int) (a1 : Int) (a2 : Int) (a3 : Int) (a4 : tFuncD) : Option spec_l2Func.R := bif decide (a3 < ((List.length a4.1 : Nat) : Int)) then (bif (decide (0 ≤ a3)) && (decide (a3 < ((List.length a4.1 : Nat) : Int))) then (Option.bind (spec_WidthOk.f k (List.getD a4.1 (Int.toNat a3) 0)) fun r1 => bif !r1.1.1.1 then (some (((false, ()), ()), ())) else (l0 a0 a1 a2 (IntKind.wrap .i64 (a3 + 1)) a4)) else none) else (l1 a0 a1 a2 0 a4)
def spec_l2Func.l1_ (k : Nat) (l0 : Int → Int → Int → Int → tFuncD → Option spec_l2Func.R) (l1 : Int → Int → Int → Int → tFuncD → Option spec_l2Func.R) (l2 : Int → Int → Int → Int → Int → tFuncD → tBlockD → Option spec_l2Func.R) (l3 : Int → Int → Int → Int → Int → Int → tFuncD → tBlockD → Option spec_l2Func.R) (l4 : Int → Int → Int → Int → Int → tFuncD → tBlockD → Option spec_l2Func.R) (a0 : Int) (a1 : Int) (a2 : Int) (a3 : Int) (a4 : tFuncD) : Option spec_l2Func.R := bif decide (a3 < ((List.length a4.2.2.1 : Nat) : Int)) then (bif (decide (0 ≤ a3)) && (decide (a3 < ((List.length a4.2.2.1 : Nat) : Int))) then (l2 a0 a1 a2 a3 0 a4 (List.getD a4.2.2.1 (Int.toNat a3) tBlockZ)) else none) else (some (((true, ()), ()), ()))
def spec_l2Func.l2_ (k : Nat) (l0 : Int → Int → Int → Int → tFuncD → Option spec_l2Func.R) (l1 : Int → Int → Int → Int → tFuncD → Option spec_l2Func.R) (l2 : Int → Int → Int → Int → Int → tFuncD → tBlockD → Option spec_l2Func.R) (l3 : Int → Int → Int → Int → Int → Int → tFuncD → tBlockD → Option spec_l2Func.R) (l4 : Int → Int → Int → Int → Int → tFuncD → tBlockD → Option spec_l2Func.R) (a0 : Int) (a1 : Int) (a2 : Int) (a3 : Int) (a4 : Int) (a5 : tFuncD) (a6 : tBlockD) : Option spec_l2Func.R := bif decide (a4 < ((List.length a6.1 : Nat) : Int)) then (bif (decide (0 ≤ a4)) && (decide (a4 < ((List.length a6.1 : Nat) : Int))) then (Option.bind (spec_WidthOk.f k ((List.getD a6.1 (Int.toNat a4) tPhiZ).1)) fun r1 => bif !r1.1.1.1 then (some (((false, ()), ()), ())) else (bif (decide (0 ≤ a4)) && (decide (a4 < ((List.length a6.1 : Nat) : Int))) then (bif decide (10 < ((List.length ((List.getD a6.1 (Int.toNat a4) tPhiZ).2.1) : Nat) : Int)) then (some (((false, ()), ()), ())) else (l3 a0 a1 a2 a3 a4 0 a5 a6)) else none)) else none) else (l4 a0 a1 a2 a3 0 a5 a6)
def spec_l2Func.l3_ (k : Nat) (l0 : Int → Int → Int → Int → tFuncD → Option spec_l2Func.R) (l1 : Int → Int → Int → Int → tFuncD → Option spec_l2Func.R) (l2 : Int → Int → Int → Int → Int → tFuncD → tBlockD → Option spec_l2Func.R) (l3 : Int → Int → Int → Int → Int → Int → tFuncD → tBlockD → Option spec_l2Func.R) (l4 : Int → Int → Int → Int → Int → tFuncD → tBlockD → Option spec_l2Func.R) (a0 : Int) (a1 : Int) (a2 : Int) (a3 : Int) (a4 : Int) (a5 : Int) (a6 : tFuncD) (a7 : tBlockD) : Option spec_l2Func.R := bif (decide (0 ≤ a4)) && (decide (a4 < ((List.length a7.1 : Nat) : Int))) then (bif decide (a5 < ((List.length ((List.getD a7.1 (Int.toNat a4) tPhiZ).2.1) : Nat) : Int)) then (bif (decide (0 ≤ a4)) && (decide (a4 < ((List.length a7.1 : Nat) : Int))) then (bif (decide (0 ≤ a5)) && (decide (a5 < ((List.length ((List.getD a7.1 (Int.toNat a4) tPhiZ).2.1) : Nat) : Int))) then (Option.bind (spec_l1In.f k (List.getD ((List.getD a7.1 (Int.toNat a4) tPhiZ).2.1) (Int.toNat a5) 0) 0 (IntKind.wrap .i64 (a1 - 1))) fun r1 => bif !r1.1.1.1 then (some (((false, ()), ()), ())) else (l3 a0 a1 a2 a3 a4 (IntKind.wrap .i64 (a5 + 1)) a6 a7)) else none) else none) else (l2 a0 a1 a2 a3 (IntKind.wrap .i64 (a4 + 1)) a6 a7)) else none
def spec_l2Func.l4_ (k : Nat) (l0 : Int → Int → Int → Int → tFuncD → Option spec_l2Func.R) (l1 : Int → Int → Int → Int → tFuncD → Option spec_l2Func.R) (l2 : Int → Int → Int → Int → Int → tFuncD → tBlockD → Option spec_l2Func.R) (l3 : Int → Int → Int → Int → Int → Int → tFuncD → tBlockD → Option spec_l2Func.R) (l4 : Int → Int → Int → Int → Int → tFuncD → tBlockD → Option spec_l2Func.R) (a0 : Int) (a1 : Int) (a2 : Int) (a3 : Int) (a4 : Int) (a5 : tFuncD) (a6 : tBlockD) : Option spec_l2Func.R := bif decide (a4 < ((List.length a6.2.1 : Nat) : Int)) then (bif (decide (0 ≤ a4)) && (decide (a4 < ((List.length a6.2.1 : Nat) : Int))) then (Option.bind (spec_l2Inst.f k (List.getD a6.2.1 (Int.toNat a4) tInstZ) a1 a0) fun r1 => bif !r1.1.1.1 then (some (((false, ()), ()), ())) else (l4 a0 a1 a2 a3 (IntKind.wrap .i64 (a4 + 1)) a5 a6)) else none) else (Option.bind (spec_l2Term.f k a6.2.2 a1 a2) fun r2 => bif !r2.1.1.1 then (some (((false, ()), ()), ())) else (l1 a0 a1 a2 (IntKind.wrap .i64 (a3 + 1)) a5))
def spec_l2Func.all : Nat → (Int → Int → Int → Int → tFuncD → Option spec_l2Func.R) × (Int → Int → Int → Int → tFuncD → Option spec_l2Func.R) × (Int → Int → Int → Int → Int → tFuncD → tBlockD → Option spec_l2Func.R) × (Int → Int → Int → Int → Int → Int → tFuncD → tBlockD → Option spec_l2Func.R) × (Int → Int → Int → Int → Int → tFuncD → tBlockD → Option spec_l2Func.R) × Unit
  | 0 => (fun _ _ _ _ _ => none, fun _ _ _ _ _ => none, fun _ _ _ _ _ _ _ => none, fun _ _ _ _ _ _ _ _ => none, fun _ _ _ _ _ _ _ => none, ())
  | k + 1 => (spec_l2Func.l0_ k (spec_l2Func.all k).1 (spec_l2Func.all k).2.1 (spec_l2Func.all k).2.2.1 (spec_l2Func.all k).2.2.2.1 (spec_l2Func.all k).2.2.2.2.1, spec_l2Func.l1_ k (spec_l2Func.all k).1 (spec_l2Func.all k).2.1 (spec_l2Func.all k).2.2.1 (spec_l2Func.all k).2.2.2.1 (spec_l2Func.all k).2.2.2.2.1, spec_l2Func.l2_ k (spec_l2Func.all k).1 (spec_l2Func.all k).2.1 (spec_l2Func.all k).2.2.1 (spec_l2Func.all k).2.2.2.1 (spec_l2Func.all k).2.2.2.2.1, spec_l2Func.l3_ k (spec_l2Func.all k).1 (spec_l2Func.all k).2.1 (spec_l2Func.all k).2.2.1 (spec_l2Func.all k).2.2.2.1 (spec_l2Func.all k).2.2.2.2.1, spec_l2Func.l4_ k (spec_l2Func.all k).1 (spec_l2Func.all k).2.1 (spec_l2Func.all k).2.2.1 (spec_l2Func.all k).2.2.2.1 (spec_l2Func.all k).2.2.2.2.1, ())
def spec_l2Func.l0 (k : Nat) : Int → Int → Int → Int → tFuncD → Option spec_l2Func.R := (spec_l2Func.all k).1
def spec_l2Func.l1 (k : Nat) : Int → Int → Int → Int → tFuncD → Option spec_l2Func.R := (spec_l2Func.all k).2.1
def spec_l2Func.l2 (k : Nat) : Int → Int → Int → Int → Int → tFuncD → tBlockD → Option spec_l2Func.R := (spec_l2Func.all k).2.2.1
def spec_l2Func.l3 (k : Nat) : Int → Int → Int → Int → Int → Int → tFuncD → tBlockD → Option spec_l2Func.R := (spec_l2Func.all k).2.2.2.1
def spec_l2Func.l4 (k : Nat) : Int → Int → Int → Int → Int → tFuncD → tBlockD → Option spec_l2Func.R := (spec_l2Func.all k).2.2.2.2.1
def spec_l2Func.f (k : Nat) (a0 : tFuncD) (a1 : Int) : Option spec_l2Func.R := Option.bind (spec_CountOf.f k a0) fun r1 => bif decide (4 < ((List.length a0.1 : Nat) : Int)) then (some (((false, ()), ()), ())) else (Option.bind (spec_WidthOk.f k a0.2.1) fun r2 => bif !r2.1.1.1 then (some (((false, ()), ()), ())) else (Option.bind (spec_l1In.f k ((List.length a0.2.2.1 : Nat) : Int) 1 10) fun r3 => bif !r3.1.1.1 then (some (((false, ()), ()), ())) else (bif decide (60 < r1.1.1.1) then (some (((false, ()), ()), ())) else (spec_l2Func.l0 k a1 r1.1.1.1 ((List.length a0.2.2.1 : Nat) : Int) 0 a0))))
def spec_l2Func.s (k : Nat) : FS := ⟨[⟨true, [.lst (.int .i64), .int .i64, .lst tBlock]⟩, ⟨false, [.int .i64]⟩], [], false, [⟨false, [.bool]⟩], [], [], fun x => spec_l2Func.f k x.1.1 x.1.2.1.1⟩
def spec_l2Func.E (k : Nat) : Ents := [(⟨26, []⟩, spec_CountOf.s k), (⟨50, []⟩, spec_WidthOk.s k), (⟨25, []⟩, spec_l1In.s k), (⟨43, []⟩, spec_l2Inst.s k), (⟨51, []⟩, spec_l2Term.s k)]
def spec_l2Func.L0 (l : Int → Int → Int → Int → tFuncD → Option spec_l2Func.R) : LS spec_l2Func.R := ⟨[], [(1, ⟨false, [.int .i64]⟩), (2, ⟨false, [.ptr 100000 0]⟩), (5, ⟨false, [.int .i64]⟩), (6, ⟨false, [.int .i64]⟩), (7, ⟨false, [.int .i64]⟩)], [(100000, .box [.lst (.int .i64), .int .i64, .lst tBlock])], fun x => l x.1.1.1 x.1.2.2.1.1 x.1.2.2.2.1.1 x.1.2.2.2.2.1.1 x.2.1⟩
def spec_l2Func.L1 (l : Int → Int → Int → Int → tFuncD → Option spec_l2Func.R) : LS spec_l2Func.R := ⟨[], [(1, ⟨false, [.int .i64]⟩), (2, ⟨false, [.ptr 100000 0]⟩), (5, ⟨false, [.int .i64]⟩), (6, ⟨false, [.int .i64]⟩), (8, ⟨false, [.int .i64]⟩)], [(100000, .box [.lst (.int .i64), .int .i64, .lst tBlock])], fun x => l x.1.1.1 x.1.2.2.1.1 x.1.2.2.2.1.1 x.1.2.2.2.2.1.1 x.2.1⟩
def spec_l2Func.L2 (l : Int → Int → Int → Int → Int → tFuncD → tBlockD → Option spec_l2Func.R) : LS spec_l2Func.R := ⟨[], [(1, ⟨false, [.int .i64]⟩), (2, ⟨false, [.ptr 100000 0]⟩), (5, ⟨false, [.int .i64]⟩), (6, ⟨false, [.int .i64]⟩), (8, ⟨false, [.int .i64]⟩), (9, ⟨false, [.ptr 100001 0]⟩), (10, ⟨false, [.int .i64]⟩)], [(100000, .box [.lst (.int .i64), .int .i64, .lst tBlock]), (100001, .box [.lst tPhi, .lst tInst, .int .i64, .int .i64, .int .i64, .int .i64])], fun x => l x.1.1.1 x.1.2.2.1.1 x.1.2.2.2.1.1 x.1.2.2.2.2.1.1 x.1.2.2.2.2.2.2.1.1 x.2.1 x.2.2.1⟩
def spec_l2Func.L3 (l : Int → Int → Int → Int → Int → Int → tFuncD → tBlockD → Option spec_l2Func.R) : LS spec_l2Func.R := ⟨[], [(1, ⟨false, [.int .i64]⟩), (2, ⟨false, [.ptr 100000 0]⟩), (5, ⟨false, [.int .i64]⟩), (6, ⟨false, [.int .i64]⟩), (8, ⟨false, [.int .i64]⟩), (9, ⟨false, [.ptr 100001 0]⟩), (10, ⟨false, [.int .i64]⟩), (11, ⟨false, [.int .i64]⟩)], [(100000, .box [.lst (.int .i64), .int .i64, .lst tBlock]), (100001, .box [.lst tPhi, .lst tInst, .int .i64, .int .i64, .int .i64, .int .i64])], fun x => l x.1.1.1 x.1.2.2.1.1 x.1.2.2.2.1.1 x.1.2.2.2.2.1.1 x.1.2.2.2.2.2.2.1.1 x.1.2.2.2.2.2.2.2.1.1 x.2.1 x.2.2.1⟩
def spec_l2Func.L4 (l : Int → Int → Int → Int → Int → tFuncD → tBlockD → Option spec_l2Func.R) : LS spec_l2Func.R := ⟨[], [(1, ⟨false, [.int .i64]⟩), (2, ⟨false, [.ptr 100000 0]⟩), (5, ⟨false, [.int .i64]⟩), (6, ⟨false, [.int .i64]⟩), (8, ⟨false, [.int .i64]⟩), (9, ⟨false, [.ptr 100001 0]⟩), (12, ⟨false, [.int .i64]⟩)], [(100000, .box [.lst (.int .i64), .int .i64, .lst tBlock]), (100001, .box [.lst tPhi, .lst tInst, .int .i64, .int .i64, .int .i64, .int .i64])], fun x => l x.1.1.1 x.1.2.2.1.1 x.1.2.2.2.1.1 x.1.2.2.2.2.1.1 x.1.2.2.2.2.2.2.1.1 x.2.1 x.2.2.1⟩
def spec_l2Func.L (l0 : Int → Int → Int → Int → tFuncD → Option spec_l2Func.R) (l1 : Int → Int → Int → Int → tFuncD → Option spec_l2Func.R) (l2 : Int → Int → Int → Int → Int → tFuncD → tBlockD → Option spec_l2Func.R) (l3 : Int → Int → Int → Int → Int → Int → tFuncD → tBlockD → Option spec_l2Func.R) (l4 : Int → Int → Int → Int → Int → tFuncD → tBlockD → Option spec_l2Func.R) : List (LS spec_l2Func.R) := [spec_l2Func.L0 l0, spec_l2Func.L1 l1, spec_l2Func.L2 l2, spec_l2Func.L3 l3, spec_l2Func.L4 l4]
def spec_l2Func.c : Code := Tryz.f24.body.getD .skip
theorem spec_l2Func.eq (k : Nat) (x) : (spec_l2Func.s k).pf x = execF tab (spec_l2Func.E k) Tryz.f24 spec_l2Func.c (spec_l2Func.s k) (spec_l2Func.L (spec_l2Func.l0 k) (spec_l2Func.l1 k) (spec_l2Func.l2 k) (spec_l2Func.l3 k) (spec_l2Func.l4 k)) x := by kernel_rfl
theorem spec_l2Func.r0 (l0 : Int → Int → Int → Int → tFuncD → Option spec_l2Func.R) (l1 : Int → Int → Int → Int → tFuncD → Option spec_l2Func.R) (l2 : Int → Int → Int → Int → Int → tFuncD → tBlockD → Option spec_l2Func.R) (l3 : Int → Int → Int → Int → Int → Int → tFuncD → tBlockD → Option spec_l2Func.R) (l4 : Int → Int → Int → Int → Int → tFuncD → tBlockD → Option spec_l2Func.R) (k : Nat) (x) : spec_l2Func.l0_ k l0 l1 l2 l3 l4 x.1.1.1 x.1.2.2.1.1 x.1.2.2.2.1.1 x.1.2.2.2.2.1.1 x.2.1 = roundOf tab (spec_l2Func.E k) (spec_l2Func.L l0 l1 l2 l3 l4) spec_l2Func.c (fin tab Tryz.f24 (spec_l2Func.s k)) 0 (spec_l2Func.L0 l0) x := by kernel_rfl
theorem spec_l2Func.r1 (l0 : Int → Int → Int → Int → tFuncD → Option spec_l2Func.R) (l1 : Int → Int → Int → Int → tFuncD → Option spec_l2Func.R) (l2 : Int → Int → Int → Int → Int → tFuncD → tBlockD → Option spec_l2Func.R) (l3 : Int → Int → Int → Int → Int → Int → tFuncD → tBlockD → Option spec_l2Func.R) (l4 : Int → Int → Int → Int → Int → tFuncD → tBlockD → Option spec_l2Func.R) (k : Nat) (x) : spec_l2Func.l1_ k l0 l1 l2 l3 l4 x.1.1.1 x.1.2.2.1.1 x.1.2.2.2.1.1 x.1.2.2.2.2.1.1 x.2.1 = roundOf tab (spec_l2Func.E k) (spec_l2Func.L l0 l1 l2 l3 l4) spec_l2Func.c (fin tab Tryz.f24 (spec_l2Func.s k)) 1 (spec_l2Func.L1 l1) x := by kernel_rfl
theorem spec_l2Func.r2 (l0 : Int → Int → Int → Int → tFuncD → Option spec_l2Func.R) (l1 : Int → Int → Int → Int → tFuncD → Option spec_l2Func.R) (l2 : Int → Int → Int → Int → Int → tFuncD → tBlockD → Option spec_l2Func.R) (l3 : Int → Int → Int → Int → Int → Int → tFuncD → tBlockD → Option spec_l2Func.R) (l4 : Int → Int → Int → Int → Int → tFuncD → tBlockD → Option spec_l2Func.R) (k : Nat) (x) : spec_l2Func.l2_ k l0 l1 l2 l3 l4 x.1.1.1 x.1.2.2.1.1 x.1.2.2.2.1.1 x.1.2.2.2.2.1.1 x.1.2.2.2.2.2.2.1.1 x.2.1 x.2.2.1 = roundOf tab (spec_l2Func.E k) (spec_l2Func.L l0 l1 l2 l3 l4) spec_l2Func.c (fin tab Tryz.f24 (spec_l2Func.s k)) 2 (spec_l2Func.L2 l2) x := by kernel_rfl
theorem spec_l2Func.r3 (l0 : Int → Int → Int → Int → tFuncD → Option spec_l2Func.R) (l1 : Int → Int → Int → Int → tFuncD → Option spec_l2Func.R) (l2 : Int → Int → Int → Int → Int → tFuncD → tBlockD → Option spec_l2Func.R) (l3 : Int → Int → Int → Int → Int → Int → tFuncD → tBlockD → Option spec_l2Func.R) (l4 : Int → Int → Int → Int → Int → tFuncD → tBlockD → Option spec_l2Func.R) (k : Nat) (x) : spec_l2Func.l3_ k l0 l1 l2 l3 l4 x.1.1.1 x.1.2.2.1.1 x.1.2.2.2.1.1 x.1.2.2.2.2.1.1 x.1.2.2.2.2.2.2.1.1 x.1.2.2.2.2.2.2.2.1.1 x.2.1 x.2.2.1 = roundOf tab (spec_l2Func.E k) (spec_l2Func.L l0 l1 l2 l3 l4) spec_l2Func.c (fin tab Tryz.f24 (spec_l2Func.s k)) 3 (spec_l2Func.L3 l3) x := by kernel_rfl
theorem spec_l2Func.r4 (l0 : Int → Int → Int → Int → tFuncD → Option spec_l2Func.R) (l1 : Int → Int → Int → Int → tFuncD → Option spec_l2Func.R) (l2 : Int → Int → Int → Int → Int → tFuncD → tBlockD → Option spec_l2Func.R) (l3 : Int → Int → Int → Int → Int → Int → tFuncD → tBlockD → Option spec_l2Func.R) (l4 : Int → Int → Int → Int → Int → tFuncD → tBlockD → Option spec_l2Func.R) (k : Nat) (x) : spec_l2Func.l4_ k l0 l1 l2 l3 l4 x.1.1.1 x.1.2.2.1.1 x.1.2.2.2.1.1 x.1.2.2.2.2.1.1 x.1.2.2.2.2.2.2.1.1 x.2.1 x.2.2.1 = roundOf tab (spec_l2Func.E k) (spec_l2Func.L l0 l1 l2 l3 l4) spec_l2Func.c (fin tab Tryz.f24 (spec_l2Func.s k)) 4 (spec_l2Func.L4 l4) x := by kernel_rfl
theorem spec_l2Func.sound : ∀ k, Sound Tryz.prog 24 (spec_l2Func.s k) := sound_of mixed tab_ok (f := 24) (fn := Tryz.f24) (c := spec_l2Func.c) (by kernel_rfl) (by kernel_rfl) (by kernel_rfl) ⟨[⟨true, [.lst (.int .i64), .int .i64, .lst tBlock]⟩, ⟨false, [.int .i64]⟩], [], false, [⟨false, [.bool]⟩], [], []⟩ (by kernel_rfl) (by kernel_rfl) (fun k => (spec_l2Func.s k).pf) spec_l2Func.E (fun k => (EntsOK.cons (spec_CountOf.sound k) (EntsOK.cons (spec_WidthOk.sound k) (EntsOK.cons (spec_l1In.sound k) (EntsOK.cons (spec_l2Inst.sound k) (EntsOK.cons (spec_l2Term.sound k) EntsOK.nil)))))) (fun k => spec_l2Func.L (spec_l2Func.l0 k) (spec_l2Func.l1 k) (spec_l2Func.l2 k) (spec_l2Func.l3 k) (spec_l2Func.l4 k)) (fun k => ⟨rfl, rfl, rfl, rfl, rfl, trivial⟩) ⟨fun _ => rfl, fun _ => rfl, fun _ => rfl, fun _ => rfl, fun _ => rfl, trivial⟩ (fun k => ⟨⟨(spec_l2Func.L0 (spec_l2Func.l0 (k + 1))).l, rfl, fun x => spec_l2Func.r0 (spec_l2Func.l0 k) (spec_l2Func.l1 k) (spec_l2Func.l2 k) (spec_l2Func.l3 k) (spec_l2Func.l4 k) k x⟩, ⟨(spec_l2Func.L1 (spec_l2Func.l1 (k + 1))).l, rfl, fun x => spec_l2Func.r1 (spec_l2Func.l0 k) (spec_l2Func.l1 k) (spec_l2Func.l2 k) (spec_l2Func.l3 k) (spec_l2Func.l4 k) k x⟩, ⟨(spec_l2Func.L2 (spec_l2Func.l2 (k + 1))).l, rfl, fun x => spec_l2Func.r2 (spec_l2Func.l0 k) (spec_l2Func.l1 k) (spec_l2Func.l2 k) (spec_l2Func.l3 k) (spec_l2Func.l4 k) k x⟩, ⟨(spec_l2Func.L3 (spec_l2Func.l3 (k + 1))).l, rfl, fun x => spec_l2Func.r3 (spec_l2Func.l0 k) (spec_l2Func.l1 k) (spec_l2Func.l2 k) (spec_l2Func.l3 k) (spec_l2Func.l4 k) k x⟩, ⟨(spec_l2Func.L4 (spec_l2Func.l4 (k + 1))).l, rfl, fun x => spec_l2Func.r4 (spec_l2Func.l0 k) (spec_l2Func.l1 k) (spec_l2Func.l2 k) (spec_l2Func.l3 k) (spec_l2Func.l4 k) k x⟩, trivial⟩) spec_l2Func.eq
end
end Go.Proofs.YtkfehogikjcgkaaGreat.V
namespace Go.Proofs.YtkfehogikjcgkaaGreat.V
open Go
set_option linter.unusedVariables false
noncomputable section
/-! ### spec.l2Place: function 121 -/
abbrev spec_l2Place.R := (((Int × Unit) × (Int × Unit) × Unit) × Unit)
def spec_l2Place.l0_ (k : Nat) (l0 : Int → Int → tFuncD → Option spec_l2Place.R) (a0 : Int) (a1 : Int) (a2 : tFuncD) : Option spec_l2Place.R := bif decide (a1 < ((List.length a2.2.2.1 : Nat) : Int)) then (bif (decide (0 ≤ a1)) && (decide (a1 < ((List.length a2.2.2.1 : Nat) : Int))) then (bif (decide (0 ≤ a1)) && (decide (a1 < ((List.length a2.2.2.1 : Nat) : Int))) then (bif decide (a0 < IntKind.wrap .i64 (((List.length ((List.getD a2.2.2.1 (Int.toNat a1) tBlockZ).1) : Nat) : Int) + ((List.length ((List.getD a2.2.2.1 (Int.toNat a1) tBlockZ).2.1) : Nat) : Int))) then (some (((a1, ()), (a0, ()), ()), ())) else (l0 (IntKind.wrap .i64 (a0 - (IntKind.wrap .i64 (((List.length ((List.getD a2.2.2.1 (Int.toNat a1) tBlockZ).1) : Nat) : Int) + ((List.length ((List.getD a2.2.2.1 (Int.toNat a1) tBlockZ).2.1) : Nat) : Int))))) (IntKind.wrap .i64 (a1 + 1)) a2)) else none) else none) else (some (((-2, ()), (0, ()), ()), ()))
def spec_l2Place.all : Nat → (Int → Int → tFuncD → Option spec_l2Place.R) × Unit
  | 0 => (fun _ _ _ => none, ())
  | k + 1 => (spec_l2Place.l0_ k (spec_l2Place.all k).1, ())
def spec_l2Place.l0 (k : Nat) : Int → Int → tFuncD → Option spec_l2Place.R := (spec_l2Place.all k).1
def spec_l2Place.f (k : Nat) (a0 : tFuncD) (a1 : Int) : Option spec_l2Place.R := bif decide (a1 < 0) then (some (((-2, ()), (0, ()), ()), ())) else (bif decide (a1 < ((List.length a0.1 : Nat) : Int)) then (some (((-1, ()), (a1, ()), ()), ())) else (spec_l2Place.l0 k (IntKind.wrap .i64 (a1 - ((List.length a0.1 : Nat) : Int))) 0 a0))
def spec_l2Place.s (k : Nat) : FS := ⟨[⟨true, [.lst (.int .i64), .int .i64, .lst tBlock]⟩, ⟨false, [.int .i64]⟩], [], true, [⟨false, [.int .i64]⟩, ⟨false, [.int .i64]⟩], [], [], fun x => spec_l2Place.f k x.1.1 x.1.2.1.1⟩
def spec_l2Place.E (k : Nat) : Ents := []
def spec_l2Place.L0 (l : Int → Int → tFuncD → Option spec_l2Place.R) : LS spec_l2Place.R := ⟨[], [(1, ⟨false, [.int .i64]⟩), (2, ⟨false, [.ptr 100000 0]⟩), (6, ⟨false, [.int .i64]⟩)], [(100000, .box [.lst (.int .i64), .int .i64, .lst tBlock])], fun x => l x.1.1.1 x.1.2.2.1.1 x.2.1⟩
def spec_l2Place.L (l0 : Int → Int → tFuncD → Option spec_l2Place.R) : List (LS spec_l2Place.R) := [spec_l2Place.L0 l0]
def spec_l2Place.c : Code := Tryz.f121.body.getD .skip
theorem spec_l2Place.eq (k : Nat) (x) : (spec_l2Place.s k).pf x = execF tab (spec_l2Place.E k) Tryz.f121 spec_l2Place.c (spec_l2Place.s k) (spec_l2Place.L (spec_l2Place.l0 k)) x := by kernel_rfl
theorem spec_l2Place.r0 (l0 : Int → Int → tFuncD → Option spec_l2Place.R) (k : Nat) (x) : spec_l2Place.l0_ k l0 x.1.1.1 x.1.2.2.1.1 x.2.1 = roundOf tab (spec_l2Place.E k) (spec_l2Place.L l0) spec_l2Place.c (fin tab Tryz.f121 (spec_l2Place.s k)) 0 (spec_l2Place.L0 l0) x := by kernel_rfl
theorem spec_l2Place.sound : ∀ k, Sound Tryz.prog 121 (spec_l2Place.s k) := sound_of mixed tab_ok (f := 121) (fn := Tryz.f121) (c := spec_l2Place.c) (by kernel_rfl) (by kernel_rfl) (by kernel_rfl) ⟨[⟨true, [.lst (.int .i64), .int .i64, .lst tBlock]⟩, ⟨false, [.int .i64]⟩], [], true, [⟨false, [.int .i64]⟩, ⟨false, [.int .i64]⟩], [], []⟩ (by kernel_rfl) (by kernel_rfl) (fun k => (spec_l2Place.s k).pf) spec_l2Place.E (fun k => EntsOK.nil) (fun k => spec_l2Place.L (spec_l2Place.l0 k)) (fun k => ⟨rfl, trivial⟩) ⟨fun _ => rfl, trivial⟩ (fun k => ⟨⟨(spec_l2Place.L0 (spec_l2Place.l0 (k + 1))).l, rfl, fun x => spec_l2Place.r0 (spec_l2Place.l0 k) k x⟩, trivial⟩) spec_l2Place.eq
end
end Go.Proofs.YtkfehogikjcgkaaGreat.V
namespace Go.Proofs.YtkfehogikjcgkaaGreat.V
open Go
set_option linter.unusedVariables false
noncomputable section
/-! ### spec.l9Inst: function 115 -/
abbrev spec_l9Inst.R := (((Int × Int × Int × Int × Int × Int × (List Int) × Unit) × (Bool × Unit) × Unit) × Unit)
def spec_l9Inst.f (k : Nat) (a0 : tFuncD) (a1 : Int) : Option spec_l9Inst.R := Option.bind (spec_l2Place.f k a0 a1) fun r1 => bif decide (r1.1.1.1 < 0) then (some (((0, 0, 0, 0, 0, 0, ([] : List Int), ()), (false, ()), ()), ())) else (bif (decide (0 ≤ r1.1.1.1)) && (decide (r1.1.1.1 < ((List.length a0.2.2.1 : Nat) : Int))) then (bif decide (r1.1.2.1.1 < ((List.length ((List.getD a0.2.2.1 (Int.toNat r1.1.1.1) tBlockZ).1) : Nat) : Int)) then (some (((0, 0, 0, 0, 0, 0, ([] : List Int), ()), (false, ()), ()), ())) else (bif (decide (0 ≤ r1.1.1.1)) && (decide (r1.1.1.1 < ((List.length a0.2.2.1 : Nat) : Int))) then (bif (decide (0 ≤ IntKind.wrap .i64 (r1.1.2.1.1 - ((List.length ((List.getD a0.2.2.1 (Int.toNat r1.1.1.1) tBlockZ).1) : Nat) : Int)))) && (decide (IntKind.wrap .i64 (r1.1.2.1.1 - ((List.length ((List.getD a0.2.2.1 (Int.toNat r1.1.1.1) tBlockZ).1) : Nat) : Int)) < ((List.length ((List.getD a0.2.2.1 (Int.toNat r1.1.1.1) tBlockZ).2.1) : Nat) : Int))) then (some (((List.getD ((List.getD a0.2.2.1 (Int.toNat r1.1.1.1) tBlockZ).2.1) (Int.toNat (IntKind.wrap .i64 (r1.1.2.1.1 - ((List.length ((List.getD a0.2.2.1 (Int.toNat r1.1.1.1) tBlockZ).1) : Nat) : Int)))) tInstZ), (true, ()), ()), ())) else none) else none)) else none)
def spec_l9Inst.s (k : Nat) : FS := ⟨[⟨true, [.lst (.int .i64), .int .i64, .lst tBlock]⟩, ⟨false, [.int .i64]⟩], [], true, [⟨true, [.int .i64, .int .i64, .int .i64, .int .i64, .int .i64, .int .i64, .lst (.int .i64)]⟩, ⟨false, [.bool]⟩], [], [], fun x => spec_l9Inst.f k x.1.1 x.1.2.1.1⟩
def spec_l9Inst.E (k : Nat) : Ents := [(⟨121, []⟩, spec_l2Place.s k)]
def spec_l9Inst.L : List (LS spec_l9Inst.R) := []
def spec_l9Inst.c : Code := Tryz.f115.body.getD .skip
theorem spec_l9Inst.eq (k : Nat) (x) : (spec_l9Inst.s k).pf x = execF tab (spec_l9Inst.E k) Tryz.f115 spec_l9Inst.c (spec_l9Inst.s k) spec_l9Inst.L x := by kernel_rfl
theorem spec_l9Inst.sound : ∀ k, Sound Tryz.prog 115 (spec_l9Inst.s k) := sound_of mixed tab_ok (f := 115) (fn := Tryz.f115) (c := spec_l9Inst.c) (by kernel_rfl) (by kernel_rfl) (by kernel_rfl) ⟨[⟨true, [.lst (.int .i64), .int .i64, .lst tBlock]⟩, ⟨false, [.int .i64]⟩], [], true, [⟨true, [.int .i64, .int .i64, .int .i64, .int .i64, .int .i64, .int .i64, .lst (.int .i64)]⟩, ⟨false, [.bool]⟩], [], []⟩ (by kernel_rfl) (by kernel_rfl) (fun k => (spec_l9Inst.s k).pf) spec_l9Inst.E (fun k => (EntsOK.cons (spec_l2Place.sound k) EntsOK.nil)) (fun k => spec_l9Inst.L) (fun k => trivial) trivial (fun k => trivial) spec_l9Inst.eq
end
end Go.Proofs.YtkfehogikjcgkaaGreat.V
namespace Go.Proofs.YtkfehogikjcgkaaGreat.V
open Go
set_option linter.unusedVariables false
noncomputable section
/-! ### spec.ConstOf: function 72 -/
abbrev spec_ConstOf.R := (((Int × Unit) × (Bool × Unit) × Unit) × Unit)
def spec_ConstOf.f (k : Nat) (a0 : tFuncD) (a1 : Int) : Option spec_ConstOf.R := Option.bind (spec_l9Inst.f k a0 a1) fun r1 => bif !r1.1.2.1.1 then (some (((0, ()), (false, ()), ()), ())) else (bif !decide (r1.1.1.1 = 21) then (some (((0, ()), (false, ()), ()), ())) else (some (((r1.1.1.2.2.2.2.2.1, ()), (true, ()), ()), ())))
def spec_ConstOf.s (k : Nat) : FS := ⟨[⟨true, [.lst (.int .i64), .int .i64, .lst tBlock]⟩, ⟨false, [.int .i64]⟩], [], true, [⟨false, [.int .i64]⟩, ⟨false, [.bool]⟩], [], [], fun x => spec_ConstOf.f k x.1.1 x.1.2.1.1⟩
def spec_ConstOf.E (k : Nat) : Ents := [(⟨115, []⟩, spec_l9Inst.s k)]
def spec_ConstOf.L : List (LS spec_ConstOf.R) := []
def spec_ConstOf.c : Code := Tryz.f72.body.getD .skip
theorem spec_ConstOf.eq (k : Nat) (x) : (spec_ConstOf.s k).pf x = execF tab (spec_ConstOf.E k) Tryz.f72 spec_ConstOf.c (spec_ConstOf.s k) spec_ConstOf.L x := by kernel_rfl
theorem spec_ConstOf.sound : ∀ k, Sound Tryz.prog 72 (spec_ConstOf.s k) := sound_of mixed tab_ok (f := 72) (fn := Tryz.f72) (c := spec_ConstOf.c) (by kernel_rfl) (by kernel_rfl) (by kernel_rfl) ⟨[⟨true, [.lst (.int .i64), .int .i64, .lst tBlock]⟩, ⟨false, [.int .i64]⟩], [], true, [⟨false, [.int .i64]⟩, ⟨false, [.bool]⟩], [], []⟩ (by kernel_rfl) (by kernel_rfl) (fun k => (spec_ConstOf.s k).pf) spec_ConstOf.E (fun k => (EntsOK.cons (spec_l9Inst.sound k) EntsOK.nil)) (fun k => spec_ConstOf.L) (fun k => trivial) trivial (fun k => trivial) spec_ConstOf.eq
end
end Go.Proofs.YtkfehogikjcgkaaGreat.V
namespace Go.Proofs.YtkfehogikjcgkaaGreat.V
open Go
set_option linter.unusedVariables false
noncomputable section
/-! ### spec.l1Divides: function 116 -/
abbrev spec_l1Divides.R := (((Bool × Unit) × Unit) × Unit)
def spec_l1Divides.f (k : Nat) (a0 : Int) : Option spec_l1Divides.R := Option.bind (spec_l1In.f k a0 4 7) fun r1 => some (((r1.1.1.1, ()), ()), ())
def spec_l1Divides.s (k : Nat) : FS := ⟨[⟨false, [.int .i64]⟩], [], false, [⟨false, [.bool]⟩], [], [], fun x => spec_l1Divides.f k x.1.1.1⟩
def spec_l1Divides.E (k : Nat) : Ents := [(⟨25, []⟩, spec_l1In.s k)]
def spec_l1Divides.L : List (LS spec_l1Divides.R) := []
def spec_l1Divides.c : Code := Tryz.f116.body.getD .skip
theorem spec_l1Divides.eq (k : Nat) (x) : (spec_l1Divides.s k).pf x = execF tab (spec_l1Divides.E k) Tryz.f116 spec_l1Divides.c (spec_l1Divides.s k) spec_l1Divides.L x := by kernel_rfl
theorem spec_l1Divides.sound : ∀ k, Sound Tryz.prog 116 (spec_l1Divides.s k) := sound_of mixed tab_ok (f := 116) (fn := Tryz.f116) (c := spec_l1Divides.c) (by kernel_rfl) (by kernel_rfl) (by kernel_rfl) ⟨[⟨false, [.int .i64]⟩], [], false, [⟨false, [.bool]⟩], [], []⟩ (by kernel_rfl) (by kernel_rfl) (fun k => (spec_l1Divides.s k).pf) spec_l1Divides.E (fun k => (EntsOK.cons (spec_l1In.sound k) EntsOK.nil)) (fun k => spec_l1Divides.L) (fun k => trivial) trivial (fun k => trivial) spec_l1Divides.eq
end
end Go.Proofs.YtkfehogikjcgkaaGreat.V
namespace Go.Proofs.YtkfehogikjcgkaaGreat.V
open Go
set_option linter.unusedVariables false
noncomputable section
/-! ### spec.l1Sign: function 120 -/
abbrev spec_l1Sign.R := (((Int × Unit) × Unit) × Unit)
def spec_l1Sign.f (k : Nat) (a0 : Int) (a1 : Int) : Option spec_l1Sign.R := Option.bind (spec_l1Top.f k a0) fun r1 => bif !decide (2 = 0) then (bif decide (IntKind.wrap .i64 (Int.tdiv r1.1.1.1 2) ≤ a1) then (Option.bind (spec_l1Top.f k a0) fun r2 => some (((IntKind.wrap .i64 (a1 - r2.1.1.1), ()), ()), ())) else (some (((a1, ()), ()), ()))) else none
def spec_l1Sign.s (k : Nat) : FS := ⟨[⟨false, [.int .i64]⟩, ⟨false, [.int .i64]⟩], [], false, [⟨false, [.int .i64]⟩], [], [], fun x => spec_l1Sign.f k x.1.1.1 x.1.2.1.1⟩
def spec_l1Sign.E (k : Nat) : Ents := [(⟨114, []⟩, spec_l1Top.s k)]
def spec_l1Sign.L : List (LS spec_l1Sign.R) := []
def spec_l1Sign.c : Code := Tryz.f120.body.getD .skip
theorem spec_l1Sign.eq (k : Nat) (x) : (spec_l1Sign.s k).pf x = execF tab (spec_l1Sign.E k) Tryz.f120 spec_l1Sign.c (spec_l1Sign.s k) spec_l1Sign.L x := by kernel_rfl
theorem spec_l1Sign.sound : ∀ k, Sound Tryz.prog 120 (spec_l1Sign.s k) := sound_of mixed tab_ok (f := 120) (fn := Tryz.f120) (c := spec_l1Sign.c) (by kernel_rfl) (by kernel_rfl) (by kernel_rfl) ⟨[⟨false, [.int .i64]⟩, ⟨false, [.int .i64]⟩], [], false, [⟨false, [.int .i64]⟩], [], []⟩ (by kernel_rfl) (by kernel_rfl) (fun k => (spec_l1Sign.s k).pf) spec_l1Sign.E (fun k => (EntsOK.cons (spec_l1Top.sound k) EntsOK.nil)) (fun k => spec_l1Sign.L) (fun k => trivial) trivial (fun k => trivial) spec_l1Sign.eq
end
end Go.Proofs.YtkfehogikjcgkaaGreat.V
namespace Go.Proofs.YtkfehogikjcgkaaGreat.V
open Go
set_option linter.unusedVariables false
noncomputable section
/-! ### spec.l1Bit: function 140 -/
abbrev spec_l1Bit.R := (((Int × Unit) × Unit) × Unit)
def spec_l1Bit.f (k : Nat) (a0 : Bool) : Option spec_l1Bit.R := bif a0 then (some (((1, ()), ()), ())) else (some (((0, ()), ()), ()))
def spec_l1Bit.s (k : Nat) : FS := ⟨[⟨false, [.bool]⟩], [], false, [⟨false, [.int .i64]⟩], [], [], fun x => spec_l1Bit.f k x.1.1.1⟩
def spec_l1Bit.E (k : Nat) : Ents := []
def spec_l1Bit.L : List (LS spec_l1Bit.R) := []
def spec_l1Bit.c : Code := Tryz.f140.body.getD .skip
theorem spec_l1Bit.eq (k : Nat) (x) : (spec_l1Bit.s k).pf x = execF tab (spec_l1Bit.E k) Tryz.f140 spec_l1Bit.c (spec_l1Bit.s k) spec_l1Bit.L x := by kernel_rfl
theorem spec_l1Bit.sound : ∀ k, Sound Tryz.prog 140 (spec_l1Bit.s k) := sound_of mixed tab_ok (f := 140) (fn := Tryz.f140) (c := spec_l1Bit.c) (by kernel_rfl) (by kernel_rfl) (by kernel_rfl) ⟨[⟨false, [.bool]⟩], [], false, [⟨false, [.int .i64]⟩], [], []⟩ (by kernel_rfl) (by kernel_rfl) (fun k => (spec_l1Bit.s k).pf) spec_l1Bit.E (fun k => EntsOK.nil) (fun k => spec_l1Bit.L) (fun k => trivial) trivial (fun k => trivial) spec_l1Bit.eq
end
end Go.Proofs.YtkfehogikjcgkaaGreat.V
namespace Go.Proofs.YtkfehogikjcgkaaGreat.V
open Go
set_option linter.unusedVariables false
noncomputable section
/-! ### spec.l1Shift: function 141 -/
abbrev spec_l1Shift.R := (((Int × Unit) × Unit) × Unit)
def spec_l1Shift.f (k : Nat) (a0 : Int) (a1 : Int) (a2 : Int) (a3 : Int) : Option spec_l1Shift.R := bif decide (a0 = 13) then (bif decide (a1 ≤ a3) then (Option.bind (spec_l1Sign.f k a1 a2) fun r1 => bif decide (0 ≤ IntKind.wrap .u64 (IntKind.wrap .i64 (a1 - 1))) then (some (((V.shr .i64 r1.1.1.1 (IntKind.wrap .u64 (IntKind.wrap .i64 (a1 - 1))), ()), ()), ())) else none) else (bif decide (a1 ≤ a3) then (some (((0, ()), ()), ())) else (bif decide (a0 = 11) then (bif decide (0 ≤ IntKind.wrap .u64 a3) then (some (((V.shl .i64 a2 (IntKind.wrap .u64 a3), ()), ()), ())) else none) else (bif decide (a0 = 12) then (bif decide (0 ≤ IntKind.wrap .u64 a3) then (some (((V.shr .i64 a2 (IntKind.wrap .u64 a3), ()), ()), ())) else none) else (Option.bind (spec_l1Sign.f k a1 a2) fun r2 => bif decide (0 ≤ IntKind.wrap .u64 a3) then (some (((V.shr .i64 r2.1.1.1 (IntKind.wrap .u64 a3), ()), ()), ())) else none))))) else (bif decide (a1 ≤ a3) then (some (((0, ()), ()), ())) else (bif decide (a0 = 11) then (bif decide (0 ≤ IntKind.wrap .u64 a3) then (some (((V.shl .i64 a2 (IntKind.wrap .u64 a3), ()), ()), ())) else none) else (bif decide (a0 = 12) then (bif decide (0 ≤ IntKind.wrap .u64 a3) then (some (((V.shr .i64 a2 (IntKind.wrap .u64 a3), ()), ()), ())) else none) else (Option.bind (spec_l1Sign.f k a1 a2) fun r3 => bif decide (0 ≤ IntKind.wrap .u64 a3) then (some (((V.shr .i64 r3.1.1.1 (IntKind.wrap .u64 a3), ()), ()), ())) else none))))
def spec_l1Shift.s (k : Nat) : FS := ⟨[⟨false, [.int .i64]⟩, ⟨false, [.int .i64]⟩, ⟨false, [.int .i64]⟩, ⟨false, [.int .i64]⟩], [], false, [⟨false, [.int .i64]⟩], [], [], fun x => spec_l1Shift.f k x.1.1.1 x.1.2.1.1 x.1.2.2.1.1 x.1.2.2.2.1.1⟩
def spec_l1Shift.E (k : Nat) : Ents := [(⟨120, []⟩, spec_l1Sign.s k)]
def spec_l1Shift.L : List (LS spec_l1Shift.R) := []
def spec_l1Shift.c : Code := Tryz.f141.body.getD .skip
theorem spec_l1Shift.eq (k : Nat) (x) : (spec_l1Shift.s k).pf x = execF tab (spec_l1Shift.E k) Tryz.f141 spec_l1Shift.c (spec_l1Shift.s k) spec_l1Shift.L x := by kernel_rfl
theorem spec_l1Shift.sound : ∀ k, Sound Tryz.prog 141 (spec_l1Shift.s k) := sound_of mixed tab_ok (f := 141) (fn := Tryz.f141) (c := spec_l1Shift.c) (by kernel_rfl) (by kernel_rfl) (by kernel_rfl) ⟨[⟨false, [.int .i64]⟩, ⟨false, [.int .i64]⟩, ⟨false, [.int .i64]⟩, ⟨false, [.int .i64]⟩], [], false, [⟨false, [.int .i64]⟩], [], []⟩ (by kernel_rfl) (by kernel_rfl) (fun k => (spec_l1Shift.s k).pf) spec_l1Shift.E (fun k => (EntsOK.cons (spec_l1Sign.sound k) EntsOK.nil)) (fun k => spec_l1Shift.L) (fun k => trivial) trivial (fun k => trivial) spec_l1Shift.eq
end
end Go.Proofs.YtkfehogikjcgkaaGreat.V
namespace Go.Proofs.YtkfehogikjcgkaaGreat.V
open Go
set_option linter.unusedVariables false
noncomputable section
/-! ### spec.l1Two: function 118 -/
abbrev spec_l1Two.R := (((Int × Unit) × Unit) × Unit)
def spec_l1Two.f (k : Nat) (a0 : Int) (a1 : Int) (a2 : Int) (a3 : Int) : Option spec_l1Two.R := bif decide (a0 = 1) then (some (((IntKind.wrap .i64 (a2 + a3), ()), ()), ())) else (bif decide (a0 = 2) then (some (((IntKind.wrap .i64 (a2 - a3), ()), ()), ())) else (bif decide (a0 = 3) then (Option.bind (spec_l1Sign.f k a1 a2) fun r1 => Option.bind (spec_l1Sign.f k a1 a3) fun r2 => some (((IntKind.wrap .i64 (r1.1.1.1 * r2.1.1.1), ()), ()), ())) else (bif decide (a0 = 4) then (bif !decide (a3 = 0) then (some (((IntKind.wrap .i64 (Int.tdiv a2 a3), ()), ()), ())) else none) else (bif decide (a0 = 5) then (Option.bind (spec_l1Sign.f k a1 a2) fun r3 => Option.bind (spec_l1Sign.f k a1 a3) fun r4 => bif !decide (r4.1.1.1 = 0) then (some (((IntKind.wrap .i64 (Int.tdiv r3.1.1.1 r4.1.1.1), ()), ()), ())) else none) else (bif decide (a0 = 6) then (bif !decide (a3 = 0) then (some (((Int.tmod a2 a3, ()), ()), ())) else none) else (bif decide (a0 = 7) then (Option.bind (spec_l1Sign.f k a1 a2) fun r5 => Option.bind (spec_l1Sign.f k a1 a3) fun r6 => bif !decide (r6.1.1.1 = 0) then (some (((Int.tmod r5.1.1.1 r6.1.1.1, ()), ()), ())) else none) else (bif decide (a0 = 8) then (some (((band .i64 a2 a3, ()), ()), ())) else (bif decide (a0 = 9) then (some (((bor .i64 a2 a3, ()), ()), ())) else (bif decide (a0 = 10) then (some (((bxor .i64 a2 a3, ()), ()), ())) else (bif decide (a0 = 14) then (Option.bind (spec_l1Bit.f k (decide (a2 = a3))) fun r7 => some (((r7.1.1.1, ()), ()), ())) else (bif decide (a0 = 15) then (Option.bind (spec_l1Bit.f k (!decide (a2 = a3))) fun r8 => some (((r8.1.1.1, ()), ()), ())) else (bif decide (a0 = 16) then (Option.bind (spec_l1Bit.f k (decide (a2 < a3))) fun r9 => some (((r9.1.1.1, ()), ()), ())) else (bif decide (a0 = 17) then (Option.bind (spec_l1Sign.f k a1 a2) fun r10 => Option.bind (spec_l1Sign.f k a1 a3) fun r11 => Option.bind (spec_l1Bit.f k (decide (r10.1.1.1 < r11.1.1.1))) fun r12 => some (((r12.1.1.1, ()), ()), ())) else (Option.bind (spec_l1Shift.f k a0 a1 a2 a3) fun r13 => some (((r13.1.1.1, ()), ()), ())))))))))))))))
def spec_l1Two.s (k : Nat) : FS := ⟨[⟨false, [.int .i64]⟩, ⟨false, [.int .i64]⟩, ⟨false, [.int .i64]⟩, ⟨false, [.int .i64]⟩], [], false, [⟨false, [.int .i64]⟩], [], [], fun x => spec_l1Two.f k x.1.1.1 x.1.2.1.1 x.1.2.2.1.1 x.1.2.2.2.1.1⟩
def spec_l1Two.E (k : Nat) : Ents := [(⟨120, []⟩, spec_l1Sign.s k), (⟨140, []⟩, spec_l1Bit.s k), (⟨141, []⟩, spec_l1Shift.s k)]
def spec_l1Two.L : List (LS spec_l1Two.R) := []
def spec_l1Two.c : Code := Tryz.f118.body.getD .skip
theorem spec_l1Two.eq (k : Nat) (x) : (spec_l1Two.s k).pf x = execF tab (spec_l1Two.E k) Tryz.f118 spec_l1Two.c (spec_l1Two.s k) spec_l1Two.L x := by kernel_rfl
theorem spec_l1Two.sound : ∀ k, Sound Tryz.prog 118 (spec_l1Two.s k) := sound_of mixed tab_ok (f := 118) (fn := Tryz.f118) (c := spec_l1Two.c) (by kernel_rfl) (by kernel_rfl) (by kernel_rfl) ⟨[⟨false, [.int .i64]⟩, ⟨false, [.int .i64]⟩, ⟨false, [.int .i64]⟩, ⟨false, [.int .i64]⟩], [], false, [⟨false, [.int .i64]⟩], [], []⟩ (by kernel_rfl) (by kernel_rfl) (fun k => (spec_l1Two.s k).pf) spec_l1Two.E (fun k => (EntsOK.cons (spec_l1Sign.sound k) (EntsOK.cons (spec_l1Bit.sound k) (EntsOK.cons (spec_l1Shift.sound k) EntsOK.nil)))) (fun k => spec_l1Two.L) (fun k => trivial) trivial (fun k => trivial) spec_l1Two.eq
end
end Go.Proofs.YtkfehogikjcgkaaGreat.V
namespace Go.Proofs.YtkfehogikjcgkaaGreat.V
open Go
set_option linter.unusedVariables false
noncomputable section
/-! ### spec.Masked: function 117 -/
abbrev spec_Masked.R := (((Int × Unit) × Unit) × Unit)
def spec_Masked.f (k : Nat) (a0 : Int) (a1 : Int) : Option spec_Masked.R := Option.bind (spec_WidthOk.f k a0) fun r1 => bif !r1.1.1.1 then (some (((0, ()), ()), ())) else (Option.bind (spec_l1Top.f k a0) fun r2 => some (((band .i64 a1 (IntKind.wrap .i64 (r2.1.1.1 - 1)), ()), ()), ()))
def spec_Masked.s (k : Nat) : FS := ⟨[⟨false, [.int .i64]⟩, ⟨false, [.int .i64]⟩], [], false, [⟨false, [.int .i64]⟩], [], [], fun x => spec_Masked.f k x.1.1.1 x.1.2.1.1⟩
def spec_Masked.E (k : Nat) : Ents := [(⟨50, []⟩, spec_WidthOk.s k), (⟨114, []⟩, spec_l1Top.s k)]
def spec_Masked.L : List (LS spec_Masked.R) := []
def spec_Masked.c : Code := Tryz.f117.body.getD .skip
theorem spec_Masked.eq (k : Nat) (x) : (spec_Masked.s k).pf x = execF tab (spec_Masked.E k) Tryz.f117 spec_Masked.c (spec_Masked.s k) spec_Masked.L x := by kernel_rfl
theorem spec_Masked.sound : ∀ k, Sound Tryz.prog 117 (spec_Masked.s k) := sound_of mixed tab_ok (f := 117) (fn := Tryz.f117) (c := spec_Masked.c) (by kernel_rfl) (by kernel_rfl) (by kernel_rfl) ⟨[⟨false, [.int .i64]⟩, ⟨false, [.int .i64]⟩], [], false, [⟨false, [.int .i64]⟩], [], []⟩ (by kernel_rfl) (by kernel_rfl) (fun k => (spec_Masked.s k).pf) spec_Masked.E (fun k => (EntsOK.cons (spec_WidthOk.sound k) (EntsOK.cons (spec_l1Top.sound k) EntsOK.nil))) (fun k => spec_Masked.L) (fun k => trivial) trivial (fun k => trivial) spec_Masked.eq
end
end Go.Proofs.YtkfehogikjcgkaaGreat.V
namespace Go.Proofs.YtkfehogikjcgkaaGreat.V
open Go
set_option linter.unusedVariables false
noncomputable section
/-! ### spec.Binary: function 73 -/
abbrev spec_Binary.R := (((Int × Unit) × (Int × Unit) × Unit) × Unit)
def spec_Binary.f (k : Nat) (a0 : Int) (a1 : Int) (a2 : Int) (a3 : Int) : Option spec_Binary.R := Option.bind (spec_l1In.f k a0 1 17) fun r1 => bif !r1.1.1.1 then (some (((0, ()), (2, ()), ()), ())) else (Option.bind (spec_l1Value.f k a1 a2) fun r2 => bif !r2.1.1.1 then (some (((0, ()), (2, ()), ()), ())) else (Option.bind (spec_l1Value.f k a1 a3) fun r3 => bif !r3.1.1.1 then (some (((0, ()), (2, ()), ()), ())) else (Option.bind (spec_l1Divides.f k a0) fun r4 => bif r4.1.1.1 then (bif decide (a3 = 0) then (some (((0, ()), (1, ()), ()), ())) else (Option.bind (spec_l1Two.f k a0 a1 a2 a3) fun r5 => Option.bind (spec_Masked.f k a1 r5.1.1.1) fun r6 => some (((r6.1.1.1, ()), (0, ()), ()), ()))) else (Option.bind (spec_l1Two.f k a0 a1 a2 a3) fun r7 => Option.bind (spec_Masked.f k a1 r7.1.1.1) fun r8 => some (((r8.1.1.1, ()), (0, ()), ()), ())))))
def spec_Binary.s (k : Nat) : FS := ⟨[⟨false, [.int .i64]⟩, ⟨false, [.int .i64]⟩, ⟨false, [.int .i64]⟩, ⟨false, [.int .i64]⟩], [], true, [⟨false, [.int .i64]⟩, ⟨false, [.int .i64]⟩], [], [], fun x => spec_Binary.f k x.1.1.1 x.1.2.1.1 x.1.2.2.1.1 x.1.2.2.2.1.1⟩
def spec_Binary.E (k : Nat) : Ents := [(⟨25, []⟩, spec_l1In.s k), (⟨71, []⟩, spec_l1Value.s k), (⟨116, []⟩, spec_l1Divides.s k), (⟨118, []⟩, spec_l1Two.s k), (⟨117, []⟩, spec_Masked.s k)]
def spec_Binary.L : List (LS spec_Binary.R) := []
def spec_Binary.c : Code := Tryz.f73.body.getD .skip
theorem spec_Binary.eq (k : Nat) (x) : (spec_Binary.s k).pf x = execF tab (spec_Binary.E k) Tryz.f73 spec_Binary.c (spec_Binary.s k) spec_Binary.L x := by kernel_rfl
theorem spec_Binary.sound : ∀ k, Sound Tryz.prog 73 (spec_Binary.s k) := sound_of mixed tab_ok (f := 73) (fn := Tryz.f73) (c := spec_Binary.c) (by kernel_rfl) (by kernel_rfl) (by kernel_rfl) ⟨[⟨false, [.int .i64]⟩, ⟨false, [.int .i64]⟩, ⟨false, [.int .i64]⟩, ⟨false, [.int .i64]⟩], [], true, [⟨false, [.int .i64]⟩, ⟨false, [.int .i64]⟩], [], []⟩ (by kernel_rfl) (by kernel_rfl) (fun k => (spec_Binary.s k).pf) spec_Binary.E (fun k => (EntsOK.cons (spec_l1In.sound k) (EntsOK.cons (spec_l1Value.sound k) (EntsOK.cons (spec_l1Divides.sound k) (EntsOK.cons (spec_l1Two.sound k) (EntsOK.cons (spec_Masked.sound k) EntsOK.nil)))))) (fun k => spec_Binary.L) (fun k => trivial) trivial (fun k => trivial) spec_Binary.eq
end
end Go.Proofs.YtkfehogikjcgkaaGreat.V
namespace Go.Proofs.YtkfehogikjcgkaaGreat.V
open Go
set_option linter.unusedVariables false
noncomputable section
/-! ### spec.ResultWidth: function 119 -/
abbrev spec_ResultWidth.R := (((Int × Unit) × Unit) × Unit)
def spec_ResultWidth.f (k : Nat) (a0 : Int) (a1 : Int) : Option spec_ResultWidth.R := Option.bind (spec_WidthOk.f k a1) fun r1 => bif !r1.1.1.1 then (some (((0, ()), ()), ())) else (Option.bind (spec_l1In.f k a0 1 17) fun r2 => bif !r2.1.1.1 then (some (((0, ()), ()), ())) else (bif decide (14 ≤ a0) then (some (((1, ()), ()), ())) else (some (((a1, ()), ()), ()))))
def spec_ResultWidth.s (k : Nat) : FS := ⟨[⟨false, [.int .i64]⟩, ⟨false, [.int .i64]⟩], [], false, [⟨false, [.int .i64]⟩], [], [], fun x => spec_ResultWidth.f k x.1.1.1 x.1.2.1.1⟩
def spec_ResultWidth.E (k : Nat) : Ents := [(⟨50, []⟩, spec_WidthOk.s k), (⟨25, []⟩, spec_l1In.s k)]
def spec_ResultWidth.L : List (LS spec_ResultWidth.R) := []
def spec_ResultWidth.c : Code := Tryz.f119.body.getD .skip
theorem spec_ResultWidth.eq (k : Nat) (x) : (spec_ResultWidth.s k).pf x = execF tab (spec_ResultWidth.E k) Tryz.f119 spec_ResultWidth.c (spec_ResultWidth.s k) spec_ResultWidth.L x := by kernel_rfl
theorem spec_ResultWidth.sound : ∀ k, Sound Tryz.prog 119 (spec_ResultWidth.s k) := sound_of mixed tab_ok (f := 119) (fn := Tryz.f119) (c := spec_ResultWidth.c) (by kernel_rfl) (by kernel_rfl) (by kernel_rfl) ⟨[⟨false, [.int .i64]⟩, ⟨false, [.int .i64]⟩], [], false, [⟨false, [.int .i64]⟩], [], []⟩ (by kernel_rfl) (by kernel_rfl) (fun k => (spec_ResultWidth.s k).pf) spec_ResultWidth.E (fun k => (EntsOK.cons (spec_WidthOk.sound k) (EntsOK.cons (spec_l1In.sound k) EntsOK.nil))) (fun k => spec_ResultWidth.L) (fun k => trivial) trivial (fun k => trivial) spec_ResultWidth.eq
end
end Go.Proofs.YtkfehogikjcgkaaGreat.V
namespace Go.Proofs.YtkfehogikjcgkaaGreat.V
open Go
set_option linter.unusedVariables false
noncomputable section
/-! ### spec.l2Width: function 75 -/
abbrev spec_l2Width.R := (((Int × Unit) × Unit) × Unit)
def spec_l2Width.f (k : Nat) (a0 : tInstD) : Option spec_l2Width.R := Option.bind (spec_l1In.f k a0.1 1 17) fun r1 => bif r1.1.1.1 then (Option.bind (spec_ResultWidth.f k a0.1 a0.2.1) fun r2 => some (((r2.1.1.1, ()), ()), ())) else (some (((a0.2.1, ()), ()), ()))
def spec_l2Width.s (k : Nat) : FS := ⟨[⟨true, [.int .i64, .int .i64, .int .i64, .int .i64, .int .i64, .int .i64, .lst (.int .i64)]⟩], [], false, [⟨false, [.int .i64]⟩], [], [], fun x => spec_l2Width.f k x.1.1⟩
def spec_l2Width.E (k : Nat) : Ents := [(⟨25, []⟩, spec_l1In.s k), (⟨119, []⟩, spec_ResultWidth.s k)]
def spec_l2Width.L : List (LS spec_l2Width.R) := []
def spec_l2Width.c : Code := Tryz.f75.body.getD .skip
theorem spec_l2Width.eq (k : Nat) (x) : (spec_l2Width.s k).pf x = execF tab (spec_l2Width.E k) Tryz.f75 spec_l2Width.c (spec_l2Width.s k) spec_l2Width.L x := by kernel_rfl
theorem spec_l2Width.sound : ∀ k, Sound Tryz.prog 75 (spec_l2Width.s k) := sound_of mixed tab_ok (f := 75) (fn := Tryz.f75) (c := spec_l2Width.c) (by kernel_rfl) (by kernel_rfl) (by kernel_rfl) ⟨[⟨true, [.int .i64, .int .i64, .int .i64, .int .i64, .int .i64, .int .i64, .lst (.int .i64)]⟩], [], false, [⟨false, [.int .i64]⟩], [], []⟩ (by kernel_rfl) (by kernel_rfl) (fun k => (spec_l2Width.s k).pf) spec_l2Width.E (fun k => (EntsOK.cons (spec_l1In.sound k) (EntsOK.cons (spec_ResultWidth.sound k) EntsOK.nil))) (fun k => spec_l2Width.L) (fun k => trivial) trivial (fun k => trivial) spec_l2Width.eq
end
end Go.Proofs.YtkfehogikjcgkaaGreat.V
namespace Go.Proofs.YtkfehogikjcgkaaGreat.V
open Go
set_option linter.unusedVariables false
noncomputable section
/-! ### spec.l9Const: function 74 -/
abbrev spec_l9Const.R := (((Int × Int × Int × Int × Int × Int × Unit × Unit) × Unit) × ((List Int) × Unit))
def spec_l9Const.f (k : Nat) (a0 : Int) (a1 : Int) : Option spec_l9Const.R := some (((21, a0, 0, 0, 0, a1, (), ()), ()), (([] : List Int), ()))
def spec_l9Const.s (k : Nat) : FS := ⟨[⟨false, [.int .i64]⟩, ⟨false, [.int .i64]⟩], [], false, [⟨true, [.int .i64, .int .i64, .int .i64, .int .i64, .int .i64, .int .i64, .own 100]⟩], [(100, .row true (.int .i64))], [], fun x => spec_l9Const.f k x.1.1.1 x.1.2.1.1⟩
def spec_l9Const.E (k : Nat) : Ents := []
def spec_l9Const.L : List (LS spec_l9Const.R) := []
def spec_l9Const.c : Code := Tryz.f74.body.getD .skip
theorem spec_l9Const.eq (k : Nat) (x) : (spec_l9Const.s k).pf x = execF tab (spec_l9Const.E k) Tryz.f74 spec_l9Const.c (spec_l9Const.s k) spec_l9Const.L x := by kernel_rfl
theorem spec_l9Const.sound : ∀ k, Sound Tryz.prog 74 (spec_l9Const.s k) := sound_of mixed tab_ok (f := 74) (fn := Tryz.f74) (c := spec_l9Const.c) (by kernel_rfl) (by kernel_rfl) (by kernel_rfl) ⟨[⟨false, [.int .i64]⟩, ⟨false, [.int .i64]⟩], [], false, [⟨true, [.int .i64, .int .i64, .int .i64, .int .i64, .int .i64, .int .i64, .own 100]⟩], [(100, .row true (.int .i64))], []⟩ (by kernel_rfl) (by kernel_rfl) (fun k => (spec_l9Const.s k).pf) spec_l9Const.E (fun k => EntsOK.nil) (fun k => spec_l9Const.L) (fun k => trivial) trivial (fun k => trivial) spec_l9Const.eq
end
end Go.Proofs.YtkfehogikjcgkaaGreat.V
namespace Go.Proofs.YtkfehogikjcgkaaGreat.V
open Go
set_option linter.unusedVariables false
noncomputable section
/-! ### spec.l2CopyInst: function 76 -/
abbrev spec_l2CopyInst.R := (((Int × Int × Int × Int × Int × Int × Unit × Unit) × Unit) × ((List Int) × Unit))
def spec_l2CopyInst.f (k : Nat) (a0 : tInstD) : Option spec_l2CopyInst.R := Option.bind (spec_l1Copy.f k a0.2.2.2.2.2.2.1) fun r1 => some (((a0.1, a0.2.1, a0.2.2.1, a0.2.2.2.1, a0.2.2.2.2.1, a0.2.2.2.2.2.1, (), ()), ()), (r1.2.1, ()))
def spec_l2CopyInst.s (k : Nat) : FS := ⟨[⟨true, [.int .i64, .int .i64, .int .i64, .int .i64, .int .i64, .int .i64, .lst (.int .i64)]⟩], [], false, [⟨true, [.int .i64, .int .i64, .int .i64, .int .i64, .int .i64, .int .i64, .own 100]⟩], [(100, .row true (.int .i64))], [], fun x => spec_l2CopyInst.f k x.1.1⟩
def spec_l2CopyInst.E (k : Nat) : Ents := [(⟨95, []⟩, spec_l1Copy.s k)]
def spec_l2CopyInst.L : List (LS spec_l2CopyInst.R) := []
def spec_l2CopyInst.c : Code := Tryz.f76.body.getD .skip
theorem spec_l2CopyInst.eq (k : Nat) (x) : (spec_l2CopyInst.s k).pf x = execF tab (spec_l2CopyInst.E k) Tryz.f76 spec_l2CopyInst.c (spec_l2CopyInst.s k) spec_l2CopyInst.L x := by kernel_rfl
theorem spec_l2CopyInst.sound : ∀ k, Sound Tryz.prog 76 (spec_l2CopyInst.s k) := sound_of mixed tab_ok (f := 76) (fn := Tryz.f76) (c := spec_l2CopyInst.c) (by kernel_rfl) (by kernel_rfl) (by kernel_rfl) ⟨[⟨true, [.int .i64, .int .i64, .int .i64, .int .i64, .int .i64, .int .i64, .lst (.int .i64)]⟩], [], false, [⟨true, [.int .i64, .int .i64, .int .i64, .int .i64, .int .i64, .int .i64, .own 100]⟩], [(100, .row true (.int .i64))], []⟩ (by kernel_rfl) (by kernel_rfl) (fun k => (spec_l2CopyInst.s k).pf) spec_l2CopyInst.E (fun k => (EntsOK.cons (spec_l1Copy.sound k) EntsOK.nil)) (fun k => spec_l2CopyInst.L) (fun k => trivial) trivial (fun k => trivial) spec_l2CopyInst.eq
end
end Go.Proofs.YtkfehogikjcgkaaGreat.V
namespace Go.Proofs.YtkfehogikjcgkaaGreat.V
open Go
set_option linter.unusedVariables false
noncomputable section
/-! ### spec.l9Same: function 80 -/
abbrev spec_l9Same.R := (((Int × Int × Int × Int × Int × Int × Unit × Unit) × Unit) × ((List Int) × Unit))
def spec_l9Same.f (k : Nat) (a0 : Int) (a1 : Int) : Option spec_l9Same.R := some (((27, a0, a1, 0, 0, 0, (), ()), ()), (([] : List Int), ()))
def spec_l9Same.s (k : Nat) : FS := ⟨[⟨false, [.int .i64]⟩, ⟨false, [.int .i64]⟩], [], false, [⟨true, [.int .i64, .int .i64, .int .i64, .int .i64, .int .i64, .int .i64, .own 100]⟩], [(100, .row true (.int .i64))], [], fun x => spec_l9Same.f k x.1.1.1 x.1.2.1.1⟩
def spec_l9Same.E (k : Nat) : Ents := []
def spec_l9Same.L : List (LS spec_l9Same.R) := []
def spec_l9Same.c : Code := Tryz.f80.body.getD .skip
theorem spec_l9Same.eq (k : Nat) (x) : (spec_l9Same.s k).pf x = execF tab (spec_l9Same.E k) Tryz.f80 spec_l9Same.c (spec_l9Same.s k) spec_l9Same.L x := by kernel_rfl
theorem spec_l9Same.sound : ∀ k, Sound Tryz.prog 80 (spec_l9Same.s k) := sound_of mixed tab_ok (f := 80) (fn := Tryz.f80) (c := spec_l9Same.c) (by kernel_rfl) (by kernel_rfl) (by kernel_rfl) ⟨[⟨false, [.int .i64]⟩, ⟨false, [.int .i64]⟩], [], false, [⟨true, [.int .i64, .int .i64, .int .i64, .int .i64, .int .i64, .int .i64, .own 100]⟩], [(100, .row true (.int .i64))], []⟩ (by kernel_rfl) (by kernel_rfl) (fun k => (spec_l9Same.s k).pf) spec_l9Same.E (fun k => EntsOK.nil) (fun k => spec_l9Same.L) (fun k => trivial) trivial (fun k => trivial) spec_l9Same.eq
end
end Go.Proofs.YtkfehogikjcgkaaGreat.V
namespace Go.Proofs.YtkfehogikjcgkaaGreat.V
open Go
set_option linter.unusedVariables false
noncomputable section
/-! ### spec.l9Two: function 77 -/
abbrev spec_l9Two.R := (((Int × Int × Int × Int × Int × Int × Unit × Unit) × Unit) × ((List Int) × Unit))
def spec_l9Two.f (k : Nat) (a0 : tInstD) (a1 : Int) (a2 : Bool) (a3 : Int) (a4 : Bool) : Option spec_l9Two.R := Option.bind (spec_l2Width.f k a0) fun r1 => Option.bind (bif a4 then (bif decide (a3 = 0) then (bif decide (a0.1 = 1) then (some true) else (bif decide (a0.1 = 2) then (some true) else (bif decide (a0.1 = 9) then (some true) else (bif decide (a0.1 = 10) then (some true) else (Option.bind (spec_l1In.f k a0.1 11 13) fun r2 => some r2.1.1.1))))) else (some false)) else (some false)) fun r3 => bif r3 then (Option.bind (spec_l9Same.f k r1.1.1.1 a0.2.2.1) fun r4 => some (((r4.1.1.1, r4.1.1.2.1, r4.1.1.2.2.1, r4.1.1.2.2.2.1, r4.1.1.2.2.2.2.1, r4.1.1.2.2.2.2.2.1, (), ()), ()), (r4.2.1, ()))) else (Option.bind (bif a2 then (bif decide (a1 = 0) then (bif decide (a0.1 = 1) then (some true) else (bif decide (a0.1 = 9) then (some true) else (some (decide (a0.1 = 10))))) else (some false)) else (some false)) fun r5 => bif r5 then (Option.bind (spec_l9Same.f k r1.1.1.1 a0.2.2.2.1) fun r6 => some (((r6.1.1.1, r6.1.1.2.1, r6.1.1.2.2.1, r6.1.1.2.2.2.1, r6.1.1.2.2.2.2.1, r6.1.1.2.2.2.2.2.1, (), ()), ()), (r6.2.1, ()))) else (Option.bind (bif a4 then (bif decide (a3 = 1) then (bif decide (a0.1 = 3) then (some true) else (some (decide (a0.1 = 4)))) else (some false)) else (some false)) fun r7 => bif r7 then (Option.bind (spec_l9Same.f k r1.1.1.1 a0.2.2.1) fun r8 => some (((r8.1.1.1, r8.1.1.2.1, r8.1.1.2.2.1, r8.1.1.2.2.2.1, r8.1.1.2.2.2.2.1, r8.1.1.2.2.2.2.2.1, (), ()), ()), (r8.2.1, ()))) else (Option.bind (bif a2 then (bif decide (a1 = 1) then (some (decide (a0.1 = 3))) else (some false)) else (some false)) fun r9 => bif r9 then (Option.bind (spec_l9Same.f k r1.1.1.1 a0.2.2.2.1) fun r10 => some (((r10.1.1.1, r10.1.1.2.1, r10.1.1.2.2.1, r10.1.1.2.2.2.1, r10.1.1.2.2.2.2.1, r10.1.1.2.2.2.2.2.1, (), ()), ()), (r10.2.1, ()))) else (Option.bind (bif decide (a0.1 = 3) then (bif a2 then (bif decide (a1 = 0) then (some true) else (bif a4 then (some (decide (a3 = 0))) else (some false))) else (bif a4 then (some (decide (a3 = 0))) else (some false))) else (bif decide (a0.1 = 8) then (bif a2 then (bif decide (a1 = 0) then (some true) else (bif a4 then (some (decide (a3 = 0))) else (some false))) else (bif a4 then (some (decide (a3 = 0))) else (some false))) else (some false))) fun r11 => bif r11 then (Option.bind (spec_l9Const.f k r1.1.1.1 0) fun r12 => some (((r12.1.1.1, r12.1.1.2.1, r12.1.1.2.2.1, r12.1.1.2.2.2.1, r12.1.1.2.2.2.2.1, r12.1.1.2.2.2.2.2.1, (), ()), ()), (r12.2.1, ()))) else (bif !decide (a0.2.2.1 = a0.2.2.2.1) then (Option.bind (spec_l2CopyInst.f k a0) fun r13 => some (((r13.1.1.1, r13.1.1.2.1, r13.1.1.2.2.1, r13.1.1.2.2.2.1, r13.1.1.2.2.2.2.1, r13.1.1.2.2.2.2.2.1, (), ()), ()), (r13.2.1, ()))) else (Option.bind (bif decide (a0.1 = 2) then (some true) else (bif decide (a0.1 = 10) then (some true) else (bif decide (a0.1 = 15) then (some true) else (bif decide (a0.1 = 16) then (some true) else (some (decide (a0.1 = 17))))))) fun r14 => bif r14 then (Option.bind (spec_l9Const.f k r1.1.1.1 0) fun r15 => some (((r15.1.1.1, r15.1.1.2.1, r15.1.1.2.2.1, r15.1.1.2.2.2.1, r15.1.1.2.2.2.2.1, r15.1.1.2.2.2.2.2.1, (), ()), ()), (r15.2.1, ()))) else (bif decide (a0.1 = 14) then (Option.bind (spec_l9Const.f k r1.1.1.1 1) fun r16 => some (((r16.1.1.1, r16.1.1.2.1, r16.1.1.2.2.1, r16.1.1.2.2.2.1, r16.1.1.2.2.2.2.1, r16.1.1.2.2.2.2.2.1, (), ()), ()), (r16.2.1, ()))) else (Option.bind (bif decide (a0.1 = 8) then (some true) else (some (decide (a0.1 = 9)))) fun r17 => bif r17 then (Option.bind (spec_l9Same.f k r1.1.1.1 a0.2.2.1) fun r18 => some (((r18.1.1.1, r18.1.1.2.1, r18.1.1.2.2.1, r18.1.1.2.2.2.1, r18.1.1.2.2.2.2.1, r18.1.1.2.2.2.2.2.1, (), ()), ()), (r18.2.1, ()))) else (Option.bind (spec_l2CopyInst.f k a0) fun r19 => some (((r19.1.1.1, r19.1.1.2.1, r19.1.1.2.2.1, r19.1.1.2.2.2.1, r19.1.1.2.2.2.2.1, r19.1.1.2.2.2.2.2.1, (), ()), ()), (r19.2.1, ())))))))))))
def spec_l9Two.s (k : Nat) : FS := ⟨[⟨true, [.int .i64, .int .i64, .int .i64, .int .i64, .int .i64, .int .i64, .lst (.int .i64)]⟩, ⟨false, [.int .i64]⟩, ⟨false, [.bool]⟩, ⟨false, [.int .i64]⟩, ⟨false, [.bool]⟩], [], false, [⟨true, [.int .i64, .int .i64, .int .i64, .int .i64, .int .i64, .int .i64, .own 100]⟩], [(100, .row true (.int .i64))], [], fun x => spec_l9Two.f k x.1.1 x.1.2.1.1 x.1.2.2.1.1 x.1.2.2.2.1.1 x.1.2.2.2.2.1.1⟩
def spec_l9Two.E (k : Nat) : Ents := [(⟨75, []⟩, spec_l2Width.s k), (⟨25, []⟩, spec_l1In.s k), (⟨80, []⟩, spec_l9Same.s k), (⟨74, []⟩, spec_l9Const.s k), (⟨76, []⟩, spec_l2CopyInst.s k), (⟨75, [999999]⟩, spec_l2Width.s k)]
def spec_l9Two.L : List (LS spec_l9Two.R) := []
def spec_l9Two.c : Code := Tryz.f77.body.getD .skip
theorem spec_l9Two.eq (k : Nat) (x) : (spec_l9Two.s k).pf x = execF tab (spec_l9Two.E k) Tryz.f77 spec_l9Two.c (spec_l9Two.s k) spec_l9Two.L x := by kernel_rfl
theorem spec_l9Two.sound : ∀ k, Sound Tryz.prog 77 (spec_l9Two.s k) := sound_of mixed tab_ok (f := 77) (fn := Tryz.f77) (c := spec_l9Two.c) (by kernel_rfl) (by kernel_rfl) (by kernel_rfl) ⟨[⟨true, [.int .i64, .int .i64, .int .i64, .int .i64, .int .i64, .int .i64, .lst (.int .i64)]⟩, ⟨false, [.int .i64]⟩, ⟨false, [.bool]⟩, ⟨false, [.int .i64]⟩, ⟨false, [.bool]⟩], [], false, [⟨true, [.int .i64, .int .i64, .int .i64, .int .i64, .int .i64, .int .i64, .own 100]⟩], [(100, .row true (.int .i64))], []⟩ (by kernel_rfl) (by kernel_rfl) (fun k => (spec_l9Two.s k).pf) spec_l9Two.E (fun k => (EntsOK.cons (spec_l2Width.sound k) (EntsOK.cons (spec_l1In.sound k) (EntsOK.cons (spec_l9Same.sound k) (EntsOK.cons (spec_l9Const.sound k) (EntsOK.cons (spec_l2CopyInst.sound k) (EntsOK.cons (spec_l2Width.sound k) EntsOK.nil))))))) (fun k => spec_l9Two.L) (fun k => trivial) trivial (fun k => trivial) spec_l9Two.eq
end
end Go.Proofs.YtkfehogikjcgkaaGreat.V
namespace Go.Proofs.YtkfehogikjcgkaaGreat.V
open Go
set_option linter.unusedVariables false
noncomputable section
/-! ### spec.TypeOf: function 79 -/
abbrev spec_TypeOf.R := (((Int × Unit) × Unit) × Unit)
def spec_TypeOf.f (k : Nat) (a0 : tFuncD) (a1 : Int) : Option spec_TypeOf.R := Option.bind (spec_l2Place.f k a0 a1) fun r1 => bif decide (r1.1.1.1 = -2) then (some (((-1, ()), ()), ())) else (bif decide (r1.1.1.1 = -1) then (bif (decide (0 ≤ r1.1.2.1.1)) && (decide (r1.1.2.1.1 < ((List.length a0.1 : Nat) : Int))) then (some (((List.getD a0.1 (Int.toNat r1.1.2.1.1) 0, ()), ()), ())) else none) else (bif (decide (0 ≤ r1.1.1.1)) && (decide (r1.1.1.1 < ((List.length a0.2.2.1 : Nat) : Int))) then (bif decide (r1.1.2.1.1 < ((List.length ((List.getD a0.2.2.1 (Int.toNat r1.1.1.1) tBlockZ).1) : Nat) : Int)) then (bif (decide (0 ≤ r1.1.2.1.1)) && (decide (r1.1.2.1.1 < ((List.length ((List.getD a0.2.2.1 (Int.toNat r1.1.1.1) tBlockZ).1) : Nat) : Int))) then (some ((((List.getD ((List.getD a0.2.2.1 (Int.toNat r1.1.1.1) tBlockZ).1) (Int.toNat r1.1.2.1.1) tPhiZ).1, ()), ()), ())) else none) else (bif (decide (0 ≤ IntKind.wrap .i64 (r1.1.2.1.1 - ((List.length ((List.getD a0.2.2.1 (Int.toNat r1.1.1.1) tBlockZ).1) : Nat) : Int)))) && (decide (IntKind.wrap .i64 (r1.1.2.1.1 - ((List.length ((List.getD a0.2.2.1 (Int.toNat r1.1.1.1) tBlockZ).1) : Nat) : Int)) < ((List.length ((List.getD a0.2.2.1 (Int.toNat r1.1.1.1) tBlockZ).2.1) : Nat) : Int))) then (Option.bind (spec_l2Width.f k (List.getD ((List.getD a0.2.2.1 (Int.toNat r1.1.1.1) tBlockZ).2.1) (Int.toNat (IntKind.wrap .i64 (r1.1.2.1.1 - ((List.length ((List.getD a0.2.2.1 (Int.toNat r1.1.1.1) tBlockZ).1) : Nat) : Int)))) tInstZ)) fun r2 => some (((r2.1.1.1, ()), ()), ())) else none)) else none))
def spec_TypeOf.s (k : Nat) : FS := ⟨[⟨true, [.lst (.int .i64), .int .i64, .lst tBlock]⟩, ⟨false, [.int .i64]⟩], [], false, [⟨false, [.int .i64]⟩], [], [], fun x => spec_TypeOf.f k x.1.1 x.1.2.1.1⟩
def spec_TypeOf.E (k : Nat) : Ents := [(⟨121, []⟩, spec_l2Place.s k), (⟨75, []⟩, spec_l2Width.s k)]
def spec_TypeOf.L : List (LS spec_TypeOf.R) := []
def spec_TypeOf.c : Code := Tryz.f79.body.getD .skip
theorem spec_TypeOf.eq (k : Nat) (x) : (spec_TypeOf.s k).pf x = execF tab (spec_TypeOf.E k) Tryz.f79 spec_TypeOf.c (spec_TypeOf.s k) spec_TypeOf.L x := by kernel_rfl
theorem spec_TypeOf.sound : ∀ k, Sound Tryz.prog 79 (spec_TypeOf.s k) := sound_of mixed tab_ok (f := 79) (fn := Tryz.f79) (c := spec_TypeOf.c) (by kernel_rfl) (by kernel_rfl) (by kernel_rfl) ⟨[⟨true, [.lst (.int .i64), .int .i64, .lst tBlock]⟩, ⟨false, [.int .i64]⟩], [], false, [⟨false, [.int .i64]⟩], [], []⟩ (by kernel_rfl) (by kernel_rfl) (fun k => (spec_TypeOf.s k).pf) spec_TypeOf.E (fun k => (EntsOK.cons (spec_l2Place.sound k) (EntsOK.cons (spec_l2Width.sound k) EntsOK.nil))) (fun k => spec_TypeOf.L) (fun k => trivial) trivial (fun k => trivial) spec_TypeOf.eq
end
end Go.Proofs.YtkfehogikjcgkaaGreat.V
namespace Go.Proofs.YtkfehogikjcgkaaGreat.V
open Go
set_option linter.unusedVariables false
noncomputable section
/-! ### spec.Casted: function 78 -/
abbrev spec_Casted.R := (((Int × Unit) × (Bool × Unit) × Unit) × Unit)
def spec_Casted.f (k : Nat) (a0 : Int) (a1 : Int) (a2 : Int) (a3 : Int) : Option spec_Casted.R := Option.bind (spec_l1Value.f k a1 a3) fun r1 => bif !r1.1.1.1 then (some (((0, ()), (false, ()), ()), ())) else (Option.bind (spec_WidthOk.f k a2) fun r2 => bif !r2.1.1.1 then (some (((0, ()), (false, ()), ()), ())) else (bif decide (a0 = 18) then (bif decide (a1 < a2) then (some (((a3, ()), (true, ()), ()), ())) else (bif decide (a0 = 19) then (bif decide (a1 < a2) then (Option.bind (spec_l1Sign.f k a1 a3) fun r3 => Option.bind (spec_Masked.f k a2 r3.1.1.1) fun r4 => some (((r4.1.1.1, ()), (true, ()), ()), ())) else (bif decide (a0 = 20) then (bif decide (a2 < a1) then (Option.bind (spec_Masked.f k a2 a3) fun r5 => some (((r5.1.1.1, ()), (true, ()), ()), ())) else (some (((0, ()), (false, ()), ()), ()))) else (some (((0, ()), (false, ()), ()), ())))) else (bif decide (a0 = 20) then (bif decide (a2 < a1) then (Option.bind (spec_Masked.f k a2 a3) fun r6 => some (((r6.1.1.1, ()), (true, ()), ()), ())) else (some (((0, ()), (false, ()), ()), ()))) else (some (((0, ()), (false, ()), ()), ()))))) else (bif decide (a0 = 19) then (bif decide (a1 < a2) then (Option.bind (spec_l1Sign.f k a1 a3) fun r7 => Option.bind (spec_Masked.f k a2 r7.1.1.1) fun r8 => some (((r8.1.1.1, ()), (true, ()), ()), ())) else (bif decide (a0 = 20) then (bif decide (a2 < a1) then (Option.bind (spec_Masked.f k a2 a3) fun r9 => some (((r9.1.1.1, ()), (true, ()), ()), ())) else (some (((0, ()), (false, ()), ()), ()))) else (some (((0, ()), (false, ()), ()), ())))) else (bif decide (a0 = 20) then (bif decide (a2 < a1) then (Option.bind (spec_Masked.f k a2 a3) fun r10 => some (((r10.1.1.1, ()), (true, ()), ()), ())) else (some (((0, ()), (false, ()), ()), ()))) else (some (((0, ()), (false, ()), ()), ()))))))
def spec_Casted.s (k : Nat) : FS := ⟨[⟨false, [.int .i64]⟩, ⟨false, [.int .i64]⟩, ⟨false, [.int .i64]⟩, ⟨false, [.int .i64]⟩], [], true, [⟨false, [.int .i64]⟩, ⟨false, [.bool]⟩], [], [], fun x => spec_Casted.f k x.1.1.1 x.1.2.1.1 x.1.2.2.1.1 x.1.2.2.2.1.1⟩
def spec_Casted.E (k : Nat) : Ents := [(⟨71, []⟩, spec_l1Value.s k), (⟨50, []⟩, spec_WidthOk.s k), (⟨120, []⟩, spec_l1Sign.s k), (⟨117, []⟩, spec_Masked.s k)]
def spec_Casted.L : List (LS spec_Casted.R) := []
def spec_Casted.c : Code := Tryz.f78.body.getD .skip
theorem spec_Casted.eq (k : Nat) (x) : (spec_Casted.s k).pf x = execF tab (spec_Casted.E k) Tryz.f78 spec_Casted.c (spec_Casted.s k) spec_Casted.L x := by kernel_rfl
theorem spec_Casted.sound : ∀ k, Sound Tryz.prog 78 (spec_Casted.s k) := sound_of mixed tab_ok (f := 78) (fn := Tryz.f78) (c := spec_Casted.c) (by kernel_rfl) (by kernel_rfl) (by kernel_rfl) ⟨[⟨false, [.int .i64]⟩, ⟨false, [.int .i64]⟩, ⟨false, [.int .i64]⟩, ⟨false, [.int .i64]⟩], [], true, [⟨false, [.int .i64]⟩, ⟨false, [.bool]⟩], [], []⟩ (by kernel_rfl) (by kernel_rfl) (fun k => (spec_Casted.s k).pf) spec_Casted.E (fun k => (EntsOK.cons (spec_l1Value.sound k) (EntsOK.cons (spec_WidthOk.sound k) (EntsOK.cons (spec_l1Sign.sound k) (EntsOK.cons (spec_Masked.sound k) EntsOK.nil))))) (fun k => spec_Casted.L) (fun k => trivial) trivial (fun k => trivial) spec_Casted.eq
end
end Go.Proofs.YtkfehogikjcgkaaGreat.V
namespace Go.Proofs.YtkfehogikjcgkaaGreat.V
open Go
set_option linter.unusedVariables false
noncomputable section
/-! ### spec.l9Fold: function 44 -/
abbrev spec_l9Fold.R := (((Int × Int × Int × Int × Int × Int × Unit × Unit) × Unit) × ((List Int) × Unit))
def spec_l9Fold.f (k : Nat) (a0 : tFuncD) (a1 : tInstD) : Option spec_l9Fold.R := Option.bind (spec_ConstOf.f k a0 a1.2.2.1) fun r1 => Option.bind (spec_l1In.f k a1.1 1 17) fun r2 => bif r2.1.1.1 then (Option.bind (spec_ConstOf.f k a0 a1.2.2.2.1) fun r3 => bif r1.1.2.1.1 then (bif r3.1.2.1.1 then (Option.bind (spec_Binary.f k a1.1 a1.2.1 r1.1.1.1 r3.1.1.1) fun r4 => bif decide (r4.1.2.1.1 = 0) then (Option.bind (spec_l2Width.f k a1) fun r5 => Option.bind (spec_l9Const.f k r5.1.1.1 r4.1.1.1) fun r6 => some (((r6.1.1.1, r6.1.1.2.1, r6.1.1.2.2.1, r6.1.1.2.2.2.1, r6.1.1.2.2.2.2.1, r6.1.1.2.2.2.2.2.1, (), ()), ()), (r6.2.1, ()))) else (Option.bind (spec_l2CopyInst.f k a1) fun r7 => some (((r7.1.1.1, r7.1.1.2.1, r7.1.1.2.2.1, r7.1.1.2.2.2.1, r7.1.1.2.2.2.2.1, r7.1.1.2.2.2.2.2.1, (), ()), ()), (r7.2.1, ())))) else (Option.bind (spec_l9Two.f k a1 r1.1.1.1 r1.1.2.1.1 r3.1.1.1 r3.1.2.1.1) fun r8 => some (((r8.1.1.1, r8.1.1.2.1, r8.1.1.2.2.1, r8.1.1.2.2.2.1, r8.1.1.2.2.2.2.1, r8.1.1.2.2.2.2.2.1, (), ()), ()), (r8.2.1, ())))) else (Option.bind (spec_l9Two.f k a1 r1.1.1.1 r1.1.2.1.1 r3.1.1.1 r3.1.2.1.1) fun r9 => some (((r9.1.1.1, r9.1.1.2.1, r9.1.1.2.2.1, r9.1.1.2.2.2.1, r9.1.1.2.2.2.2.1, r9.1.1.2.2.2.2.2.1, (), ()), ()), (r9.2.1, ())))) else (Option.bind (Option.bind (spec_l1In.f k a1.1 18 20) fun r10 => bif r10.1.1.1 then (some r1.1.2.1.1) else (some false)) fun r11 => bif r11 then (Option.bind (spec_TypeOf.f k a0 a1.2.2.1) fun r12 => Option.bind (spec_Casted.f k a1.1 r12.1.1.1 a1.2.1 r1.1.1.1) fun r13 => bif r13.1.2.1.1 then (Option.bind (spec_l9Const.f k a1.2.1 r13.1.1.1) fun r14 => some (((r14.1.1.1, r14.1.1.2.1, r14.1.1.2.2.1, r14.1.1.2.2.2.1, r14.1.1.2.2.2.2.1, r14.1.1.2.2.2.2.2.1, (), ()), ()), (r14.2.1, ()))) else (Option.bind (spec_l2CopyInst.f k a1) fun r15 => some (((r15.1.1.1, r15.1.1.2.1, r15.1.1.2.2.1, r15.1.1.2.2.2.1, r15.1.1.2.2.2.2.1, r15.1.1.2.2.2.2.2.1, (), ()), ()), (r15.2.1, ())))) else (Option.bind (bif decide (a1.1 = 22) then (bif r1.1.2.1.1 then (some (decide (r1.1.1.1 = 1))) else (some false)) else (some false)) fun r16 => bif r16 then (bif r16 then (Option.bind (spec_l9Same.f k a1.2.1 a1.2.2.2.1) fun r17 => some (((r17.1.1.1, r17.1.1.2.1, r17.1.1.2.2.1, r17.1.1.2.2.2.1, r17.1.1.2.2.2.2.1, r17.1.1.2.2.2.2.2.1, (), ()), ()), (r17.2.1, ()))) else (Option.bind (bif decide (a1.1 = 22) then (some r1.1.2.1.1) else (some false)) fun r18 => bif r18 then (Option.bind (spec_l9Same.f k a1.2.1 a1.2.2.2.2.1) fun r19 => some (((r19.1.1.1, r19.1.1.2.1, r19.1.1.2.2.1, r19.1.1.2.2.2.1, r19.1.1.2.2.2.2.1, r19.1.1.2.2.2.2.2.1, (), ()), ()), (r19.2.1, ()))) else (Option.bind (bif decide (a1.1 = 27) then (bif r1.1.2.1.1 then (Option.bind (spec_l1Value.f k a1.2.1 r1.1.1.1) fun r20 => some r20.1.1.1) else (some false)) else (some false)) fun r21 => bif r21 then (Option.bind (spec_l9Const.f k a1.2.1 r1.1.1.1) fun r22 => some (((r22.1.1.1, r22.1.1.2.1, r22.1.1.2.2.1, r22.1.1.2.2.2.1, r22.1.1.2.2.2.2.1, r22.1.1.2.2.2.2.2.1, (), ()), ()), (r22.2.1, ()))) else (Option.bind (spec_l2CopyInst.f k a1) fun r23 => some (((r23.1.1.1, r23.1.1.2.1, r23.1.1.2.2.1, r23.1.1.2.2.2.1, r23.1.1.2.2.2.2.1, r23.1.1.2.2.2.2.2.1, (), ()), ()), (r23.2.1, ())))))) else (Option.bind (bif decide (a1.1 = 22) then (some (decide (a1.2.2.2.1 = a1.2.2.2.2.1))) else (some false)) fun r24 => bif r24 then (Option.bind (spec_l9Same.f k a1.2.1 a1.2.2.2.1) fun r25 => some (((r25.1.1.1, r25.1.1.2.1, r25.1.1.2.2.1, r25.1.1.2.2.2.1, r25.1.1.2.2.2.2.1, r25.1.1.2.2.2.2.2.1, (), ()), ()), (r25.2.1, ()))) else (Option.bind (bif decide (a1.1 = 22) then (some r1.1.2.1.1) else (some false)) fun r26 => bif r26 then (Option.bind (spec_l9Same.f k a1.2.1 a1.2.2.2.2.1) fun r27 => some (((r27.1.1.1, r27.1.1.2.1, r27.1.1.2.2.1, r27.1.1.2.2.2.1, r27.1.1.2.2.2.2.1, r27.1.1.2.2.2.2.2.1, (), ()), ()), (r27.2.1, ()))) else (Option.bind (bif decide (a1.1 = 27) then (bif r1.1.2.1.1 then (Option.bind (spec_l1Value.f k a1.2.1 r1.1.1.1) fun r28 => some r28.1.1.1) else (some false)) else (some false)) fun r29 => bif r29 then (Option.bind (spec_l9Const.f k a1.2.1 r1.1.1.1) fun r30 => some (((r30.1.1.1, r30.1.1.2.1, r30.1.1.2.2.1, r30.1.1.2.2.2.1, r30.1.1.2.2.2.2.1, r30.1.1.2.2.2.2.2.1, (), ()), ()), (r30.2.1, ()))) else (Option.bind (spec_l2CopyInst.f k a1) fun r31 => some (((r31.1.1.1, r31.1.1.2.1, r31.1.1.2.2.1, r31.1.1.2.2.2.1, r31.1.1.2.2.2.2.1, r31.1.1.2.2.2.2.2.1, (), ()), ()), (r31.2.1, ()))))))))
def spec_l9Fold.s (k : Nat) : FS := ⟨[⟨true, [.lst (.int .i64), .int .i64, .lst tBlock]⟩, ⟨true, [.int .i64, .int .i64, .int .i64, .int .i64, .int .i64, .int .i64, .lst (.int .i64)]⟩], [], false, [⟨true, [.int .i64, .int .i64, .int .i64, .int .i64, .int .i64, .int .i64, .own 100]⟩], [(100, .row true (.int .i64))], [], fun x => spec_l9Fold.f k x.1.1 x.1.2.1⟩
def spec_l9Fold.E (k : Nat) : Ents := [(⟨72, []⟩, spec_ConstOf.s k), (⟨25, []⟩, spec_l1In.s k), (⟨73, []⟩, spec_Binary.s k), (⟨75, []⟩, spec_l2Width.s k), (⟨74, []⟩, spec_l9Const.s k), (⟨76, []⟩, spec_l2CopyInst.s k), (⟨77, []⟩, spec_l9Two.s k), (⟨79, []⟩, spec_TypeOf.s k), (⟨78, []⟩, spec_Casted.s k), (⟨80, []⟩, spec_l9Same.s k), (⟨71, []⟩, spec_l1Value.s k), (⟨72, [999999]⟩, spec_ConstOf.s k)]
def spec_l9Fold.L : List (LS spec_l9Fold.R) := []
def spec_l9Fold.c : Code := Tryz.f44.body.getD .skip
theorem spec_l9Fold.eq (k : Nat) (x) : (spec_l9Fold.s k).pf x = execF tab (spec_l9Fold.E k) Tryz.f44 spec_l9Fold.c (spec_l9Fold.s k) spec_l9Fold.L x := by kernel_rfl
theorem spec_l9Fold.sound : ∀ k, Sound Tryz.prog 44 (spec_l9Fold.s k) := sound_of mixed tab_ok (f := 44) (fn := Tryz.f44) (c := spec_l9Fold.c) (by kernel_rfl) (by kernel_rfl) (by kernel_rfl) ⟨[⟨true, [.lst (.int .i64), .int .i64, .lst tBlock]⟩, ⟨true, [.int .i64, .int .i64, .int .i64, .int .i64, .int .i64, .int .i64, .lst (.int .i64)]⟩], [], false, [⟨true, [.int .i64, .int .i64, .int .i64, .int .i64, .int .i64, .int .i64, .own 100]⟩], [(100, .row true (.int .i64))], []⟩ (by kernel_rfl) (by kernel_rfl) (fun k => (spec_l9Fold.s k).pf) spec_l9Fold.E (fun k => (EntsOK.cons (spec_ConstOf.sound k) (EntsOK.cons (spec_l1In.sound k) (EntsOK.cons (spec_Binary.sound k) (EntsOK.cons (spec_l2Width.sound k) (EntsOK.cons (spec_l9Const.sound k) (EntsOK.cons (spec_l2CopyInst.sound k) (EntsOK.cons (spec_l9Two.sound k) (EntsOK.cons (spec_TypeOf.sound k) (EntsOK.cons (spec_Casted.sound k) (EntsOK.cons (spec_l9Same.sound k) (EntsOK.cons (spec_l1Value.sound k) (EntsOK.cons (spec_ConstOf.sound k) EntsOK.nil))))))))))))) (fun k => spec_l9Fold.L) (fun k => trivial) trivial (fun k => trivial) spec_l9Fold.eq
end
end Go.Proofs.YtkfehogikjcgkaaGreat.V
namespace Go.Proofs.YtkfehogikjcgkaaGreat.V
open Go
set_option linter.unusedVariables false
noncomputable section
/-! ### spec.FoldedInst: function 16 -/
abbrev spec_FoldedInst.R := (((Int × Int × Int × Int × Int × Int × Unit × Unit) × Unit) × ((List Int) × Unit))
def spec_FoldedInst.f (k : Nat) (a0 : tFuncD) (a1 : tInstD) : Option spec_FoldedInst.R := Option.bind (spec_l2Func.f k a0 3) fun r1 => bif !r1.1.1.1 then (some (((0, 0, 0, 0, 0, 0, (), ()), ()), (([] : List Int), ()))) else (Option.bind (spec_CountOf.f k a0) fun r2 => Option.bind (spec_l2Inst.f k a1 r2.1.1.1 3) fun r3 => bif !r3.1.1.1 then (some (((0, 0, 0, 0, 0, 0, (), ()), ()), (([] : List Int), ()))) else (Option.bind (spec_l9Fold.f k a0 a1) fun r4 => some (((r4.1.1.1, r4.1.1.2.1, r4.1.1.2.2.1, r4.1.1.2.2.2.1, r4.1.1.2.2.2.2.1, r4.1.1.2.2.2.2.2.1, (), ()), ()), (r4.2.1, ()))))
def spec_FoldedInst.s (k : Nat) : FS := ⟨[⟨true, [.lst (.int .i64), .int .i64, .lst tBlock]⟩, ⟨true, [.int .i64, .int .i64, .int .i64, .int .i64, .int .i64, .int .i64, .lst (.int .i64)]⟩], [], false, [⟨true, [.int .i64, .int .i64, .int .i64, .int .i64, .int .i64, .int .i64, .own 100]⟩], [(100, .row true (.int .i64))], [], fun x => spec_FoldedInst.f k x.1.1 x.1.2.1⟩
def spec_FoldedInst.E (k : Nat) : Ents := [(⟨24, []⟩, spec_l2Func.s k), (⟨26, []⟩, spec_CountOf.s k), (⟨43, []⟩, spec_l2Inst.s k), (⟨44, []⟩, spec_l9Fold.s k)]
def spec_FoldedInst.L : List (LS spec_FoldedInst.R) := []
def spec_FoldedInst.c : Code := Tryz.f16.body.getD .skip
theorem spec_FoldedInst.eq (k : Nat) (x) : (spec_FoldedInst.s k).pf x = execF tab (spec_FoldedInst.E k) Tryz.f16 spec_FoldedInst.c (spec_FoldedInst.s k) spec_FoldedInst.L x := by kernel_rfl
theorem spec_FoldedInst.sound : ∀ k, Sound Tryz.prog 16 (spec_FoldedInst.s k) := sound_of mixed tab_ok (f := 16) (fn := Tryz.f16) (c := spec_FoldedInst.c) (by kernel_rfl) (by kernel_rfl) (by kernel_rfl) ⟨[⟨true, [.lst (.int .i64), .int .i64, .lst tBlock]⟩, ⟨true, [.int .i64, .int .i64, .int .i64, .int .i64, .int .i64, .int .i64, .lst (.int .i64)]⟩], [], false, [⟨true, [.int .i64, .int .i64, .int .i64, .int .i64, .int .i64, .int .i64, .own 100]⟩], [(100, .row true (.int .i64))], []⟩ (by kernel_rfl) (by kernel_rfl) (fun k => (spec_FoldedInst.s k).pf) spec_FoldedInst.E (fun k => (EntsOK.cons (spec_l2Func.sound k) (EntsOK.cons (spec_CountOf.sound k) (EntsOK.cons (spec_l2Inst.sound k) (EntsOK.cons (spec_l9Fold.sound k) EntsOK.nil))))) (fun k => spec_FoldedInst.L) (fun k => trivial) trivial (fun k => trivial) spec_FoldedInst.eq
end
end Go.Proofs.YtkfehogikjcgkaaGreat.V
namespace Go.Proofs.YtkfehogikjcgkaaGreat.V
open Go
set_option linter.unusedVariables false
noncomputable section
/-! ### impl.CountOf: function 46 -/
abbrev impl_CountOf.R := (((Int × Unit) × Unit) × Unit)
def impl_CountOf.l0_ (k : Nat) (l0 : Int → (List tBlockD) → Int → Int → Option impl_CountOf.R) (a0 : Int) (a1 : List tBlockD) (a2 : Int) (a3 : Int) : Option impl_CountOf.R := bif decide (a3 < a2) then (bif (decide (0 ≤ a3)) && (decide (a3 < ((List.length a1 : Nat) : Int))) then (l0 (IntKind.wrap .i64 (a0 + (IntKind.wrap .i64 (((List.length ((List.getD a1 (Int.toNat a3) tBlockZ).1) : Nat) : Int) + ((List.length ((List.getD a1 (Int.toNat a3) tBlockZ).2.1) : Nat) : Int))))) a1 a2 (IntKind.wrap .i64 (a3 + 1))) else none) else (some (((a0, ()), ()), ()))
def impl_CountOf.all : Nat → (Int → (List tBlockD) → Int → Int → Option impl_CountOf.R) × Unit
  | 0 => (fun _ _ _ _ => none, ())
  | k + 1 => (impl_CountOf.l0_ k (impl_CountOf.all k).1, ())
def impl_CountOf.l0 (k : Nat) : Int → (List tBlockD) → Int → Int → Option impl_CountOf.R := (impl_CountOf.all k).1
def impl_CountOf.f (k : Nat) (a0 : tFuncD) : Option impl_CountOf.R := impl_CountOf.l0 k ((List.length a0.1 : Nat) : Int) a0.2.2.1 ((List.length a0.2.2.1 : Nat) : Int) 0
def impl_CountOf.s (k : Nat) : FS := ⟨[⟨true, [.lst (.int .i64), .int .i64, .lst tBlock]⟩], [], false, [⟨false, [.int .i64]⟩], [], [], fun x => impl_CountOf.f k x.1.1⟩
def impl_CountOf.E (k : Nat) : Ents := []
def impl_CountOf.L0 (l : Int → (List tBlockD) → Int → Int → Option impl_CountOf.R) : LS impl_CountOf.R := ⟨[], [(3, ⟨false, [.int .i64]⟩), (10, ⟨false, [.lst tBlock]⟩), (11, ⟨false, [.int .i64]⟩), (12, ⟨false, [.int .i64]⟩)], [], fun x => l x.1.1.1 x.1.2.1.1 x.1.2.2.1.1 x.1.2.2.2.1.1⟩
def impl_CountOf.L (l0 : Int → (List tBlockD) → Int → Int → Option impl_CountOf.R) : List (LS impl_CountOf.R) := [impl_CountOf.L0 l0]
def impl_CountOf.c : Code := Tryz.f46.body.getD .skip
theorem impl_CountOf.eq (k : Nat) (x) : (impl_CountOf.s k).pf x = execF tab (impl_CountOf.E k) Tryz.f46 impl_CountOf.c (impl_CountOf.s k) (impl_CountOf.L (impl_CountOf.l0 k)) x := by kernel_rfl
theorem impl_CountOf.r0 (l0 : Int → (List tBlockD) → Int → Int → Option impl_CountOf.R) (k : Nat) (x) : impl_CountOf.l0_ k l0 x.1.1.1 x.1.2.1.1 x.1.2.2.1.1 x.1.2.2.2.1.1 = roundOf tab (impl_CountOf.E k) (impl_CountOf.L l0) impl_CountOf.c (fin tab Tryz.f46 (impl_CountOf.s k)) 0 (impl_CountOf.L0 l0) x := by kernel_rfl
theorem impl_CountOf.sound : ∀ k, Sound Tryz.prog 46 (impl_CountOf.s k) := sound_of mixed tab_ok (f := 46) (fn := Tryz.f46) (c := impl_CountOf.c) (by kernel_rfl) (by kernel_rfl) (by kernel_rfl) ⟨[⟨true, [.lst (.int .i64), .int .i64, .lst tBlock]⟩], [], false, [⟨false, [.int .i64]⟩], [], []⟩ (by kernel_rfl) (by kernel_rfl) (fun k => (impl_CountOf.s k).pf) impl_CountOf.E (fun k => EntsOK.nil) (fun k => impl_CountOf.L (impl_CountOf.l0 k)) (fun k => ⟨rfl, trivial⟩) ⟨fun _ => rfl, trivial⟩ (fun k => ⟨⟨(impl_CountOf.L0 (impl_CountOf.l0 (k + 1))).l, rfl, fun x => impl_CountOf.r0 (impl_CountOf.l0 k) k x⟩, trivial⟩) impl_CountOf.eq
end
end Go.Proofs.YtkfehogikjcgkaaGreat.V
namespace Go.Proofs.YtkfehogikjcgkaaGreat.V
open Go
set_option linter.unusedVariables false
noncomputable section
/-! ### impl.within: function 58 -/
abbrev impl_within.R := (((Bool × Unit) × Unit) × Unit)
def impl_within.f (k : Nat) (a0 : Int) (a1 : Int) (a2 : Int) : Option impl_within.R := bif decide (a1 ≤ a0) then (some (((decide (a0 ≤ a2), ()), ()), ())) else (some (((false, ()), ()), ()))
def impl_within.s (k : Nat) : FS := ⟨[⟨false, [.int .i64]⟩, ⟨false, [.int .i64]⟩, ⟨false, [.int .i64]⟩], [], false, [⟨false, [.bool]⟩], [], [], fun x => impl_within.f k x.1.1.1 x.1.2.1.1 x.1.2.2.1.1⟩
def impl_within.E (k : Nat) : Ents := []
def impl_within.L : List (LS impl_within.R) := []
def impl_within.c : Code := Tryz.f58.body.getD .skip
theorem impl_within.eq (k : Nat) (x) : (impl_within.s k).pf x = execF tab (impl_within.E k) Tryz.f58 impl_within.c (impl_within.s k) impl_within.L x := by kernel_rfl
theorem impl_within.sound : ∀ k, Sound Tryz.prog 58 (impl_within.s k) := sound_of mixed tab_ok (f := 58) (fn := Tryz.f58) (c := impl_within.c) (by kernel_rfl) (by kernel_rfl) (by kernel_rfl) ⟨[⟨false, [.int .i64]⟩, ⟨false, [.int .i64]⟩, ⟨false, [.int .i64]⟩], [], false, [⟨false, [.bool]⟩], [], []⟩ (by kernel_rfl) (by kernel_rfl) (fun k => (impl_within.s k).pf) impl_within.E (fun k => EntsOK.nil) (fun k => impl_within.L) (fun k => trivial) trivial (fun k => trivial) impl_within.eq
end
end Go.Proofs.YtkfehogikjcgkaaGreat.V
namespace Go.Proofs.YtkfehogikjcgkaaGreat.V
open Go
set_option linter.unusedVariables false
noncomputable section
/-! ### impl.isBinary: function 61 -/
abbrev impl_isBinary.R := (((Bool × Unit) × Unit) × Unit)
def impl_isBinary.f (k : Nat) (a0 : Int) : Option impl_isBinary.R := Option.bind (impl_within.f k a0 1 17) fun r1 => some (((r1.1.1.1, ()), ()), ())
def impl_isBinary.s (k : Nat) : FS := ⟨[⟨false, [.int .i64]⟩], [], false, [⟨false, [.bool]⟩], [], [], fun x => impl_isBinary.f k x.1.1.1⟩
def impl_isBinary.E (k : Nat) : Ents := [(⟨58, []⟩, impl_within.s k)]
def impl_isBinary.L : List (LS impl_isBinary.R) := []
def impl_isBinary.c : Code := Tryz.f61.body.getD .skip
theorem impl_isBinary.eq (k : Nat) (x) : (impl_isBinary.s k).pf x = execF tab (impl_isBinary.E k) Tryz.f61 impl_isBinary.c (impl_isBinary.s k) impl_isBinary.L x := by kernel_rfl
theorem impl_isBinary.sound : ∀ k, Sound Tryz.prog 61 (impl_isBinary.s k) := sound_of mixed tab_ok (f := 61) (fn := Tryz.f61) (c := impl_isBinary.c) (by kernel_rfl) (by kernel_rfl) (by kernel_rfl) ⟨[⟨false, [.int .i64]⟩], [], false, [⟨false, [.bool]⟩], [], []⟩ (by kernel_rfl) (by kernel_rfl) (fun k => (impl_isBinary.s k).pf) impl_isBinary.E (fun k => (EntsOK.cons (impl_within.sound k) EntsOK.nil)) (fun k => impl_isBinary.L) (fun k => trivial) trivial (fun k => trivial) impl_isBinary.eq
end
end Go.Proofs.YtkfehogikjcgkaaGreat.V
namespace Go.Proofs.YtkfehogikjcgkaaGreat.V
open Go
set_option linter.unusedVariables false
noncomputable section
/-! ### impl.isCast: function 62 -/
abbrev impl_isCast.R := (((Bool × Unit) × Unit) × Unit)
def impl_isCast.f (k : Nat) (a0 : Int) : Option impl_isCast.R := Option.bind (impl_within.f k a0 18 20) fun r1 => some (((r1.1.1.1, ()), ()), ())
def impl_isCast.s (k : Nat) : FS := ⟨[⟨false, [.int .i64]⟩], [], false, [⟨false, [.bool]⟩], [], [], fun x => impl_isCast.f k x.1.1.1⟩
def impl_isCast.E (k : Nat) : Ents := [(⟨58, []⟩, impl_within.s k)]
def impl_isCast.L : List (LS impl_isCast.R) := []
def impl_isCast.c : Code := Tryz.f62.body.getD .skip
theorem impl_isCast.eq (k : Nat) (x) : (impl_isCast.s k).pf x = execF tab (impl_isCast.E k) Tryz.f62 impl_isCast.c (impl_isCast.s k) impl_isCast.L x := by kernel_rfl
theorem impl_isCast.sound : ∀ k, Sound Tryz.prog 62 (impl_isCast.s k) := sound_of mixed tab_ok (f := 62) (fn := Tryz.f62) (c := impl_isCast.c) (by kernel_rfl) (by kernel_rfl) (by kernel_rfl) ⟨[⟨false, [.int .i64]⟩], [], false, [⟨false, [.bool]⟩], [], []⟩ (by kernel_rfl) (by kernel_rfl) (fun k => (impl_isCast.s k).pf) impl_isCast.E (fun k => (EntsOK.cons (impl_within.sound k) EntsOK.nil)) (fun k => impl_isCast.L) (fun k => trivial) trivial (fun k => trivial) impl_isCast.eq
end
end Go.Proofs.YtkfehogikjcgkaaGreat.V
namespace Go.Proofs.YtkfehogikjcgkaaGreat.V
open Go
set_option linter.unusedVariables false
noncomputable section
/-! ### impl.OperandsOf: function 36 -/
abbrev impl_OperandsOf.R := (((Unit × Unit) × Unit) × ((List Int) × Unit))
def impl_OperandsOf.f (k : Nat) (a0 : tInstD) : Option impl_OperandsOf.R := Option.bind (impl_isBinary.f k a0.1) fun r1 => bif r1.1.1.1 then (some ((((), ()), ()), ([a0.2.2.1, a0.2.2.2.1], ()))) else (bif decide (a0.1 = 24) then (some ((((), ()), ()), ([a0.2.2.1, a0.2.2.2.1], ()))) else (Option.bind (impl_isCast.f k a0.1) fun r2 => bif r2.1.1.1 then (some ((((), ()), ()), ([a0.2.2.1], ()))) else (bif decide (a0.1 = 23) then (some ((((), ()), ()), ([a0.2.2.1], ()))) else (bif decide (a0.1 = 25) then (some ((((), ()), ()), ([a0.2.2.1], ()))) else (bif decide (a0.1 = 27) then (some ((((), ()), ()), ([a0.2.2.1], ()))) else (bif decide (a0.1 = 22) then (some ((((), ()), ()), ([a0.2.2.1, a0.2.2.2.1, a0.2.2.2.2.1], ()))) else (bif decide (a0.1 = 26) then (Option.bind (slices_Clone_int64_int64.f k a0.2.2.2.2.2.2.1) fun r3 => some ((((), ()), ()), (r3.2.1, ()))) else (some ((((), ()), ()), (([] : List Int), ()))))))))))
def impl_OperandsOf.s (k : Nat) : FS := ⟨[⟨true, [.int .i64, .int .i64, .int .i64, .int .i64, .int .i64, .int .i64, .lst (.int .i64)]⟩], [], false, [⟨false, [.own 100]⟩], [(100, .row true (.int .i64))], [], fun x => impl_OperandsOf.f k x.1.1⟩
def impl_OperandsOf.E (k : Nat) : Ents := [(⟨61, []⟩, impl_isBinary.s k), (⟨62, []⟩, impl_isCast.s k), (⟨63, []⟩, slices_Clone_int64_int64.s k)]
def impl_OperandsOf.L : List (LS impl_OperandsOf.R) := []
def impl_OperandsOf.c : Code := Tryz.f36.body.getD .skip
theorem impl_OperandsOf.eq (k : Nat) (x) : (impl_OperandsOf.s k).pf x = execF tab (impl_OperandsOf.E k) Tryz.f36 impl_OperandsOf.c (impl_OperandsOf.s k) impl_OperandsOf.L x := by kernel_rfl
theorem impl_OperandsOf.sound : ∀ k, Sound Tryz.prog 36 (impl_OperandsOf.s k) := sound_of mixed tab_ok (f := 36) (fn := Tryz.f36) (c := impl_OperandsOf.c) (by kernel_rfl) (by kernel_rfl) (by kernel_rfl) ⟨[⟨true, [.int .i64, .int .i64, .int .i64, .int .i64, .int .i64, .int .i64, .lst (.int .i64)]⟩], [], false, [⟨false, [.own 100]⟩], [(100, .row true (.int .i64))], []⟩ (by kernel_rfl) (by kernel_rfl) (fun k => (impl_OperandsOf.s k).pf) impl_OperandsOf.E (fun k => (EntsOK.cons (impl_isBinary.sound k) (EntsOK.cons (impl_isCast.sound k) (EntsOK.cons (slices_Clone_int64_int64.sound k) EntsOK.nil)))) (fun k => impl_OperandsOf.L) (fun k => trivial) trivial (fun k => trivial) impl_OperandsOf.eq
end
end Go.Proofs.YtkfehogikjcgkaaGreat.V
namespace Go.Proofs.YtkfehogikjcgkaaGreat.V
open Go
set_option linter.unusedVariables false
noncomputable section
/-! ### impl.isInst$1: function 81 -/
abbrev impl_isInst_1.R := (((Bool × Unit) × Unit) × Unit)
def impl_isInst_1.f (k : Nat) (a0 : Int) (a1 : Int) : Option impl_isInst_1.R := Option.bind (impl_within.f k a0 0 (IntKind.wrap .i64 (a1 - 1))) fun r1 => some (((!r1.1.1.1, ()), ()), ())
def impl_isInst_1.s (k : Nat) : FS := ⟨[⟨false, [.int .i64]⟩, ⟨false, [.ptr 0 0]⟩], [(0, .cbox [.int .i64])], false, [⟨false, [.bool]⟩], [], [], fun x => impl_isInst_1.f k x.1.1.1 x.2.1.1⟩
def impl_isInst_1.E (k : Nat) : Ents := [(⟨58, []⟩, impl_within.s k)]
def impl_isInst_1.L : List (LS impl_isInst_1.R) := []
def impl_isInst_1.c : Code := Tryz.f81.body.getD .skip
theorem impl_isInst_1.eq (k : Nat) (x) : (impl_isInst_1.s k).pf x = execF tab (impl_isInst_1.E k) Tryz.f81 impl_isInst_1.c (impl_isInst_1.s k) impl_isInst_1.L x := by kernel_rfl
theorem impl_isInst_1.sound : ∀ k, Sound Tryz.prog 81 (impl_isInst_1.s k) := sound_of mixed tab_ok (f := 81) (fn := Tryz.f81) (c := impl_isInst_1.c) (by kernel_rfl) (by kernel_rfl) (by kernel_rfl) ⟨[⟨false, [.int .i64]⟩, ⟨false, [.ptr 0 0]⟩], [(0, .cbox [.int .i64])], false, [⟨false, [.bool]⟩], [], []⟩ (by kernel_rfl) (by kernel_rfl) (fun k => (impl_isInst_1.s k).pf) impl_isInst_1.E (fun k => (EntsOK.cons (impl_within.sound k) EntsOK.nil)) (fun k => impl_isInst_1.L) (fun k => trivial) trivial (fun k => trivial) impl_isInst_1.eq
end
end Go.Proofs.YtkfehogikjcgkaaGreat.V
namespace Go.Proofs.YtkfehogikjcgkaaGreat.V
open Go
set_option linter.unusedVariables false
noncomputable section
/-! ### slices.IndexFunc[[]int64,int64]: function 60 -/
abbrev slices_IndexFunc_int64_int64_3.R := (((Int × Unit) × Unit) × Unit)
def slices_IndexFunc_int64_int64_3.l0_ (k : Nat) (l0 : (List Int) → Int → Int → Int → Option slices_IndexFunc_int64_int64_3.R) (a0 : List Int) (a1 : Int) (a2 : Int) (a3 : Int) : Option slices_IndexFunc_int64_int64_3.R := bif decide (a2 < a1) then (bif (decide (0 ≤ a2)) && (decide (a2 < ((List.length a0 : Nat) : Int))) then (Option.bind (impl_isInst_1.f k (List.getD a0 (Int.toNat a2) 0) a3) fun r1 => bif r1.1.1.1 then (some (((a2, ()), ()), ())) else (l0 a0 a1 (IntKind.wrap .i64 (a2 + 1)) a3)) else none) else (some (((-1, ()), ()), ()))
def slices_IndexFunc_int64_int64_3.all : Nat → ((List Int) → Int → Int → Int → Option slices_IndexFunc_int64_int64_3.R) × Unit
  | 0 => (fun _ _ _ _ => none, ())
  | k + 1 => (slices_IndexFunc_int64_int64_3.l0_ k (slices_IndexFunc_int64_int64_3.all k).1, ())
def slices_IndexFunc_int64_int64_3.l0 (k : Nat) : (List Int) → Int → Int → Int → Option slices_IndexFunc_int64_int64_3.R := (slices_IndexFunc_int64_int64_3.all k).1
def slices_IndexFunc_int64_int64_3.f (k : Nat) (a0 : List Int) (a1 : Int) : Option slices_IndexFunc_int64_int64_3.R := slices_IndexFunc_int64_int64_3.l0 k a0 ((List.length a0 : Nat) : Int) 0 a1
def slices_IndexFunc_int64_int64_3.s (k : Nat) : FS := ⟨[⟨false, [.lst (.int .i64)]⟩, ⟨false, [.fn 81 [(0, 0)]]⟩], [(0, .cbox [.int .i64])], false, [⟨false, [.int .i64]⟩], [], [], fun x => slices_IndexFunc_int64_int64_3.f k x.1.1.1 x.2.1.1⟩
def slices_IndexFunc_int64_int64_3.E (k : Nat) : Ents := [(⟨81, []⟩, impl_isInst_1.s k)]
def slices_IndexFunc_int64_int64_3.L0 (l : (List Int) → Int → Int → Int → Option slices_IndexFunc_int64_int64_3.R) : LS slices_IndexFunc_int64_int64_3.R := ⟨[], [(0, ⟨false, [.lst (.int .i64)]⟩), (1, ⟨false, [.fn 81 [(0, 0)]]⟩), (7, ⟨false, [.int .i64]⟩), (8, ⟨false, [.int .i64]⟩)], [(0, .cbox [.int .i64])], fun x => l x.1.1.1 x.1.2.2.1.1 x.1.2.2.2.1.1 x.2.1.1⟩
def slices_IndexFunc_int64_int64_3.L (l0 : (List Int) → Int → Int → Int → Option slices_IndexFunc_int64_int64_3.R) : List (LS slices_IndexFunc_int64_int64_3.R) := [slices_IndexFunc_int64_int64_3.L0 l0]
def slices_IndexFunc_int64_int64_3.c : Code := Tryz.f60.body.getD .skip
theorem slices_IndexFunc_int64_int64_3.eq (k : Nat) (x) : (slices_IndexFunc_int64_int64_3.s k).pf x = execF tab (slices_IndexFunc_int64_int64_3.E k) Tryz.f60 slices_IndexFunc_int64_int64_3.c (slices_IndexFunc_int64_int64_3.s k) (slices_IndexFunc_int64_int64_3.L (slices_IndexFunc_int64_int64_3.l0 k)) x := by kernel_rfl
theorem slices_IndexFunc_int64_int64_3.r0 (l0 : (List Int) → Int → Int → Int → Option slices_IndexFunc_int64_int64_3.R) (k : Nat) (x) : slices_IndexFunc_int64_int64_3.l0_ k l0 x.1.1.1 x.1.2.2.1.1 x.1.2.2.2.1.1 x.2.1.1 = roundOf tab (slices_IndexFunc_int64_int64_3.E k) (slices_IndexFunc_int64_int64_3.L l0) slices_IndexFunc_int64_int64_3.c (fin tab Tryz.f60 (slices_IndexFunc_int64_int64_3.s k)) 0 (slices_IndexFunc_int64_int64_3.L0 l0) x := by kernel_rfl
theorem slices_IndexFunc_int64_int64_3.sound : ∀ k, Sound Tryz.prog 60 (slices_IndexFunc_int64_int64_3.s k) := sound_of mixed tab_ok (f := 60) (fn := Tryz.f60) (c := slices_IndexFunc_int64_int64_3.c) (by kernel_rfl) (by kernel_rfl) (by kernel_rfl) ⟨[⟨false, [.lst (.int .i64)]⟩, ⟨false, [.fn 81 [(0, 0)]]⟩], [(0, .cbox [.int .i64])], false, [⟨false, [.int .i64]⟩], [], []⟩ (by kernel_rfl) (by kernel_rfl) (fun k => (slices_IndexFunc_int64_int64_3.s k).pf) slices_IndexFunc_int64_int64_3.E (fun k => (EntsOK.cons (impl_isInst_1.sound k) EntsOK.nil)) (fun k => slices_IndexFunc_int64_int64_3.L (slices_IndexFunc_int64_int64_3.l0 k)) (fun k => ⟨rfl, trivial⟩) ⟨fun _ => rfl, trivial⟩ (fun k => ⟨⟨(slices_IndexFunc_int64_int64_3.L0 (slices_IndexFunc_int64_int64_3.l0 (k + 1))).l, rfl, fun x => slices_IndexFunc_int64_int64_3.r0 (slices_IndexFunc_int64_int64_3.l0 k) k x⟩, trivial⟩) slices_IndexFunc_int64_int64_3.eq
end
end Go.Proofs.YtkfehogikjcgkaaGreat.V
namespace Go.Proofs.YtkfehogikjcgkaaGreat.V
open Go
set_option linter.unusedVariables false
noncomputable section
/-! ### slices.ContainsFunc[[]int64,int64]: function 35 -/
abbrev slices_ContainsFunc_int64_int64_3.R := (((Bool × Unit) × Unit) × Unit)
def slices_ContainsFunc_int64_int64_3.f (k : Nat) (a0 : List Int) (a1 : Int) : Option slices_ContainsFunc_int64_int64_3.R := Option.bind (slices_IndexFunc_int64_int64_3.f k a0 a1) fun r1 => some (((decide (0 ≤ r1.1.1.1), ()), ()), ())
def slices_ContainsFunc_int64_int64_3.s (k : Nat) : FS := ⟨[⟨false, [.lst (.int .i64)]⟩, ⟨false, [.fn 81 [(0, 0)]]⟩], [(0, .cbox [.int .i64])], false, [⟨false, [.bool]⟩], [], [], fun x => slices_ContainsFunc_int64_int64_3.f k x.1.1.1 x.2.1.1⟩
def slices_ContainsFunc_int64_int64_3.E (k : Nat) : Ents := [(⟨60, [81]⟩, slices_IndexFunc_int64_int64_3.s k)]
def slices_ContainsFunc_int64_int64_3.L : List (LS slices_ContainsFunc_int64_int64_3.R) := []
def slices_ContainsFunc_int64_int64_3.c : Code := Tryz.f35.body.getD .skip
theorem slices_ContainsFunc_int64_int64_3.eq (k : Nat) (x) : (slices_ContainsFunc_int64_int64_3.s k).pf x = execF tab (slices_ContainsFunc_int64_int64_3.E k) Tryz.f35 slices_ContainsFunc_int64_int64_3.c (slices_ContainsFunc_int64_int64_3.s k) slices_ContainsFunc_int64_int64_3.L x := by kernel_rfl
theorem slices_ContainsFunc_int64_int64_3.sound : ∀ k, Sound Tryz.prog 35 (slices_ContainsFunc_int64_int64_3.s k) := sound_of mixed tab_ok (f := 35) (fn := Tryz.f35) (c := slices_ContainsFunc_int64_int64_3.c) (by kernel_rfl) (by kernel_rfl) (by kernel_rfl) ⟨[⟨false, [.lst (.int .i64)]⟩, ⟨false, [.fn 81 [(0, 0)]]⟩], [(0, .cbox [.int .i64])], false, [⟨false, [.bool]⟩], [], []⟩ (by kernel_rfl) (by kernel_rfl) (fun k => (slices_ContainsFunc_int64_int64_3.s k).pf) slices_ContainsFunc_int64_int64_3.E (fun k => (EntsOK.cons (slices_IndexFunc_int64_int64_3.sound k) EntsOK.nil)) (fun k => slices_ContainsFunc_int64_int64_3.L) (fun k => trivial) trivial (fun k => trivial) slices_ContainsFunc_int64_int64_3.eq
end
end Go.Proofs.YtkfehogikjcgkaaGreat.V
namespace Go.Proofs.YtkfehogikjcgkaaGreat.V
open Go
set_option linter.unusedVariables false
noncomputable section
/-! ### impl.isInst$2: function 82 -/
abbrev impl_isInst_2.R := (((Bool × Unit) × Unit) × Unit)
def impl_isInst_2.f (k : Nat) (a0 : Int) : Option impl_isInst_2.R := some (((!decide (a0 = 0), ()), ()), ())
def impl_isInst_2.s (k : Nat) : FS := ⟨[⟨false, [.int .i64]⟩], [], false, [⟨false, [.bool]⟩], [], [], fun x => impl_isInst_2.f k x.1.1.1⟩
def impl_isInst_2.E (k : Nat) : Ents := []
def impl_isInst_2.L : List (LS impl_isInst_2.R) := []
def impl_isInst_2.c : Code := Tryz.f82.body.getD .skip
theorem impl_isInst_2.eq (k : Nat) (x) : (impl_isInst_2.s k).pf x = execF tab (impl_isInst_2.E k) Tryz.f82 impl_isInst_2.c (impl_isInst_2.s k) impl_isInst_2.L x := by kernel_rfl
theorem impl_isInst_2.sound : ∀ k, Sound Tryz.prog 82 (impl_isInst_2.s k) := sound_of mixed tab_ok (f := 82) (fn := Tryz.f82) (c := impl_isInst_2.c) (by kernel_rfl) (by kernel_rfl) (by kernel_rfl) ⟨[⟨false, [.int .i64]⟩], [], false, [⟨false, [.bool]⟩], [], []⟩ (by kernel_rfl) (by kernel_rfl) (fun k => (impl_isInst_2.s k).pf) impl_isInst_2.E (fun k => EntsOK.nil) (fun k => impl_isInst_2.L) (fun k => trivial) trivial (fun k => trivial) impl_isInst_2.eq
end
end Go.Proofs.YtkfehogikjcgkaaGreat.V
namespace Go.Proofs.YtkfehogikjcgkaaGreat.V
open Go
set_option linter.unusedVariables false
noncomputable section
/-! ### slices.IndexFunc[[]int64,int64]: function 60 -/
abbrev slices_IndexFunc_int64_int64_4.R := (((Int × Unit) × Unit) × Unit)
def slices_IndexFunc_int64_int64_4.l0_ (k : Nat) (l0 : (List Int) → Int → Int → Option slices_IndexFunc_int64_int64_4.R) (a0 : List Int) (a1 : Int) (a2 : Int) : Option slices_IndexFunc_int64_int64_4.R := bif decide (a2 < a1) then (bif (decide (0 ≤ a2)) && (decide (a2 < ((List.length a0 : Nat) : Int))) then (Option.bind (impl_isInst_2.f k (List.getD a0 (Int.toNat a2) 0)) fun r1 => bif r1.1.1.1 then (some (((a2, ()), ()), ())) else (l0 a0 a1 (IntKind.wrap .i64 (a2 + 1)))) else none) else (some (((-1, ()), ()), ()))
def slices_IndexFunc_int64_int64_4.all : Nat → ((List Int) → Int → Int → Option slices_IndexFunc_int64_int64_4.R) × Unit
  | 0 => (fun _ _ _ => none, ())
  | k + 1 => (slices_IndexFunc_int64_int64_4.l0_ k (slices_IndexFunc_int64_int64_4.all k).1, ())
def slices_IndexFunc_int64_int64_4.l0 (k : Nat) : (List Int) → Int → Int → Option slices_IndexFunc_int64_int64_4.R := (slices_IndexFunc_int64_int64_4.all k).1
def slices_IndexFunc_int64_int64_4.f (k : Nat) (a0 : List Int) : Option slices_IndexFunc_int64_int64_4.R := slices_IndexFunc_int64_int64_4.l0 k a0 ((List.length a0 : Nat) : Int) 0
def slices_IndexFunc_int64_int64_4.s (k : Nat) : FS := ⟨[⟨false, [.lst (.int .i64)]⟩, ⟨false, [.fn 82 []]⟩], [], false, [⟨false, [.int .i64]⟩], [], [], fun x => slices_IndexFunc_int64_int64_4.f k x.1.1.1⟩
def slices_IndexFunc_int64_int64_4.E (k : Nat) : Ents := [(⟨82, []⟩, impl_isInst_2.s k)]
def slices_IndexFunc_int64_int64_4.L0 (l : (List Int) → Int → Int → Option slices_IndexFunc_int64_int64_4.R) : LS slices_IndexFunc_int64_int64_4.R := ⟨[], [(0, ⟨false, [.lst (.int .i64)]⟩), (1, ⟨false, [.fn 82 []]⟩), (7, ⟨false, [.int .i64]⟩), (8, ⟨false, [.int .i64]⟩)], [], fun x => l x.1.1.1 x.1.2.2.1.1 x.1.2.2.2.1.1⟩
def slices_IndexFunc_int64_int64_4.L (l0 : (List Int) → Int → Int → Option slices_IndexFunc_int64_int64_4.R) : List (LS slices_IndexFunc_int64_int64_4.R) := [slices_IndexFunc_int64_int64_4.L0 l0]
def slices_IndexFunc_int64_int64_4.c : Code := Tryz.f60.body.getD .skip
theorem slices_IndexFunc_int64_int64_4.eq (k : Nat) (x) : (slices_IndexFunc_int64_int64_4.s k).pf x = execF tab (slices_IndexFunc_int64_int64_4.E k) Tryz.f60 slices_IndexFunc_int64_int64_4.c (slices_IndexFunc_int64_int64_4.s k) (slices_IndexFunc_int64_int64_4.L (slices_IndexFunc_int64_int64_4.l0 k)) x := by kernel_rfl
theorem slices_IndexFunc_int64_int64_4.r0 (l0 : (List Int) → Int → Int → Option slices_IndexFunc_int64_int64_4.R) (k : Nat) (x) : slices_IndexFunc_int64_int64_4.l0_ k l0 x.1.1.1 x.1.2.2.1.1 x.1.2.2.2.1.1 = roundOf tab (slices_IndexFunc_int64_int64_4.E k) (slices_IndexFunc_int64_int64_4.L l0) slices_IndexFunc_int64_int64_4.c (fin tab Tryz.f60 (slices_IndexFunc_int64_int64_4.s k)) 0 (slices_IndexFunc_int64_int64_4.L0 l0) x := by kernel_rfl
theorem slices_IndexFunc_int64_int64_4.sound : ∀ k, Sound Tryz.prog 60 (slices_IndexFunc_int64_int64_4.s k) := sound_of mixed tab_ok (f := 60) (fn := Tryz.f60) (c := slices_IndexFunc_int64_int64_4.c) (by kernel_rfl) (by kernel_rfl) (by kernel_rfl) ⟨[⟨false, [.lst (.int .i64)]⟩, ⟨false, [.fn 82 []]⟩], [], false, [⟨false, [.int .i64]⟩], [], []⟩ (by kernel_rfl) (by kernel_rfl) (fun k => (slices_IndexFunc_int64_int64_4.s k).pf) slices_IndexFunc_int64_int64_4.E (fun k => (EntsOK.cons (impl_isInst_2.sound k) EntsOK.nil)) (fun k => slices_IndexFunc_int64_int64_4.L (slices_IndexFunc_int64_int64_4.l0 k)) (fun k => ⟨rfl, trivial⟩) ⟨fun _ => rfl, trivial⟩ (fun k => ⟨⟨(slices_IndexFunc_int64_int64_4.L0 (slices_IndexFunc_int64_int64_4.l0 (k + 1))).l, rfl, fun x => slices_IndexFunc_int64_int64_4.r0 (slices_IndexFunc_int64_int64_4.l0 k) k x⟩, trivial⟩) slices_IndexFunc_int64_int64_4.eq
end
end Go.Proofs.YtkfehogikjcgkaaGreat.V
namespace Go.Proofs.YtkfehogikjcgkaaGreat.V
open Go
set_option linter.unusedVariables false
noncomputable section
/-! ### slices.ContainsFunc[[]int64,int64]: function 35 -/
abbrev slices_ContainsFunc_int64_int64_4.R := (((Bool × Unit) × Unit) × Unit)
def slices_ContainsFunc_int64_int64_4.f (k : Nat) (a0 : List Int) : Option slices_ContainsFunc_int64_int64_4.R := Option.bind (slices_IndexFunc_int64_int64_4.f k a0) fun r1 => some (((decide (0 ≤ r1.1.1.1), ()), ()), ())
def slices_ContainsFunc_int64_int64_4.s (k : Nat) : FS := ⟨[⟨false, [.lst (.int .i64)]⟩, ⟨false, [.fn 82 []]⟩], [], false, [⟨false, [.bool]⟩], [], [], fun x => slices_ContainsFunc_int64_int64_4.f k x.1.1.1⟩
def slices_ContainsFunc_int64_int64_4.E (k : Nat) : Ents := [(⟨60, [82]⟩, slices_IndexFunc_int64_int64_4.s k)]
def slices_ContainsFunc_int64_int64_4.L : List (LS slices_ContainsFunc_int64_int64_4.R) := []
def slices_ContainsFunc_int64_int64_4.c : Code := Tryz.f35.body.getD .skip
theorem slices_ContainsFunc_int64_int64_4.eq (k : Nat) (x) : (slices_ContainsFunc_int64_int64_4.s k).pf x = execF tab (slices_ContainsFunc_int64_int64_4.E k) Tryz.f35 slices_ContainsFunc_int64_int64_4.c (slices_ContainsFunc_int64_int64_4.s k) slices_ContainsFunc_int64_int64_4.L x := by kernel_rfl
theorem slices_ContainsFunc_int64_int64_4.sound : ∀ k, Sound Tryz.prog 35 (slices_ContainsFunc_int64_int64_4.s k) := sound_of mixed tab_ok (f := 35) (fn := Tryz.f35) (c := slices_ContainsFunc_int64_int64_4.c) (by kernel_rfl) (by kernel_rfl) (by kernel_rfl) ⟨[⟨false, [.lst (.int .i64)]⟩, ⟨false, [.fn 82 []]⟩], [], false, [⟨false, [.bool]⟩], [], []⟩ (by kernel_rfl) (by kernel_rfl) (fun k => (slices_ContainsFunc_int64_int64_4.s k).pf) slices_ContainsFunc_int64_int64_4.E (fun k => (EntsOK.cons (slices_IndexFunc_int64_int64_4.sound k) EntsOK.nil)) (fun k => slices_ContainsFunc_int64_int64_4.L) (fun k => trivial) trivial (fun k => trivial) slices_ContainsFunc_int64_int64_4.eq
end
end Go.Proofs.YtkfehogikjcgkaaGreat.V
namespace Go.Proofs.YtkfehogikjcgkaaGreat.V
open Go
set_option linter.unusedVariables false
noncomputable section
/-! ### impl.WidthOk: function 100 -/
abbrev impl_WidthOk.R := (((Bool × Unit) × Unit) × Unit)
def impl_WidthOk.f (k : Nat) (a0 : Int) : Option impl_WidthOk.R := bif decide (a0 = 1) then (some (((true, ()), ()), ())) else (bif decide (a0 = 8) then (some (((true, ()), ()), ())) else (bif decide (a0 = 16) then (some (((true, ()), ()), ())) else (some (((decide (a0 = 32), ()), ()), ()))))
def impl_WidthOk.s (k : Nat) : FS := ⟨[⟨false, [.int .i64]⟩], [], false, [⟨false, [.bool]⟩], [], [], fun x => impl_WidthOk.f k x.1.1.1⟩
def impl_WidthOk.E (k : Nat) : Ents := []
def impl_WidthOk.L : List (LS impl_WidthOk.R) := []
def impl_WidthOk.c : Code := Tryz.f100.body.getD .skip
theorem impl_WidthOk.eq (k : Nat) (x) : (impl_WidthOk.s k).pf x = execF tab (impl_WidthOk.E k) Tryz.f100 impl_WidthOk.c (impl_WidthOk.s k) impl_WidthOk.L x := by kernel_rfl
theorem impl_WidthOk.sound : ∀ k, Sound Tryz.prog 100 (impl_WidthOk.s k) := sound_of mixed tab_ok (f := 100) (fn := Tryz.f100) (c := impl_WidthOk.c) (by kernel_rfl) (by kernel_rfl) (by kernel_rfl) ⟨[⟨false, [.int .i64]⟩], [], false, [⟨false, [.bool]⟩], [], []⟩ (by kernel_rfl) (by kernel_rfl) (fun k => (impl_WidthOk.s k).pf) impl_WidthOk.E (fun k => EntsOK.nil) (fun k => impl_WidthOk.L) (fun k => trivial) trivial (fun k => trivial) impl_WidthOk.eq
end
end Go.Proofs.YtkfehogikjcgkaaGreat.V
namespace Go.Proofs.YtkfehogikjcgkaaGreat.V
open Go
set_option linter.unusedVariables false
noncomputable section
/-! ### impl.isWidth: function 83 -/
abbrev impl_isWidth.R := (((Bool × Unit) × Unit) × Unit)
def impl_isWidth.f (k : Nat) (a0 : tInstD) : Option impl_isWidth.R := bif decide (a0.1 = 24) then (bif decide (a0.1 = 24) then (some (((decide (a0.2.1 = 0), ()), ()), ())) else (bif decide (a0.1 = 23) then (some (((decide (a0.2.1 = 8), ()), ()), ())) else (Option.bind (impl_WidthOk.f k a0.2.1) fun r1 => some (((r1.1.1.1, ()), ()), ())))) else (bif decide (a0.1 = 25) then (some (((decide (a0.2.1 = 0), ()), ()), ())) else (bif decide (a0.1 = 23) then (some (((decide (a0.2.1 = 8), ()), ()), ())) else (Option.bind (impl_WidthOk.f k a0.2.1) fun r2 => some (((r2.1.1.1, ()), ()), ()))))
def impl_isWidth.s (k : Nat) : FS := ⟨[⟨true, [.int .i64, .int .i64, .int .i64, .int .i64, .int .i64, .int .i64, .lst (.int .i64)]⟩], [], false, [⟨false, [.bool]⟩], [], [], fun x => impl_isWidth.f k x.1.1⟩
def impl_isWidth.E (k : Nat) : Ents := [(⟨100, []⟩, impl_WidthOk.s k)]
def impl_isWidth.L : List (LS impl_isWidth.R) := []
def impl_isWidth.c : Code := Tryz.f83.body.getD .skip
theorem impl_isWidth.eq (k : Nat) (x) : (impl_isWidth.s k).pf x = execF tab (impl_isWidth.E k) Tryz.f83 impl_isWidth.c (impl_isWidth.s k) impl_isWidth.L x := by kernel_rfl
theorem impl_isWidth.sound : ∀ k, Sound Tryz.prog 83 (impl_isWidth.s k) := sound_of mixed tab_ok (f := 83) (fn := Tryz.f83) (c := impl_isWidth.c) (by kernel_rfl) (by kernel_rfl) (by kernel_rfl) ⟨[⟨true, [.int .i64, .int .i64, .int .i64, .int .i64, .int .i64, .int .i64, .lst (.int .i64)]⟩], [], false, [⟨false, [.bool]⟩], [], []⟩ (by kernel_rfl) (by kernel_rfl) (fun k => (impl_isWidth.s k).pf) impl_isWidth.E (fun k => (EntsOK.cons (impl_WidthOk.sound k) EntsOK.nil)) (fun k => impl_isWidth.L) (fun k => trivial) trivial (fun k => trivial) impl_isWidth.eq
end
end Go.Proofs.YtkfehogikjcgkaaGreat.V
namespace Go.Proofs.YtkfehogikjcgkaaGreat.V
open Go
set_option linter.unusedVariables false
noncomputable section
/-! ### impl.mask: function 129 -/
abbrev impl_mask.R := (((Int × Unit) × Unit) × Unit)
def impl_mask.f (k : Nat) (a0 : Int) : Option impl_mask.R := bif decide (0 ≤ a0) then (some (((IntKind.wrap .i64 ((V.shl .i64 1 a0) - 1), ()), ()), ())) else none
def impl_mask.s (k : Nat) : FS := ⟨[⟨false, [.int .i64]⟩], [], false, [⟨false, [.int .i64]⟩], [], [], fun x => impl_mask.f k x.1.1.1⟩
def impl_mask.E (k : Nat) : Ents := []
def impl_mask.L : List (LS impl_mask.R) := []
def impl_mask.c : Code := Tryz.f129.body.getD .skip
theorem impl_mask.eq (k : Nat) (x) : (impl_mask.s k).pf x = execF tab (impl_mask.E k) Tryz.f129 impl_mask.c (impl_mask.s k) impl_mask.L x := by kernel_rfl
theorem impl_mask.sound : ∀ k, Sound Tryz.prog 129 (impl_mask.s k) := sound_of mixed tab_ok (f := 129) (fn := Tryz.f129) (c := impl_mask.c) (by kernel_rfl) (by kernel_rfl) (by kernel_rfl) ⟨[⟨false, [.int .i64]⟩], [], false, [⟨false, [.int .i64]⟩], [], []⟩ (by kernel_rfl) (by kernel_rfl) (fun k => (impl_mask.s k).pf) impl_mask.E (fun k => EntsOK.nil) (fun k => impl_mask.L) (fun k => trivial) trivial (fun k => trivial) impl_mask.eq
end
end Go.Proofs.YtkfehogikjcgkaaGreat.V
namespace Go.Proofs.YtkfehogikjcgkaaGreat.V
open Go
set_option linter.unusedVariables false
noncomputable section
/-! ### impl.isValue: function 91 -/
abbrev impl_isValue.R := (((Bool × Unit) × Unit) × Unit)
def impl_isValue.f (k : Nat) (a0 : Int) (a1 : Int) : Option impl_isValue.R := Option.bind (impl_WidthOk.f k a0) fun r1 => bif r1.1.1.1 then (Option.bind (impl_mask.f k a0) fun r2 => Option.bind (impl_within.f k a1 0 r2.1.1.1) fun r3 => some (((r3.1.1.1, ()), ()), ())) else (some (((false, ()), ()), ()))
def impl_isValue.s (k : Nat) : FS := ⟨[⟨false, [.int .i64]⟩, ⟨false, [.int .i64]⟩], [], false, [⟨false, [.bool]⟩], [], [], fun x => impl_isValue.f k x.1.1.1 x.1.2.1.1⟩
def impl_isValue.E (k : Nat) : Ents := [(⟨100, []⟩, impl_WidthOk.s k), (⟨129, []⟩, impl_mask.s k), (⟨58, []⟩, impl_within.s k)]
def impl_isValue.L : List (LS impl_isValue.R) := []
def impl_isValue.c : Code := Tryz.f91.body.getD .skip
theorem impl_isValue.eq (k : Nat) (x) : (impl_isValue.s k).pf x = execF tab (impl_isValue.E k) Tryz.f91 impl_isValue.c (impl_isValue.s k) impl_isValue.L x := by kernel_rfl
theorem impl_isValue.sound : ∀ k, Sound Tryz.prog 91 (impl_isValue.s k) := sound_of mixed tab_ok (f := 91) (fn := Tryz.f91) (c := impl_isValue.c) (by kernel_rfl) (by kernel_rfl) (by kernel_rfl) ⟨[⟨false, [.int .i64]⟩, ⟨false, [.int .i64]⟩], [], false, [⟨false, [.bool]⟩], [], []⟩ (by kernel_rfl) (by kernel_rfl) (fun k => (impl_isValue.s k).pf) impl_isValue.E (fun k => (EntsOK.cons (impl_WidthOk.sound k) (EntsOK.cons (impl_mask.sound k) (EntsOK.cons (impl_within.sound k) EntsOK.nil)))) (fun k => impl_isValue.L) (fun k => trivial) trivial (fun k => trivial) impl_isValue.eq
end
end Go.Proofs.YtkfehogikjcgkaaGreat.V
namespace Go.Proofs.YtkfehogikjcgkaaGreat.V
open Go
set_option linter.unusedVariables false
noncomputable section
/-! ### impl.isImm: function 84 -/
abbrev impl_isImm.R := (((Bool × Unit) × Unit) × Unit)
def impl_isImm.f (k : Nat) (a0 : tInstD) (a1 : Int) : Option impl_isImm.R := bif decide (a0.1 = 21) then (Option.bind (impl_isValue.f k a0.2.1 a0.2.2.2.2.2.1) fun r1 => some (((r1.1.1.1, ()), ()), ())) else (bif decide (a0.1 = 26) then (Option.bind (impl_within.f k a0.2.2.2.2.2.1 0 (IntKind.wrap .i64 (a1 - 1))) fun r2 => some (((r2.1.1.1, ()), ()), ())) else (some (((decide (a0.2.2.2.2.2.1 = 0), ()), ()), ())))
def impl_isImm.s (k : Nat) : FS := ⟨[⟨true, [.int .i64, .int .i64, .int .i64, .int .i64, .int .i64, .int .i64, .lst (.int .i64)]⟩, ⟨false, [.int .i64]⟩], [], false, [⟨false, [.bool]⟩], [], [], fun x => impl_isImm.f k x.1.1 x.1.2.1.1⟩
def impl_isImm.E (k : Nat) : Ents := [(⟨91, []⟩, impl_isValue.s k), (⟨58, []⟩, impl_within.s k)]
def impl_isImm.L : List (LS impl_isImm.R) := []
def impl_isImm.c : Code := Tryz.f84.body.getD .skip
theorem impl_isImm.eq (k : Nat) (x) : (impl_isImm.s k).pf x = execF tab (impl_isImm.E k) Tryz.f84 impl_isImm.c (impl_isImm.s k) impl_isImm.L x := by kernel_rfl
theorem impl_isImm.sound : ∀ k, Sound Tryz.prog 84 (impl_isImm.s k) := sound_of mixed tab_ok (f := 84) (fn := Tryz.f84) (c := impl_isImm.c) (by kernel_rfl) (by kernel_rfl) (by kernel_rfl) ⟨[⟨true, [.int .i64, .int .i64, .int .i64, .int .i64, .int .i64, .int .i64, .lst (.int .i64)]⟩, ⟨false, [.int .i64]⟩], [], false, [⟨false, [.bool]⟩], [], []⟩ (by kernel_rfl) (by kernel_rfl) (fun k => (impl_isImm.s k).pf) impl_isImm.E (fun k => (EntsOK.cons (impl_isValue.sound k) (EntsOK.cons (impl_within.sound k) EntsOK.nil))) (fun k => impl_isImm.L) (fun k => trivial) trivial (fun k => trivial) impl_isImm.eq
end
end Go.Proofs.YtkfehogikjcgkaaGreat.V
namespace Go.Proofs.YtkfehogikjcgkaaGreat.V
open Go
set_option linter.unusedVariables false
noncomputable section
/-! ### impl.isInst: function 45 -/
abbrev impl_isInst.R := (((Bool × Unit) × Unit) × Unit)
def impl_isInst.f (k : Nat) (a0 : tInstD) (a1 : Int) (a2 : Int) : Option impl_isInst.R := Option.bind (impl_within.f k a0.1 1 27) fun r1 => bif !r1.1.1.1 then (some (((false, ()), ()), ())) else (bif decide (4 < ((List.length a0.2.2.2.2.2.2.1 : Nat) : Int)) then (some (((false, ()), ()), ())) else (bif decide (0 < ((List.length a0.2.2.2.2.2.2.1 : Nat) : Int)) then (bif !decide (a0.1 = 26) then (some (((false, ()), ()), ())) else (Option.bind (impl_OperandsOf.f k a0) fun r2 => Option.bind (slices_ContainsFunc_int64_int64_3.f k r2.2.1 a1) fun r3 => bif r3.1.1.1 then (some (((false, ()), ()), ())) else (bif decide (a0.1 = 26) then (bif (decide (0 ≤ 0)) && (decide (0 ≤ ((List.length [a0.2.2.1, a0.2.2.2.1, a0.2.2.2.2.1] : Nat) : Int))) then (Option.bind (slices_ContainsFunc_int64_int64_4.f k [a0.2.2.1, a0.2.2.2.1, a0.2.2.2.2.1]) fun r4 => bif r4.1.1.1 then (some (((false, ()), ()), ())) else (Option.bind (impl_isWidth.f k a0) fun r5 => bif r5.1.1.1 then (Option.bind (impl_isImm.f k a0 a2) fun r6 => some (((r6.1.1.1, ()), ()), ())) else (some (((false, ()), ()), ())))) else none) else (bif (decide (0 ≤ ((List.length r2.2.1 : Nat) : Int))) && (decide (((List.length r2.2.1 : Nat) : Int) ≤ ((List.length [a0.2.2.1, a0.2.2.2.1, a0.2.2.2.2.1] : Nat) : Int))) then (Option.bind (slices_ContainsFunc_int64_int64_4.f k (List.drop (Int.toNat ((List.length r2.2.1 : Nat) : Int)) [a0.2.2.1, a0.2.2.2.1, a0.2.2.2.2.1])) fun r7 => bif r7.1.1.1 then (some (((false, ()), ()), ())) else (Option.bind (impl_isWidth.f k a0) fun r8 => bif r8.1.1.1 then (Option.bind (impl_isImm.f k a0 a2) fun r9 => some (((r9.1.1.1, ()), ()), ())) else (some (((false, ()), ()), ())))) else none)))) else (Option.bind (impl_OperandsOf.f k a0) fun r10 => Option.bind (slices_ContainsFunc_int64_int64_3.f k r10.2.1 a1) fun r11 => bif r11.1.1.1 then (some (((false, ()), ()), ())) else (bif decide (a0.1 = 26) then (bif (decide (0 ≤ 0)) && (decide (0 ≤ ((List.length [a0.2.2.1, a0.2.2.2.1, a0.2.2.2.2.1] : Nat) : Int))) then (Option.bind (slices_ContainsFunc_int64_int64_4.f k [a0.2.2.1, a0.2.2.2.1, a0.2.2.2.2.1]) fun r12 => bif r12.1.1.1 then (some (((false, ()), ()), ())) else (Option.bind (impl_isWidth.f k a0) fun r13 => bif r13.1.1.1 then (Option.bind (impl_isImm.f k a0 a2) fun r14 => some (((r14.1.1.1, ()), ()), ())) else (some (((false, ()), ()), ())))) else none) else (bif (decide (0 ≤ ((List.length r10.2.1 : Nat) : Int))) && (decide (((List.length r10.2.1 : Nat) : Int) ≤ ((List.length [a0.2.2.1, a0.2.2.2.1, a0.2.2.2.2.1] : Nat) : Int))) then (Option.bind (slices_ContainsFunc_int64_int64_4.f k (List.drop (Int.toNat ((List.length r10.2.1 : Nat) : Int)) [a0.2.2.1, a0.2.2.2.1, a0.2.2.2.2.1])) fun r15 => bif r15.1.1.1 then (some (((false, ()), ()), ())) else (Option.bind (impl_isWidth.f k a0) fun r16 => bif r16.1.1.1 then (Option.bind (impl_isImm.f k a0 a2) fun r17 => some (((r17.1.1.1, ()), ()), ())) else (some (((false, ()), ()), ())))) else none)))))
def impl_isInst.s (k : Nat) : FS := ⟨[⟨true, [.int .i64, .int .i64, .int .i64, .int .i64, .int .i64, .int .i64, .lst (.int .i64)]⟩, ⟨false, [.int .i64]⟩, ⟨false, [.int .i64]⟩], [], false, [⟨false, [.bool]⟩], [], [], fun x => impl_isInst.f k x.1.1 x.1.2.1.1 x.1.2.2.1.1⟩
def impl_isInst.E (k : Nat) : Ents := [(⟨58, []⟩, impl_within.s k), (⟨36, []⟩, impl_OperandsOf.s k), (⟨35, [81]⟩, slices_ContainsFunc_int64_int64_3.s k), (⟨35, [82]⟩, slices_ContainsFunc_int64_int64_4.s k), (⟨83, []⟩, impl_isWidth.s k), (⟨84, []⟩, impl_isImm.s k)]
def impl_isInst.L : List (LS impl_isInst.R) := []
def impl_isInst.c : Code := Tryz.f45.body.getD .skip
theorem impl_isInst.eq (k : Nat) (x) : (impl_isInst.s k).pf x = execF tab (impl_isInst.E k) Tryz.f45 impl_isInst.c (impl_isInst.s k) impl_isInst.L x := by kernel_rfl
theorem impl_isInst.sound : ∀ k, Sound Tryz.prog 45 (impl_isInst.s k) := sound_of mixed tab_ok (f := 45) (fn := Tryz.f45) (c := impl_isInst.c) (by kernel_rfl) (by kernel_rfl) (by kernel_rfl) ⟨[⟨true, [.int .i64, .int .i64, .int .i64, .int .i64, .int .i64, .int .i64, .lst (.int .i64)]⟩, ⟨false, [.int .i64]⟩, ⟨false, [.int .i64]⟩], [], false, [⟨false, [.bool]⟩], [], []⟩ (by kernel_rfl) (by kernel_rfl) (fun k => (impl_isInst.s k).pf) impl_isInst.E (fun k => (EntsOK.cons (impl_within.sound k) (EntsOK.cons (impl_OperandsOf.sound k) (EntsOK.cons (slices_ContainsFunc_int64_int64_3.sound k) (EntsOK.cons (slices_ContainsFunc_int64_int64_4.sound k) (EntsOK.cons (impl_isWidth.sound k) (EntsOK.cons (impl_isImm.sound k) EntsOK.nil))))))) (fun k => impl_isInst.L) (fun k => trivial) trivial (fun k => trivial) impl_isInst.eq
end
end Go.Proofs.YtkfehogikjcgkaaGreat.V
namespace Go.Proofs.YtkfehogikjcgkaaGreat.V
open Go
set_option linter.unusedVariables false
noncomputable section
/-! ### impl.isFunc$1: function 101 -/
abbrev impl_isFunc_1.R := (((Bool × Unit) × Unit) × Unit)
def impl_isFunc_1.f (k : Nat) (a0 : Int) : Option impl_isFunc_1.R := Option.bind (impl_WidthOk.f k a0) fun r1 => some (((!r1.1.1.1, ()), ()), ())
def impl_isFunc_1.s (k : Nat) : FS := ⟨[⟨false, [.int .i64]⟩], [], false, [⟨false, [.bool]⟩], [], [], fun x => impl_isFunc_1.f k x.1.1.1⟩
def impl_isFunc_1.E (k : Nat) : Ents := [(⟨100, []⟩, impl_WidthOk.s k)]
def impl_isFunc_1.L : List (LS impl_isFunc_1.R) := []
def impl_isFunc_1.c : Code := Tryz.f101.body.getD .skip
theorem impl_isFunc_1.eq (k : Nat) (x) : (impl_isFunc_1.s k).pf x = execF tab (impl_isFunc_1.E k) Tryz.f101 impl_isFunc_1.c (impl_isFunc_1.s k) impl_isFunc_1.L x := by kernel_rfl
theorem impl_isFunc_1.sound : ∀ k, Sound Tryz.prog 101 (impl_isFunc_1.s k) := sound_of mixed tab_ok (f := 101) (fn := Tryz.f101) (c := impl_isFunc_1.c) (by kernel_rfl) (by kernel_rfl) (by kernel_rfl) ⟨[⟨false, [.int .i64]⟩], [], false, [⟨false, [.bool]⟩], [], []⟩ (by kernel_rfl) (by kernel_rfl) (fun k => (impl_isFunc_1.s k).pf) impl_isFunc_1.E (fun k => (EntsOK.cons (impl_WidthOk.sound k) EntsOK.nil)) (fun k => impl_isFunc_1.L) (fun k => trivial) trivial (fun k => trivial) impl_isFunc_1.eq
end
end Go.Proofs.YtkfehogikjcgkaaGreat.V
namespace Go.Proofs.YtkfehogikjcgkaaGreat.V
open Go
set_option linter.unusedVariables false
noncomputable section
/-! ### slices.IndexFunc[[]int64,int64]: function 60 -/
abbrev slices_IndexFunc_int64_int64.R := (((Int × Unit) × Unit) × Unit)
def slices_IndexFunc_int64_int64.l0_ (k : Nat) (l0 : (List Int) → Int → Int → Option slices_IndexFunc_int64_int64.R) (a0 : List Int) (a1 : Int) (a2 : Int) : Option slices_IndexFunc_int64_int64.R := bif decide (a2 < a1) then (bif (decide (0 ≤ a2)) && (decide (a2 < ((List.length a0 : Nat) : Int))) then (Option.bind (impl_isFunc_1.f k (List.getD a0 (Int.toNat a2) 0)) fun r1 => bif r1.1.1.1 then (some (((a2, ()), ()), ())) else (l0 a0 a1 (IntKind.wrap .i64 (a2 + 1)))) else none) else (some (((-1, ()), ()), ()))
def slices_IndexFunc_int64_int64.all : Nat → ((List Int) → Int → Int → Option slices_IndexFunc_int64_int64.R) × Unit
  | 0 => (fun _ _ _ => none, ())
  | k + 1 => (slices_IndexFunc_int64_int64.l0_ k (slices_IndexFunc_int64_int64.all k).1, ())
def slices_IndexFunc_int64_int64.l0 (k : Nat) : (List Int) → Int → Int → Option slices_IndexFunc_int64_int64.R := (slices_IndexFunc_int64_int64.all k).1
def slices_IndexFunc_int64_int64.f (k : Nat) (a0 : List Int) : Option slices_IndexFunc_int64_int64.R := slices_IndexFunc_int64_int64.l0 k a0 ((List.length a0 : Nat) : Int) 0
def slices_IndexFunc_int64_int64.s (k : Nat) : FS := ⟨[⟨false, [.lst (.int .i64)]⟩, ⟨false, [.fn 101 []]⟩], [], false, [⟨false, [.int .i64]⟩], [], [], fun x => slices_IndexFunc_int64_int64.f k x.1.1.1⟩
def slices_IndexFunc_int64_int64.E (k : Nat) : Ents := [(⟨101, []⟩, impl_isFunc_1.s k)]
def slices_IndexFunc_int64_int64.L0 (l : (List Int) → Int → Int → Option slices_IndexFunc_int64_int64.R) : LS slices_IndexFunc_int64_int64.R := ⟨[], [(0, ⟨false, [.lst (.int .i64)]⟩), (1, ⟨false, [.fn 101 []]⟩), (7, ⟨false, [.int .i64]⟩), (8, ⟨false, [.int .i64]⟩)], [], fun x => l x.1.1.1 x.1.2.2.1.1 x.1.2.2.2.1.1⟩
def slices_IndexFunc_int64_int64.L (l0 : (List Int) → Int → Int → Option slices_IndexFunc_int64_int64.R) : List (LS slices_IndexFunc_int64_int64.R) := [slices_IndexFunc_int64_int64.L0 l0]
def slices_IndexFunc_int64_int64.c : Code := Tryz.f60.body.getD .skip
theorem slices_IndexFunc_int64_int64.eq (k : Nat) (x) : (slices_IndexFunc_int64_int64.s k).pf x = execF tab (slices_IndexFunc_int64_int64.E k) Tryz.f60 slices_IndexFunc_int64_int64.c (slices_IndexFunc_int64_int64.s k) (slices_IndexFunc_int64_int64.L (slices_IndexFunc_int64_int64.l0 k)) x := by kernel_rfl
theorem slices_IndexFunc_int64_int64.r0 (l0 : (List Int) → Int → Int → Option slices_IndexFunc_int64_int64.R) (k : Nat) (x) : slices_IndexFunc_int64_int64.l0_ k l0 x.1.1.1 x.1.2.2.1.1 x.1.2.2.2.1.1 = roundOf tab (slices_IndexFunc_int64_int64.E k) (slices_IndexFunc_int64_int64.L l0) slices_IndexFunc_int64_int64.c (fin tab Tryz.f60 (slices_IndexFunc_int64_int64.s k)) 0 (slices_IndexFunc_int64_int64.L0 l0) x := by kernel_rfl
theorem slices_IndexFunc_int64_int64.sound : ∀ k, Sound Tryz.prog 60 (slices_IndexFunc_int64_int64.s k) := sound_of mixed tab_ok (f := 60) (fn := Tryz.f60) (c := slices_IndexFunc_int64_int64.c) (by kernel_rfl) (by kernel_rfl) (by kernel_rfl) ⟨[⟨false, [.lst (.int .i64)]⟩, ⟨false, [.fn 101 []]⟩], [], false, [⟨false, [.int .i64]⟩], [], []⟩ (by kernel_rfl) (by kernel_rfl) (fun k => (slices_IndexFunc_int64_int64.s k).pf) slices_IndexFunc_int64_int64.E (fun k => (EntsOK.cons (impl_isFunc_1.sound k) EntsOK.nil)) (fun k => slices_IndexFunc_int64_int64.L (slices_IndexFunc_int64_int64.l0 k)) (fun k => ⟨rfl, trivial⟩) ⟨fun _ => rfl, trivial⟩ (fun k => ⟨⟨(slices_IndexFunc_int64_int64.L0 (slices_IndexFunc_int64_int64.l0 (k + 1))).l, rfl, fun x => slices_IndexFunc_int64_int64.r0 (slices_IndexFunc_int64_int64.l0 k) k x⟩, trivial⟩) slices_IndexFunc_int64_int64.eq
end
end Go.Proofs.YtkfehogikjcgkaaGreat.V
namespace Go.Proofs.YtkfehogikjcgkaaGreat.V
open Go
set_option linter.unusedVariables false
noncomputable section
/-! ### slices.ContainsFunc[[]int64,int64]: function 35 -/
abbrev slices_ContainsFunc_int64_int64.R := (((Bool × Unit) × Unit) × Unit)
def slices_ContainsFunc_int64_int64.f (k : Nat) (a0 : List Int) : Option slices_ContainsFunc_int64_int64.R := Option.bind (slices_IndexFunc_int64_int64.f k a0) fun r1 => some (((decide (0 ≤ r1.1.1.1), ()), ()), ())
def slices_ContainsFunc_int64_int64.s (k : Nat) : FS := ⟨[⟨false, [.lst (.int .i64)]⟩, ⟨false, [.fn 101 []]⟩], [], false, [⟨false, [.bool]⟩], [], [], fun x => slices_ContainsFunc_int64_int64.f k x.1.1.1⟩
def slices_ContainsFunc_int64_int64.E (k : Nat) : Ents := [(⟨60, [101]⟩, slices_IndexFunc_int64_int64.s k)]
def slices_ContainsFunc_int64_int64.L : List (LS slices_ContainsFunc_int64_int64.R) := []
def slices_ContainsFunc_int64_int64.c : Code := Tryz.f35.body.getD .skip
theorem slices_ContainsFunc_int64_int64.eq (k : Nat) (x) : (slices_ContainsFunc_int64_int64.s k).pf x = execF tab (slices_ContainsFunc_int64_int64.E k) Tryz.f35 slices_ContainsFunc_int64_int64.c (slices_ContainsFunc_int64_int64.s k) slices_ContainsFunc_int64_int64.L x := by kernel_rfl
theorem slices_ContainsFunc_int64_int64.sound : ∀ k, Sound Tryz.prog 35 (slices_ContainsFunc_int64_int64.s k) := sound_of mixed tab_ok (f := 35) (fn := Tryz.f35) (c := slices_ContainsFunc_int64_int64.c) (by kernel_rfl) (by kernel_rfl) (by kernel_rfl) ⟨[⟨false, [.lst (.int .i64)]⟩, ⟨false, [.fn 101 []]⟩], [], false, [⟨false, [.bool]⟩], [], []⟩ (by kernel_rfl) (by kernel_rfl) (fun k => (slices_ContainsFunc_int64_int64.s k).pf) slices_ContainsFunc_int64_int64.E (fun k => (EntsOK.cons (slices_IndexFunc_int64_int64.sound k) EntsOK.nil)) (fun k => slices_ContainsFunc_int64_int64.L) (fun k => trivial) trivial (fun k => trivial) slices_ContainsFunc_int64_int64.eq
end
end Go.Proofs.YtkfehogikjcgkaaGreat.V
namespace Go.Proofs.YtkfehogikjcgkaaGreat.V
open Go
set_option linter.unusedVariables false
noncomputable section
/-! ### impl.isFunc$2$1: function 104 -/
abbrev impl_isFunc_2_1.R := (((Bool × Unit) × Unit) × Unit)
def impl_isFunc_2_1.f (k : Nat) (a0 : Int) (a1 : Int) : Option impl_isFunc_2_1.R := Option.bind (impl_within.f k a0 0 (IntKind.wrap .i64 (a1 - 1))) fun r1 => some (((!r1.1.1.1, ()), ()), ())
def impl_isFunc_2_1.s (k : Nat) : FS := ⟨[⟨false, [.int .i64]⟩, ⟨false, [.ptr 0 0]⟩], [(0, .cbox [.int .i64])], false, [⟨false, [.bool]⟩], [], [], fun x => impl_isFunc_2_1.f k x.1.1.1 x.2.1.1⟩
def impl_isFunc_2_1.E (k : Nat) : Ents := [(⟨58, []⟩, impl_within.s k)]
def impl_isFunc_2_1.L : List (LS impl_isFunc_2_1.R) := []
def impl_isFunc_2_1.c : Code := Tryz.f104.body.getD .skip
theorem impl_isFunc_2_1.eq (k : Nat) (x) : (impl_isFunc_2_1.s k).pf x = execF tab (impl_isFunc_2_1.E k) Tryz.f104 impl_isFunc_2_1.c (impl_isFunc_2_1.s k) impl_isFunc_2_1.L x := by kernel_rfl
theorem impl_isFunc_2_1.sound : ∀ k, Sound Tryz.prog 104 (impl_isFunc_2_1.s k) := sound_of mixed tab_ok (f := 104) (fn := Tryz.f104) (c := impl_isFunc_2_1.c) (by kernel_rfl) (by kernel_rfl) (by kernel_rfl) ⟨[⟨false, [.int .i64]⟩, ⟨false, [.ptr 0 0]⟩], [(0, .cbox [.int .i64])], false, [⟨false, [.bool]⟩], [], []⟩ (by kernel_rfl) (by kernel_rfl) (fun k => (impl_isFunc_2_1.s k).pf) impl_isFunc_2_1.E (fun k => (EntsOK.cons (impl_within.sound k) EntsOK.nil)) (fun k => impl_isFunc_2_1.L) (fun k => trivial) trivial (fun k => trivial) impl_isFunc_2_1.eq
end
end Go.Proofs.YtkfehogikjcgkaaGreat.V
namespace Go.Proofs.YtkfehogikjcgkaaGreat.V
open Go
set_option linter.unusedVariables false
noncomputable section
/-! ### slices.IndexFunc[[]int64,int64]: function 60 -/
abbrev slices_IndexFunc_int64_int64_2.R := (((Int × Unit) × Unit) × Unit)
def slices_IndexFunc_int64_int64_2.l0_ (k : Nat) (l0 : (List Int) → Int → Int → Int → Option slices_IndexFunc_int64_int64_2.R) (a0 : List Int) (a1 : Int) (a2 : Int) (a3 : Int) : Option slices_IndexFunc_int64_int64_2.R := bif decide (a2 < a1) then (bif (decide (0 ≤ a2)) && (decide (a2 < ((List.length a0 : Nat) : Int))) then (Option.bind (impl_isFunc_2_1.f k (List.getD a0 (Int.toNat a2) 0) a3) fun r1 => bif r1.1.1.1 then (some (((a2, ()), ()), ())) else (l0 a0 a1 (IntKind.wrap .i64 (a2 + 1)) a3)) else none) else (some (((-1, ()), ()), ()))
def slices_IndexFunc_int64_int64_2.all : Nat → ((List Int) → Int → Int → Int → Option slices_IndexFunc_int64_int64_2.R) × Unit
  | 0 => (fun _ _ _ _ => none, ())
  | k + 1 => (slices_IndexFunc_int64_int64_2.l0_ k (slices_IndexFunc_int64_int64_2.all k).1, ())
def slices_IndexFunc_int64_int64_2.l0 (k : Nat) : (List Int) → Int → Int → Int → Option slices_IndexFunc_int64_int64_2.R := (slices_IndexFunc_int64_int64_2.all k).1
def slices_IndexFunc_int64_int64_2.f (k : Nat) (a0 : List Int) (a1 : Int) : Option slices_IndexFunc_int64_int64_2.R := slices_IndexFunc_int64_int64_2.l0 k a0 ((List.length a0 : Nat) : Int) 0 a1
def slices_IndexFunc_int64_int64_2.s (k : Nat) : FS := ⟨[⟨false, [.lst (.int .i64)]⟩, ⟨false, [.fn 104 [(0, 0)]]⟩], [(0, .cbox [.int .i64])], false, [⟨false, [.int .i64]⟩], [], [], fun x => slices_IndexFunc_int64_int64_2.f k x.1.1.1 x.2.1.1⟩
def slices_IndexFunc_int64_int64_2.E (k : Nat) : Ents := [(⟨104, []⟩, impl_isFunc_2_1.s k)]
def slices_IndexFunc_int64_int64_2.L0 (l : (List Int) → Int → Int → Int → Option slices_IndexFunc_int64_int64_2.R) : LS slices_IndexFunc_int64_int64_2.R := ⟨[], [(0, ⟨false, [.lst (.int .i64)]⟩), (1, ⟨false, [.fn 104 [(0, 0)]]⟩), (7, ⟨false, [.int .i64]⟩), (8, ⟨false, [.int .i64]⟩)], [(0, .cbox [.int .i64])], fun x => l x.1.1.1 x.1.2.2.1.1 x.1.2.2.2.1.1 x.2.1.1⟩
def slices_IndexFunc_int64_int64_2.L (l0 : (List Int) → Int → Int → Int → Option slices_IndexFunc_int64_int64_2.R) : List (LS slices_IndexFunc_int64_int64_2.R) := [slices_IndexFunc_int64_int64_2.L0 l0]
def slices_IndexFunc_int64_int64_2.c : Code := Tryz.f60.body.getD .skip
theorem slices_IndexFunc_int64_int64_2.eq (k : Nat) (x) : (slices_IndexFunc_int64_int64_2.s k).pf x = execF tab (slices_IndexFunc_int64_int64_2.E k) Tryz.f60 slices_IndexFunc_int64_int64_2.c (slices_IndexFunc_int64_int64_2.s k) (slices_IndexFunc_int64_int64_2.L (slices_IndexFunc_int64_int64_2.l0 k)) x := by kernel_rfl
theorem slices_IndexFunc_int64_int64_2.r0 (l0 : (List Int) → Int → Int → Int → Option slices_IndexFunc_int64_int64_2.R) (k : Nat) (x) : slices_IndexFunc_int64_int64_2.l0_ k l0 x.1.1.1 x.1.2.2.1.1 x.1.2.2.2.1.1 x.2.1.1 = roundOf tab (slices_IndexFunc_int64_int64_2.E k) (slices_IndexFunc_int64_int64_2.L l0) slices_IndexFunc_int64_int64_2.c (fin tab Tryz.f60 (slices_IndexFunc_int64_int64_2.s k)) 0 (slices_IndexFunc_int64_int64_2.L0 l0) x := by kernel_rfl
theorem slices_IndexFunc_int64_int64_2.sound : ∀ k, Sound Tryz.prog 60 (slices_IndexFunc_int64_int64_2.s k) := sound_of mixed tab_ok (f := 60) (fn := Tryz.f60) (c := slices_IndexFunc_int64_int64_2.c) (by kernel_rfl) (by kernel_rfl) (by kernel_rfl) ⟨[⟨false, [.lst (.int .i64)]⟩, ⟨false, [.fn 104 [(0, 0)]]⟩], [(0, .cbox [.int .i64])], false, [⟨false, [.int .i64]⟩], [], []⟩ (by kernel_rfl) (by kernel_rfl) (fun k => (slices_IndexFunc_int64_int64_2.s k).pf) slices_IndexFunc_int64_int64_2.E (fun k => (EntsOK.cons (impl_isFunc_2_1.sound k) EntsOK.nil)) (fun k => slices_IndexFunc_int64_int64_2.L (slices_IndexFunc_int64_int64_2.l0 k)) (fun k => ⟨rfl, trivial⟩) ⟨fun _ => rfl, trivial⟩ (fun k => ⟨⟨(slices_IndexFunc_int64_int64_2.L0 (slices_IndexFunc_int64_int64_2.l0 (k + 1))).l, rfl, fun x => slices_IndexFunc_int64_int64_2.r0 (slices_IndexFunc_int64_int64_2.l0 k) k x⟩, trivial⟩) slices_IndexFunc_int64_int64_2.eq
end
end Go.Proofs.YtkfehogikjcgkaaGreat.V
namespace Go.Proofs.YtkfehogikjcgkaaGreat.V
open Go
set_option linter.unusedVariables false
noncomputable section
/-! ### slices.ContainsFunc[[]int64,int64]: function 35 -/
abbrev slices_ContainsFunc_int64_int64_2.R := (((Bool × Unit) × Unit) × Unit)
def slices_ContainsFunc_int64_int64_2.f (k : Nat) (a0 : List Int) (a1 : Int) : Option slices_ContainsFunc_int64_int64_2.R := Option.bind (slices_IndexFunc_int64_int64_2.f k a0 a1) fun r1 => some (((decide (0 ≤ r1.1.1.1), ()), ()), ())
def slices_ContainsFunc_int64_int64_2.s (k : Nat) : FS := ⟨[⟨false, [.lst (.int .i64)]⟩, ⟨false, [.fn 104 [(0, 0)]]⟩], [(0, .cbox [.int .i64])], false, [⟨false, [.bool]⟩], [], [], fun x => slices_ContainsFunc_int64_int64_2.f k x.1.1.1 x.2.1.1⟩
def slices_ContainsFunc_int64_int64_2.E (k : Nat) : Ents := [(⟨60, [104]⟩, slices_IndexFunc_int64_int64_2.s k)]
def slices_ContainsFunc_int64_int64_2.L : List (LS slices_ContainsFunc_int64_int64_2.R) := []
def slices_ContainsFunc_int64_int64_2.c : Code := Tryz.f35.body.getD .skip
theorem slices_ContainsFunc_int64_int64_2.eq (k : Nat) (x) : (slices_ContainsFunc_int64_int64_2.s k).pf x = execF tab (slices_ContainsFunc_int64_int64_2.E k) Tryz.f35 slices_ContainsFunc_int64_int64_2.c (slices_ContainsFunc_int64_int64_2.s k) slices_ContainsFunc_int64_int64_2.L x := by kernel_rfl
theorem slices_ContainsFunc_int64_int64_2.sound : ∀ k, Sound Tryz.prog 35 (slices_ContainsFunc_int64_int64_2.s k) := sound_of mixed tab_ok (f := 35) (fn := Tryz.f35) (c := slices_ContainsFunc_int64_int64_2.c) (by kernel_rfl) (by kernel_rfl) (by kernel_rfl) ⟨[⟨false, [.lst (.int .i64)]⟩, ⟨false, [.fn 104 [(0, 0)]]⟩], [(0, .cbox [.int .i64])], false, [⟨false, [.bool]⟩], [], []⟩ (by kernel_rfl) (by kernel_rfl) (fun k => (slices_ContainsFunc_int64_int64_2.s k).pf) slices_ContainsFunc_int64_int64_2.E (fun k => (EntsOK.cons (slices_IndexFunc_int64_int64_2.sound k) EntsOK.nil)) (fun k => slices_ContainsFunc_int64_int64_2.L) (fun k => trivial) trivial (fun k => trivial) slices_ContainsFunc_int64_int64_2.eq
end
end Go.Proofs.YtkfehogikjcgkaaGreat.V
namespace Go.Proofs.YtkfehogikjcgkaaGreat.V
open Go
set_option linter.unusedVariables false
noncomputable section
/-! ### impl.isFunc$2: function 103 -/
abbrev impl_isFunc_2.R := (((Bool × Unit) × Unit) × Unit)
def impl_isFunc_2.f (k : Nat) (a0 : tPhiD) (a1 : Int) : Option impl_isFunc_2.R := Option.bind (impl_WidthOk.f k a0.1) fun r1 => bif !r1.1.1.1 then (some (((true, ()), ()), ())) else (bif decide (10 < ((List.length a0.2.1 : Nat) : Int)) then (some (((true, ()), ()), ())) else (Option.bind (slices_ContainsFunc_int64_int64_2.f k a0.2.1 a1) fun r2 => some (((r2.1.1.1, ()), ()), ())))
def impl_isFunc_2.s (k : Nat) : FS := ⟨[⟨true, [.int .i64, .lst (.int .i64)]⟩, ⟨false, [.ptr 0 0]⟩], [(0, .cbox [.int .i64])], false, [⟨false, [.bool]⟩], [], [], fun x => impl_isFunc_2.f k x.1.1 x.2.1.1⟩
def impl_isFunc_2.E (k : Nat) : Ents := [(⟨100, []⟩, impl_WidthOk.s k), (⟨35, [104]⟩, slices_ContainsFunc_int64_int64_2.s k)]
def impl_isFunc_2.L : List (LS impl_isFunc_2.R) := []
def impl_isFunc_2.c : Code := Tryz.f103.body.getD .skip
theorem impl_isFunc_2.eq (k : Nat) (x) : (impl_isFunc_2.s k).pf x = execF tab (impl_isFunc_2.E k) Tryz.f103 impl_isFunc_2.c (impl_isFunc_2.s k) impl_isFunc_2.L x := by kernel_rfl
theorem impl_isFunc_2.sound : ∀ k, Sound Tryz.prog 103 (impl_isFunc_2.s k) := sound_of mixed tab_ok (f := 103) (fn := Tryz.f103) (c := impl_isFunc_2.c) (by kernel_rfl) (by kernel_rfl) (by kernel_rfl) ⟨[⟨true, [.int .i64, .lst (.int .i64)]⟩, ⟨false, [.ptr 0 0]⟩], [(0, .cbox [.int .i64])], false, [⟨false, [.bool]⟩], [], []⟩ (by kernel_rfl) (by kernel_rfl) (fun k => (impl_isFunc_2.s k).pf) impl_isFunc_2.E (fun k => (EntsOK.cons (impl_WidthOk.sound k) (EntsOK.cons (slices_ContainsFunc_int64_int64_2.sound k) EntsOK.nil))) (fun k => impl_isFunc_2.L) (fun k => trivial) trivial (fun k => trivial) impl_isFunc_2.eq
end
end Go.Proofs.YtkfehogikjcgkaaGreat.V
namespace Go.Proofs.YtkfehogikjcgkaaGreat.V
open Go
set_option linter.unusedVariables false
noncomputable section
/-! ### slices.IndexFunc[[]impl.Phi,impl.Phi]: function 135 -/
abbrev slices_IndexFunc_impl_Phi_impl_Phi.R := (((Int × Unit) × Unit) × Unit)
def slices_IndexFunc_impl_Phi_impl_Phi.l0_ (k : Nat) (l0 : (List tPhiD) → Int → Int → Int → Option slices_IndexFunc_impl_Phi_impl_Phi.R) (a0 : List tPhiD) (a1 : Int) (a2 : Int) (a3 : Int) : Option slices_IndexFunc_impl_Phi_impl_Phi.R := bif decide (a2 < a1) then (bif (decide (0 ≤ a2)) && (decide (a2 < ((List.length a0 : Nat) : Int))) then (Option.bind (impl_isFunc_2.f k (List.getD a0 (Int.toNat a2) tPhiZ) a3) fun r1 => bif r1.1.1.1 then (some (((a2, ()), ()), ())) else (l0 a0 a1 (IntKind.wrap .i64 (a2 + 1)) a3)) else none) else (some (((-1, ()), ()), ()))
def slices_IndexFunc_impl_Phi_impl_Phi.all : Nat → ((List tPhiD) → Int → Int → Int → Option slices_IndexFunc_impl_Phi_impl_Phi.R) × Unit
  | 0 => (fun _ _ _ _ => none, ())
  | k + 1 => (slices_IndexFunc_impl_Phi_impl_Phi.l0_ k (slices_IndexFunc_impl_Phi_impl_Phi.all k).1, ())
def slices_IndexFunc_impl_Phi_impl_Phi.l0 (k : Nat) : (List tPhiD) → Int → Int → Int → Option slices_IndexFunc_impl_Phi_impl_Phi.R := (slices_IndexFunc_impl_Phi_impl_Phi.all k).1
def slices_IndexFunc_impl_Phi_impl_Phi.f (k : Nat) (a0 : List tPhiD) (a1 : Int) : Option slices_IndexFunc_impl_Phi_impl_Phi.R := slices_IndexFunc_impl_Phi_impl_Phi.l0 k a0 ((List.length a0 : Nat) : Int) 0 a1
def slices_IndexFunc_impl_Phi_impl_Phi.s (k : Nat) : FS := ⟨[⟨false, [.lst tPhi]⟩, ⟨false, [.fn 103 [(0, 0)]]⟩], [(0, .cbox [.int .i64])], false, [⟨false, [.int .i64]⟩], [], [], fun x => slices_IndexFunc_impl_Phi_impl_Phi.f k x.1.1.1 x.2.1.1⟩
def slices_IndexFunc_impl_Phi_impl_Phi.E (k : Nat) : Ents := [(⟨103, []⟩, impl_isFunc_2.s k)]
def slices_IndexFunc_impl_Phi_impl_Phi.L0 (l : (List tPhiD) → Int → Int → Int → Option slices_IndexFunc_impl_Phi_impl_Phi.R) : LS slices_IndexFunc_impl_Phi_impl_Phi.R := ⟨[], [(0, ⟨false, [.lst tPhi]⟩), (1, ⟨false, [.fn 103 [(0, 0)]]⟩), (7, ⟨false, [.int .i64]⟩), (8, ⟨false, [.int .i64]⟩)], [(0, .cbox [.int .i64])], fun x => l x.1.1.1 x.1.2.2.1.1 x.1.2.2.2.1.1 x.2.1.1⟩
def slices_IndexFunc_impl_Phi_impl_Phi.L (l0 : (List tPhiD) → Int → Int → Int → Option slices_IndexFunc_impl_Phi_impl_Phi.R) : List (LS slices_IndexFunc_impl_Phi_impl_Phi.R) := [slices_IndexFunc_impl_Phi_impl_Phi.L0 l0]
def slices_IndexFunc_impl_Phi_impl_Phi.c : Code := Tryz.f135.body.getD .skip
theorem slices_IndexFunc_impl_Phi_impl_Phi.eq (k : Nat) (x) : (slices_IndexFunc_impl_Phi_impl_Phi.s k).pf x = execF tab (slices_IndexFunc_impl_Phi_impl_Phi.E k) Tryz.f135 slices_IndexFunc_impl_Phi_impl_Phi.c (slices_IndexFunc_impl_Phi_impl_Phi.s k) (slices_IndexFunc_impl_Phi_impl_Phi.L (slices_IndexFunc_impl_Phi_impl_Phi.l0 k)) x := by kernel_rfl
theorem slices_IndexFunc_impl_Phi_impl_Phi.r0 (l0 : (List tPhiD) → Int → Int → Int → Option slices_IndexFunc_impl_Phi_impl_Phi.R) (k : Nat) (x) : slices_IndexFunc_impl_Phi_impl_Phi.l0_ k l0 x.1.1.1 x.1.2.2.1.1 x.1.2.2.2.1.1 x.2.1.1 = roundOf tab (slices_IndexFunc_impl_Phi_impl_Phi.E k) (slices_IndexFunc_impl_Phi_impl_Phi.L l0) slices_IndexFunc_impl_Phi_impl_Phi.c (fin tab Tryz.f135 (slices_IndexFunc_impl_Phi_impl_Phi.s k)) 0 (slices_IndexFunc_impl_Phi_impl_Phi.L0 l0) x := by kernel_rfl
theorem slices_IndexFunc_impl_Phi_impl_Phi.sound : ∀ k, Sound Tryz.prog 135 (slices_IndexFunc_impl_Phi_impl_Phi.s k) := sound_of mixed tab_ok (f := 135) (fn := Tryz.f135) (c := slices_IndexFunc_impl_Phi_impl_Phi.c) (by kernel_rfl) (by kernel_rfl) (by kernel_rfl) ⟨[⟨false, [.lst tPhi]⟩, ⟨false, [.fn 103 [(0, 0)]]⟩], [(0, .cbox [.int .i64])], false, [⟨false, [.int .i64]⟩], [], []⟩ (by kernel_rfl) (by kernel_rfl) (fun k => (slices_IndexFunc_impl_Phi_impl_Phi.s k).pf) slices_IndexFunc_impl_Phi_impl_Phi.E (fun k => (EntsOK.cons (impl_isFunc_2.sound k) EntsOK.nil)) (fun k => slices_IndexFunc_impl_Phi_impl_Phi.L (slices_IndexFunc_impl_Phi_impl_Phi.l0 k)) (fun k => ⟨rfl, trivial⟩) ⟨fun _ => rfl, trivial⟩ (fun k => ⟨⟨(slices_IndexFunc_impl_Phi_impl_Phi.L0 (slices_IndexFunc_impl_Phi_impl_Phi.l0 (k + 1))).l, rfl, fun x => slices_IndexFunc_impl_Phi_impl_Phi.r0 (slices_IndexFunc_impl_Phi_impl_Phi.l0 k) k x⟩, trivial⟩) slices_IndexFunc_impl_Phi_impl_Phi.eq
end
end Go.Proofs.YtkfehogikjcgkaaGreat.V
namespace Go.Proofs.YtkfehogikjcgkaaGreat.V
open Go
set_option linter.unusedVariables false
noncomputable section
/-! ### slices.ContainsFunc[[]impl.Phi,impl.Phi]: function 102 -/
abbrev slices_ContainsFunc_impl_Phi_impl_Phi.R := (((Bool × Unit) × Unit) × Unit)
def slices_ContainsFunc_impl_Phi_impl_Phi.f (k : Nat) (a0 : List tPhiD) (a1 : Int) : Option slices_ContainsFunc_impl_Phi_impl_Phi.R := Option.bind (slices_IndexFunc_impl_Phi_impl_Phi.f k a0 a1) fun r1 => some (((decide (0 ≤ r1.1.1.1), ()), ()), ())
def slices_ContainsFunc_impl_Phi_impl_Phi.s (k : Nat) : FS := ⟨[⟨false, [.lst tPhi]⟩, ⟨false, [.fn 103 [(0, 0)]]⟩], [(0, .cbox [.int .i64])], false, [⟨false, [.bool]⟩], [], [], fun x => slices_ContainsFunc_impl_Phi_impl_Phi.f k x.1.1.1 x.2.1.1⟩
def slices_ContainsFunc_impl_Phi_impl_Phi.E (k : Nat) : Ents := [(⟨135, [103]⟩, slices_IndexFunc_impl_Phi_impl_Phi.s k)]
def slices_ContainsFunc_impl_Phi_impl_Phi.L : List (LS slices_ContainsFunc_impl_Phi_impl_Phi.R) := []
def slices_ContainsFunc_impl_Phi_impl_Phi.c : Code := Tryz.f102.body.getD .skip
theorem slices_ContainsFunc_impl_Phi_impl_Phi.eq (k : Nat) (x) : (slices_ContainsFunc_impl_Phi_impl_Phi.s k).pf x = execF tab (slices_ContainsFunc_impl_Phi_impl_Phi.E k) Tryz.f102 slices_ContainsFunc_impl_Phi_impl_Phi.c (slices_ContainsFunc_impl_Phi_impl_Phi.s k) slices_ContainsFunc_impl_Phi_impl_Phi.L x := by kernel_rfl
theorem slices_ContainsFunc_impl_Phi_impl_Phi.sound : ∀ k, Sound Tryz.prog 102 (slices_ContainsFunc_impl_Phi_impl_Phi.s k) := sound_of mixed tab_ok (f := 102) (fn := Tryz.f102) (c := slices_ContainsFunc_impl_Phi_impl_Phi.c) (by kernel_rfl) (by kernel_rfl) (by kernel_rfl) ⟨[⟨false, [.lst tPhi]⟩, ⟨false, [.fn 103 [(0, 0)]]⟩], [(0, .cbox [.int .i64])], false, [⟨false, [.bool]⟩], [], []⟩ (by kernel_rfl) (by kernel_rfl) (fun k => (slices_ContainsFunc_impl_Phi_impl_Phi.s k).pf) slices_ContainsFunc_impl_Phi_impl_Phi.E (fun k => (EntsOK.cons (slices_IndexFunc_impl_Phi_impl_Phi.sound k) EntsOK.nil)) (fun k => slices_ContainsFunc_impl_Phi_impl_Phi.L) (fun k => trivial) trivial (fun k => trivial) slices_ContainsFunc_impl_Phi_impl_Phi.eq
end
end Go.Proofs.YtkfehogikjcgkaaGreat.V
namespace Go.Proofs.YtkfehogikjcgkaaGreat.V
open Go
set_option linter.unusedVariables false
noncomputable section
/-! ### impl.isFunc$3: function 106 -/
abbrev impl_isFunc_3.R := (((Bool × Unit) × Unit) × Unit)
def impl_isFunc_3.f (k : Nat) (a0 : tInstD) (a1 : Int) (a2 : Int) : Option impl_isFunc_3.R := Option.bind (impl_isInst.f k a0 a1 a2) fun r1 => some (((!r1.1.1.1, ()), ()), ())
def impl_isFunc_3.s (k : Nat) : FS := ⟨[⟨true, [.int .i64, .int .i64, .int .i64, .int .i64, .int .i64, .int .i64, .lst (.int .i64)]⟩, ⟨false, [.ptr 0 0]⟩, ⟨false, [.ptr 1 0]⟩], [(0, .cbox [.int .i64]), (1, .cbox [.int .i64])], false, [⟨false, [.bool]⟩], [], [], fun x => impl_isFunc_3.f k x.1.1 x.2.1.1 x.2.2.1.1⟩
def impl_isFunc_3.E (k : Nat) : Ents := [(⟨45, []⟩, impl_isInst.s k)]
def impl_isFunc_3.L : List (LS impl_isFunc_3.R) := []
def impl_isFunc_3.c : Code := Tryz.f106.body.getD .skip
theorem impl_isFunc_3.eq (k : Nat) (x) : (impl_isFunc_3.s k).pf x = execF tab (impl_isFunc_3.E k) Tryz.f106 impl_isFunc_3.c (impl_isFunc_3.s k) impl_isFunc_3.L x := by kernel_rfl
theorem impl_isFunc_3.sound : ∀ k, Sound Tryz.prog 106 (impl_isFunc_3.s k) := sound_of mixed tab_ok (f := 106) (fn := Tryz.f106) (c := impl_isFunc_3.c) (by kernel_rfl) (by kernel_rfl) (by kernel_rfl) ⟨[⟨true, [.int .i64, .int .i64, .int .i64, .int .i64, .int .i64, .int .i64, .lst (.int .i64)]⟩, ⟨false, [.ptr 0 0]⟩, ⟨false, [.ptr 1 0]⟩], [(0, .cbox [.int .i64]), (1, .cbox [.int .i64])], false, [⟨false, [.bool]⟩], [], []⟩ (by kernel_rfl) (by kernel_rfl) (fun k => (impl_isFunc_3.s k).pf) impl_isFunc_3.E (fun k => (EntsOK.cons (impl_isInst.sound k) EntsOK.nil)) (fun k => impl_isFunc_3.L) (fun k => trivial) trivial (fun k => trivial) impl_isFunc_3.eq
end
end Go.Proofs.YtkfehogikjcgkaaGreat.V
namespace Go.Proofs.YtkfehogikjcgkaaGreat.V
open Go
set_option linter.unusedVariables false
noncomputable section
/-! ### slices.IndexFunc[[]impl.Inst,impl.Inst]: function 136 -/
abbrev slices_IndexFunc_impl_Inst_impl_Inst.R := (((Int × Unit) × Unit) × Unit)
def slices_IndexFunc_impl_Inst_impl_Inst.l0_ (k : Nat) (l0 : (List tInstD) → Int → Int → Int → Int → Option slices_IndexFunc_impl_Inst_impl_Inst.R) (a0 : List tInstD) (a1 : Int) (a2 : Int) (a3 : Int) (a4 : Int) : Option slices_IndexFunc_impl_Inst_impl_Inst.R := bif decide (a2 < a1) then (bif (decide (0 ≤ a2)) && (decide (a2 < ((List.length a0 : Nat) : Int))) then (Option.bind (impl_isFunc_3.f k (List.getD a0 (Int.toNat a2) tInstZ) a3 a4) fun r1 => bif r1.1.1.1 then (some (((a2, ()), ()), ())) else (l0 a0 a1 (IntKind.wrap .i64 (a2 + 1)) a3 a4)) else none) else (some (((-1, ()), ()), ()))
def slices_IndexFunc_impl_Inst_impl_Inst.all : Nat → ((List tInstD) → Int → Int → Int → Int → Option slices_IndexFunc_impl_Inst_impl_Inst.R) × Unit
  | 0 => (fun _ _ _ _ _ => none, ())
  | k + 1 => (slices_IndexFunc_impl_Inst_impl_Inst.l0_ k (slices_IndexFunc_impl_Inst_impl_Inst.all k).1, ())
def slices_IndexFunc_impl_Inst_impl_Inst.l0 (k : Nat) : (List tInstD) → Int → Int → Int → Int → Option slices_IndexFunc_impl_Inst_impl_Inst.R := (slices_IndexFunc_impl_Inst_impl_Inst.all k).1
def slices_IndexFunc_impl_Inst_impl_Inst.f (k : Nat) (a0 : List tInstD) (a1 : Int) (a2 : Int) : Option slices_IndexFunc_impl_Inst_impl_Inst.R := slices_IndexFunc_impl_Inst_impl_Inst.l0 k a0 ((List.length a0 : Nat) : Int) 0 a1 a2
def slices_IndexFunc_impl_Inst_impl_Inst.s (k : Nat) : FS := ⟨[⟨false, [.lst tInst]⟩, ⟨false, [.fn 106 [(0, 0), (1, 0)]]⟩], [(0, .cbox [.int .i64]), (1, .cbox [.int .i64])], false, [⟨false, [.int .i64]⟩], [], [], fun x => slices_IndexFunc_impl_Inst_impl_Inst.f k x.1.1.1 x.2.1.1 x.2.2.1.1⟩
def slices_IndexFunc_impl_Inst_impl_Inst.E (k : Nat) : Ents := [(⟨106, []⟩, impl_isFunc_3.s k)]
def slices_IndexFunc_impl_Inst_impl_Inst.L0 (l : (List tInstD) → Int → Int → Int → Int → Option slices_IndexFunc_impl_Inst_impl_Inst.R) : LS slices_IndexFunc_impl_Inst_impl_Inst.R := ⟨[], [(0, ⟨false, [.lst tInst]⟩), (1, ⟨false, [.fn 106 [(0, 0), (1, 0)]]⟩), (7, ⟨false, [.int .i64]⟩), (8, ⟨false, [.int .i64]⟩)], [(0, .cbox [.int .i64]), (1, .cbox [.int .i64])], fun x => l x.1.1.1 x.1.2.2.1.1 x.1.2.2.2.1.1 x.2.1.1 x.2.2.1.1⟩
def slices_IndexFunc_impl_Inst_impl_Inst.L (l0 : (List tInstD) → Int → Int → Int → Int → Option slices_IndexFunc_impl_Inst_impl_Inst.R) : List (LS slices_IndexFunc_impl_Inst_impl_Inst.R) := [slices_IndexFunc_impl_Inst_impl_Inst.L0 l0]
def slices_IndexFunc_impl_Inst_impl_Inst.c : Code := Tryz.f136.body.getD .skip
theorem slices_IndexFunc_impl_Inst_impl_Inst.eq (k : Nat) (x) : (slices_IndexFunc_impl_Inst_impl_Inst.s k).pf x = execF tab (slices_IndexFunc_impl_Inst_impl_Inst.E k) Tryz.f136 slices_IndexFunc_impl_Inst_impl_Inst.c (slices_IndexFunc_impl_Inst_impl_Inst.s k) (slices_IndexFunc_impl_Inst_impl_Inst.L (slices_IndexFunc_impl_Inst_impl_Inst.l0 k)) x := by kernel_rfl
theorem slices_IndexFunc_impl_Inst_impl_Inst.r0 (l0 : (List tInstD) → Int → Int → Int → Int → Option slices_IndexFunc_impl_Inst_impl_Inst.R) (k : Nat) (x) : slices_IndexFunc_impl_Inst_impl_Inst.l0_ k l0 x.1.1.1 x.1.2.2.1.1 x.1.2.2.2.1.1 x.2.1.1 x.2.2.1.1 = roundOf tab (slices_IndexFunc_impl_Inst_impl_Inst.E k) (slices_IndexFunc_impl_Inst_impl_Inst.L l0) slices_IndexFunc_impl_Inst_impl_Inst.c (fin tab Tryz.f136 (slices_IndexFunc_impl_Inst_impl_Inst.s k)) 0 (slices_IndexFunc_impl_Inst_impl_Inst.L0 l0) x := by kernel_rfl
theorem slices_IndexFunc_impl_Inst_impl_Inst.sound : ∀ k, Sound Tryz.prog 136 (slices_IndexFunc_impl_Inst_impl_Inst.s k) := sound_of mixed tab_ok (f := 136) (fn := Tryz.f136) (c := slices_IndexFunc_impl_Inst_impl_Inst.c) (by kernel_rfl) (by kernel_rfl) (by kernel_rfl) ⟨[⟨false, [.lst tInst]⟩, ⟨false, [.fn 106 [(0, 0), (1, 0)]]⟩], [(0, .cbox [.int .i64]), (1, .cbox [.int .i64])], false, [⟨false, [.int .i64]⟩], [], []⟩ (by kernel_rfl) (by kernel_rfl) (fun k => (slices_IndexFunc_impl_Inst_impl_Inst.s k).pf) slices_IndexFunc_impl_Inst_impl_Inst.E (fun k => (EntsOK.cons (impl_isFunc_3.sound k) EntsOK.nil)) (fun k => slices_IndexFunc_impl_Inst_impl_Inst.L (slices_IndexFunc_impl_Inst_impl_Inst.l0 k)) (fun k => ⟨rfl, trivial⟩) ⟨fun _ => rfl, trivial⟩ (fun k => ⟨⟨(slices_IndexFunc_impl_Inst_impl_Inst.L0 (slices_IndexFunc_impl_Inst_impl_Inst.l0 (k + 1))).l, rfl, fun x => slices_IndexFunc_impl_Inst_impl_Inst.r0 (slices_IndexFunc_impl_Inst_impl_Inst.l0 k) k x⟩, trivial⟩) slices_IndexFunc_impl_Inst_impl_Inst.eq
end
end Go.Proofs.YtkfehogikjcgkaaGreat.V
namespace Go.Proofs.YtkfehogikjcgkaaGreat.V
open Go
set_option linter.unusedVariables false
noncomputable section
/-! ### slices.ContainsFunc[[]impl.Inst,impl.Inst]: function 105 -/
abbrev slices_ContainsFunc_impl_Inst_impl_Inst.R := (((Bool × Unit) × Unit) × Unit)
def slices_ContainsFunc_impl_Inst_impl_Inst.f (k : Nat) (a0 : List tInstD) (a1 : Int) (a2 : Int) : Option slices_ContainsFunc_impl_Inst_impl_Inst.R := Option.bind (slices_IndexFunc_impl_Inst_impl_Inst.f k a0 a1 a2) fun r1 => some (((decide (0 ≤ r1.1.1.1), ()), ()), ())
def slices_ContainsFunc_impl_Inst_impl_Inst.s (k : Nat) : FS := ⟨[⟨false, [.lst tInst]⟩, ⟨false, [.fn 106 [(0, 0), (1, 0)]]⟩], [(0, .cbox [.int .i64]), (1, .cbox [.int .i64])], false, [⟨false, [.bool]⟩], [], [], fun x => slices_ContainsFunc_impl_Inst_impl_Inst.f k x.1.1.1 x.2.1.1 x.2.2.1.1⟩
def slices_ContainsFunc_impl_Inst_impl_Inst.E (k : Nat) : Ents := [(⟨136, [106]⟩, slices_IndexFunc_impl_Inst_impl_Inst.s k)]
def slices_ContainsFunc_impl_Inst_impl_Inst.L : List (LS slices_ContainsFunc_impl_Inst_impl_Inst.R) := []
def slices_ContainsFunc_impl_Inst_impl_Inst.c : Code := Tryz.f105.body.getD .skip
theorem slices_ContainsFunc_impl_Inst_impl_Inst.eq (k : Nat) (x) : (slices_ContainsFunc_impl_Inst_impl_Inst.s k).pf x = execF tab (slices_ContainsFunc_impl_Inst_impl_Inst.E k) Tryz.f105 slices_ContainsFunc_impl_Inst_impl_Inst.c (slices_ContainsFunc_impl_Inst_impl_Inst.s k) slices_ContainsFunc_impl_Inst_impl_Inst.L x := by kernel_rfl
theorem slices_ContainsFunc_impl_Inst_impl_Inst.sound : ∀ k, Sound Tryz.prog 105 (slices_ContainsFunc_impl_Inst_impl_Inst.s k) := sound_of mixed tab_ok (f := 105) (fn := Tryz.f105) (c := slices_ContainsFunc_impl_Inst_impl_Inst.c) (by kernel_rfl) (by kernel_rfl) (by kernel_rfl) ⟨[⟨false, [.lst tInst]⟩, ⟨false, [.fn 106 [(0, 0), (1, 0)]]⟩], [(0, .cbox [.int .i64]), (1, .cbox [.int .i64])], false, [⟨false, [.bool]⟩], [], []⟩ (by kernel_rfl) (by kernel_rfl) (fun k => (slices_ContainsFunc_impl_Inst_impl_Inst.s k).pf) slices_ContainsFunc_impl_Inst_impl_Inst.E (fun k => (EntsOK.cons (slices_IndexFunc_impl_Inst_impl_Inst.sound k) EntsOK.nil)) (fun k => slices_ContainsFunc_impl_Inst_impl_Inst.L) (fun k => trivial) trivial (fun k => trivial) slices_ContainsFunc_impl_Inst_impl_Inst.eq
end
end Go.Proofs.YtkfehogikjcgkaaGreat.V
namespace Go.Proofs.YtkfehogikjcgkaaGreat.V
open Go
set_option linter.unusedVariables false
noncomputable section
/-! ### impl.isTerm$1: function 137 -/
abbrev impl_isTerm_1.R := (((Bool × Unit) × Unit) × Unit)
def impl_isTerm_1.f (k : Nat) (a0 : Int) (a1 : tFuncD) : Option impl_isTerm_1.R := Option.bind (impl_within.f k a0 0 (IntKind.wrap .i64 (((List.length a1.2.2.1 : Nat) : Int) - 1))) fun r1 => some (((r1.1.1.1, ()), ()), ())
def impl_isTerm_1.s (k : Nat) : FS := ⟨[⟨false, [.int .i64]⟩, ⟨false, [.ptr 0 0]⟩], [(0, .cbox [.lst (.int .i64), .int .i64, .lst tBlock])], false, [⟨false, [.bool]⟩], [], [], fun x => impl_isTerm_1.f k x.1.1.1 x.2.1⟩
def impl_isTerm_1.E (k : Nat) : Ents := [(⟨58, []⟩, impl_within.s k)]
def impl_isTerm_1.L : List (LS impl_isTerm_1.R) := []
def impl_isTerm_1.c : Code := Tryz.f137.body.getD .skip
theorem impl_isTerm_1.eq (k : Nat) (x) : (impl_isTerm_1.s k).pf x = execF tab (impl_isTerm_1.E k) Tryz.f137 impl_isTerm_1.c (impl_isTerm_1.s k) impl_isTerm_1.L x := by kernel_rfl
theorem impl_isTerm_1.sound : ∀ k, Sound Tryz.prog 137 (impl_isTerm_1.s k) := sound_of mixed tab_ok (f := 137) (fn := Tryz.f137) (c := impl_isTerm_1.c) (by kernel_rfl) (by kernel_rfl) (by kernel_rfl) ⟨[⟨false, [.int .i64]⟩, ⟨false, [.ptr 0 0]⟩], [(0, .cbox [.lst (.int .i64), .int .i64, .lst tBlock])], false, [⟨false, [.bool]⟩], [], []⟩ (by kernel_rfl) (by kernel_rfl) (fun k => (impl_isTerm_1.s k).pf) impl_isTerm_1.E (fun k => (EntsOK.cons (impl_within.sound k) EntsOK.nil)) (fun k => impl_isTerm_1.L) (fun k => trivial) trivial (fun k => trivial) impl_isTerm_1.eq
end
end Go.Proofs.YtkfehogikjcgkaaGreat.V
namespace Go.Proofs.YtkfehogikjcgkaaGreat.V
open Go
set_option linter.unusedVariables false
noncomputable section
/-! ### impl.isTerm: function 107 -/
abbrev impl_isTerm.R := (((Bool × Unit) × Unit) × Unit)
def impl_isTerm.f (k : Nat) (a0 : tFuncD) (a1 : tTermD) (a2 : Int) : Option impl_isTerm.R := bif decide (a1.1 = 1) then (Option.bind (impl_within.f k a1.2.1 0 (IntKind.wrap .i64 (a2 - 1))) fun r1 => bif r1.1.1.1 then (bif decide (a1.2.2.1 = 0) then (some (((decide (a1.2.2.2.1 = 0), ()), ()), ())) else (some (((false, ()), ()), ()))) else (some (((false, ()), ()), ()))) else (bif decide (a1.1 = 2) then (bif decide (a1.2.1 = 0) then (Option.bind (impl_isTerm_1.f k a1.2.2.1 a0) fun r2 => bif r2.1.1.1 then (some (((decide (a1.2.2.2.1 = 0), ()), ()), ())) else (some (((false, ()), ()), ()))) else (some (((false, ()), ()), ()))) else (bif decide (a1.1 = 3) then (Option.bind (impl_within.f k a1.2.1 0 (IntKind.wrap .i64 (a2 - 1))) fun r3 => bif r3.1.1.1 then (Option.bind (impl_isTerm_1.f k a1.2.2.1 a0) fun r4 => bif r4.1.1.1 then (Option.bind (impl_isTerm_1.f k a1.2.2.2.1 a0) fun r5 => bif r5.1.1.1 then (some (((!decide (a1.2.2.1 = a1.2.2.2.1), ()), ()), ())) else (some (((false, ()), ()), ()))) else (some (((false, ()), ()), ()))) else (some (((false, ()), ()), ()))) else (bif decide (a1.1 = 4) then (bif decide (a1.2.1 = 0) then (bif decide (a1.2.2.1 = 0) then (some (((decide (a1.2.2.2.1 = 0), ()), ()), ())) else (some (((false, ()), ()), ()))) else (some (((false, ()), ()), ()))) else (some (((false, ()), ()), ())))))
def impl_isTerm.s (k : Nat) : FS := ⟨[⟨true, [.lst (.int .i64), .int .i64, .lst tBlock]⟩, ⟨true, [.int .i64, .int .i64, .int .i64, .int .i64]⟩, ⟨false, [.int .i64]⟩], [], false, [⟨false, [.bool]⟩], [], [], fun x => impl_isTerm.f k x.1.1 x.1.2.1 x.1.2.2.1.1⟩
def impl_isTerm.E (k : Nat) : Ents := [(⟨58, []⟩, impl_within.s k), (⟨137, []⟩, impl_isTerm_1.s k)]
def impl_isTerm.L : List (LS impl_isTerm.R) := []
def impl_isTerm.c : Code := Tryz.f107.body.getD .skip
theorem impl_isTerm.eq (k : Nat) (x) : (impl_isTerm.s k).pf x = execF tab (impl_isTerm.E k) Tryz.f107 impl_isTerm.c (impl_isTerm.s k) impl_isTerm.L x := by kernel_rfl
theorem impl_isTerm.sound : ∀ k, Sound Tryz.prog 107 (impl_isTerm.s k) := sound_of mixed tab_ok (f := 107) (fn := Tryz.f107) (c := impl_isTerm.c) (by kernel_rfl) (by kernel_rfl) (by kernel_rfl) ⟨[⟨true, [.lst (.int .i64), .int .i64, .lst tBlock]⟩, ⟨true, [.int .i64, .int .i64, .int .i64, .int .i64]⟩, ⟨false, [.int .i64]⟩], [], false, [⟨false, [.bool]⟩], [], []⟩ (by kernel_rfl) (by kernel_rfl) (fun k => (impl_isTerm.s k).pf) impl_isTerm.E (fun k => (EntsOK.cons (impl_within.sound k) (EntsOK.cons (impl_isTerm_1.sound k) EntsOK.nil))) (fun k => impl_isTerm.L) (fun k => trivial) trivial (fun k => trivial) impl_isTerm.eq
end
end Go.Proofs.YtkfehogikjcgkaaGreat.V
