/- PROVED HERE: what the functions that the law FnExactInstText reaches do in memory, each as a plain Lean function, and what these tell: part 3 of 5 of the proof of that law; no condition beyond those written out at each theorem. -/
import Derived.Lib.SliceRun
import Derived.Shelf.LaysM
import Derived.Shelf.Strconv.Itoa4
import Derived.Shelf.Strings.Split
import Derived.Test.YtkfehogikjcgkaaDoorProg
import Derived.Deep.Slices
import Derived.ProofKit
import Derived.Test.YtkfehogikjcgkaaDoorZFnExactInstText0
import Derived.Test.YtkfehogikjcgkaaDoorZFnExactInstText1
namespace Go.Proofs.YtkfehogikjcgkaaDoor.V
open Go
set_option linter.unusedVariables false
set_option linter.unusedSimpArgs false
noncomputable section
section
variable {tab : Tab} {H H' : Heap}
theorem bind_sn {u u' : U} {j : Nat} {x : Option (Nat × Nat)} (h : u.bind j x = some u') : u'.sn = u.sn := by
 unfold U.bind at h
 split at h
 ·obtain ⟨h1, h2⟩ := bif_some h; simp only [Option.some.injEq] at h2; subst h2; rfl
 ·cases h
 ·obtain ⟨h1, h2⟩ := bif_some h; simp only [Option.some.injEq] at h2; subst h2; rfl
 ·simp only [Option.some.injEq] at h; subst h; rfl
theorem caps_sn : ∀ {l l' : List (Nat × Nat)} {u u' : U}, uniCaps u l l' = some u' → u'.sn = u.sn
 | [], [], u, u', h => by simp only [uniCaps, Option.some.injEq] at h; subst h; rfl
 | (j, off) :: l, (o, off') :: l', u, u', h => by
  simp only [uniCaps] at h
  obtain ⟨h1, h2⟩ := bif_some h
  obtain ⟨u1, h3, h4⟩ := Option.bind_eq_some_iff.1 h2
  exact (caps_sn h4).trans (bind_sn h3)
 | [], _ :: _, u, u', h => by simp [uniCaps] at h
 | _ :: _, [], u, u', h => by simp [uniCaps] at h
theorem uniC_sn {u u' : U} {c : CS} {v : C} {x : c.Den} (h : uniC H u c v = some (x, u')) (hr : Rows H u.sn) : Rows H u'.sn := by
 cases c with
 | lst t =>
  simp only [uniC, Option.map_eq_some_iff, Prod.mk.injEq] at h
  obtain ⟨y, hy, _, rfl⟩ := h
  exact (lcO_rows hy).app hr
 | own j =>
  cases v with
  | nil =>
   simp only [uniC, Option.map_eq_some_iff] at h
   obtain ⟨u1, h1, h⟩ := h
   cases h
   rw [bind_sn h1]; exact hr
  | own o e off =>
   simp only [uniC] at h
   split at h
   ·obtain ⟨_, h⟩ := bif_some h
    simp only [Option.map_eq_some_iff] at h
    obtain ⟨u1, h1, h⟩ := h
    cases h
    rw [bind_sn h1]; exact hr
   ·obtain ⟨_, h⟩ := bif_some h
    simp only [Option.map_eq_some_iff] at h
    obtain ⟨u1, h1, h⟩ := h
    cases h
    rw [bind_sn h1]; exact hr
   ·cases h
  | _ => simp [uniC] at h
 | ptr j off =>
  cases v <;> simp only [uniC, reduceCtorEq] at h
  obtain ⟨_, h⟩ := bif_some h
  simp only [Option.map_eq_some_iff] at h
  obtain ⟨u1, h1, h⟩ := h
  cases h
  rw [bind_sn h1]; exact hr
 | fn f caps =>
  cases v <;> simp only [uniC, reduceCtorEq] at h
  obtain ⟨_, h⟩ := bif_some h
  simp only [Option.map_eq_some_iff] at h
  obtain ⟨u1, h1, h⟩ := h
  cases h
  rw [caps_sn h1]; exact hr
 | prs l =>
  cases v <;> simp only [uniC, reduceCtorEq] at h
  simp only [Option.map_eq_some_iff] at h
  obtain ⟨u1, h1, h⟩ := h
  cases h
  rw [caps_sn h1]; exact hr
 | nilc => cases v <;> simp only [uniC, reduceCtorEq, Option.some.injEq, Prod.mk.injEq] at h; obtain ⟨_, rfl⟩ := h; exact hr
 | ownq j =>
  cases v with
  | nil => simp only [uniC, Option.some.injEq, Prod.mk.injEq] at h; obtain ⟨_, rfl⟩ := h; exact hr
  | own o e off =>
   simp only [uniC] at h
   split at h
   ·obtain ⟨_, h⟩ := bif_some h
    simp only [Option.map_eq_some_iff] at h
    obtain ⟨u1, h1, h⟩ := h
    cases h
    rw [bind_sn h1]; exact hr
   ·cases h
  | _ => simp [uniC] at h
 | int k => cases v <;> simp only [uniC, reduceCtorEq] at h; obtain ⟨_, h⟩ := bif_some h; simp only [Option.some.injEq, Prod.mk.injEq] at h; obtain ⟨_, rfl⟩ := h; exact hr
 | bool => cases v <;> simp only [uniC, reduceCtorEq, Option.some.injEq, Prod.mk.injEq] at h; obtain ⟨_, rfl⟩ := h; exact hr
 | str => cases v <;> simp only [uniC, reduceCtorEq, Option.some.injEq, Prod.mk.injEq] at h; obtain ⟨_, rfl⟩ := h; exact hr
 | nilp => cases v <;> simp only [uniC, reduceCtorEq, Option.some.injEq, Prod.mk.injEq] at h; obtain ⟨_, rfl⟩ := h; exact hr
theorem uniL_sn : ∀ {cs : List CS} {vs : List C} {u u' : U} {x : DenL cs}, uniL H cs vs u = some (x, u') → Rows H u.sn → Rows H u'.sn
 | [], [], u, u', x, h, hr => by simp only [uniL, Option.some.injEq, Prod.mk.injEq] at h; obtain ⟨_, rfl⟩ := h; exact hr
 | c :: cs, v :: vs, u, u', x, h, hr => by
  simp only [uniL] at h
  obtain ⟨⟨x1, u1⟩, h1, h2⟩ := Option.bind_eq_some_iff.1 h
  simp only [Option.map_eq_some_iff, Prod.mk.injEq] at h2
  obtain ⟨⟨x2, u2⟩, h3, _, rfl⟩ := h2
  exact uniL_sn h3 (uniC_sn h1 hr)
 | [], _ :: _, u, u', x, h, _ => by simp [uniL] at h
 | _ :: _, [], u, u', x, h, _ => by simp [uniL] at h
theorem uniV_sn : ∀ {vs : List VS} {l : List V} {u u' : U} {x : DenV vs}, uniV H vs l u = some (x, u') → Rows H u.sn → Rows H u'.sn
 | [], [], u, u', x, h, hr => by simp only [uniV, Option.some.injEq, Prod.mk.injEq] at h; obtain ⟨_, rfl⟩ := h; exact hr
 | v :: vs, .val a cs :: l, u, u', x, h, hr => by
  simp only [uniV] at h
  obtain ⟨h0, h⟩ := bif_some h
  obtain ⟨⟨x1, u1⟩, h1, h2⟩ := Option.bind_eq_some_iff.1 h
  simp only [Option.map_eq_some_iff, Prod.mk.injEq] at h2
  obtain ⟨⟨x2, u2⟩, h3, _, rfl⟩ := h2
  exact uniV_sn h3 (uniL_sn h1 hr)
 | [], _ :: _, u, u', x, h, _ => by simp [uniV] at h
 | _ :: _, [], u, u', x, h, _ => by simp [uniV] at h
 | _ :: _, .tup _ :: _, u, u', x, h, _ => by simp [uniV] at h
 | _ :: _, .x :: _, u, u', x, h, _ => by simp [uniV] at h
theorem uniO_sn {u u' : U} {o : OS} {m : Option (Nat × Nat)} {x : o.Den} (h : uniO H u o m = some (x, u')) (hr : Rows H u.sn) : Rows H u'.sn := by
 cases o with
 | row d t =>
  cases m with
  | none => simp only [uniO, Option.some.injEq, Prod.mk.injEq] at h; obtain ⟨_, rfl⟩ := h; exact hr
  | some p =>
   obtain ⟨k, off⟩ := p
   simp only [uniO] at h
   split at h
   ·obtain ⟨_, h⟩ := bif_some h
    simp only [Option.map_eq_some_iff, Prod.mk.injEq] at h
    obtain ⟨_, _, _, rfl⟩ := h
    exact hr
   ·cases h
 | box cs =>
  match m, h with
  | none, h => simp [uniO] at h
  | some (k, n + 1), h => simp [uniO] at h
  | some (k, 0), h =>
   cases hk : H.at k with
   | none => simp [uniO, hk] at h
   | some ob =>
    cases ob with
    | box vs => simp only [uniO, hk] at h; exact uniL_sn (x := x) h hr
    | _ => simp [uniO, hk] at h
 | cbox cs =>
  match m, h with
  | none, h => simp [uniO] at h
  | some (k, n + 1), h => simp [uniO] at h
  | some (k, 0), h =>
   cases hk : H.at k with
   | none => simp [uniO, hk] at h
   | some ob =>
    cases ob with
    | box vs => simp only [uniO, hk] at h; exact uniL_sn (x := x) h hr
    | cbox vs => simp only [uniO, hk] at h; exact uniL_sn (x := x) h hr
    | _ => simp [uniO, hk] at h
 | bld ty el =>
  match m, h with
  | none, h => simp [uniO] at h
  | some (k, n + 1), h => simp [uniO] at h
  | some (k, 0), h =>
   cases hk : H.at k with
   | none => simp [uniO, hk] at h
   | some ob =>
    cases ob with
    | bld ty' el' s =>
     simp only [uniO, hk] at h
     obtain ⟨_, h2⟩ := bif_some h
     simp only [Option.some.injEq, Prod.mk.injEq] at h2
     obtain ⟨_, rfl⟩ := h2
     exact hr
    | _ => simp [uniO, hk] at h
 | orow t cs =>
  match m, h with
  | none, h => simp [uniO] at h
  | some (k, n + 1), h => simp [uniO] at h
  | some (k, 0), h =>
   cases hk : H.at k with
   | none => simp [uniO, hk] at h
   | some ob =>
    cases ob with
    | orow t' e xs i vs =>
     simp only [uniO, hk] at h
     obtain ⟨ys, h1, h2⟩ := Option.bind_eq_some_iff.1 h
     simp only [Option.map_eq_some_iff, Prod.mk.injEq] at h2
     obtain ⟨⟨z, u2⟩, h3, rfl, rfl⟩ := h2
     exact uniL_sn h3 hr
    | _ => simp [uniO, hk] at h
theorem uniOs_sn : ∀ {os : List (Nat × OS)} {u u' : U} {x : DenO os}, uniOs H os u = some (x, u') → Rows H u.sn → Rows H u'.sn
 | [], u, u', x, h, hr => by simp only [uniOs, Option.some.injEq, Prod.mk.injEq] at h; obtain ⟨_, rfl⟩ := h; exact hr
 | (i, o) :: os, u, u', x, h, hr => by
  simp only [uniOs] at h
  split at h
  ·obtain ⟨⟨x1, u1⟩, h1, h2⟩ := Option.bind_eq_some_iff.1 h
   simp only [Option.map_eq_some_iff, Prod.mk.injEq] at h2
   obtain ⟨⟨x2, u2⟩, h3, _, rfl⟩ := h2
   exact uniOs_sn h3 (uniO_sn h1 hr)
  ·cases h
theorem uni_sn {vs : List VS} {os : List (Nat × OS)} {l : List V} {u0 u : U} {x : DenV vs × DenO os} (h : uni H vs os l u0 = some (x, u)) (hr : Rows H u0.sn) : Rows H u.sn := by
 unfold uni at h
 obtain ⟨⟨x1, u1⟩, h1, h2⟩ := Option.bind_eq_some_iff.1 h
 obtain ⟨⟨x2, u2⟩, h3, h4⟩ := Option.bind_eq_some_iff.1 h2
 obtain ⟨h5, h6⟩ := bif_some h4
 simp only [Option.some.injEq, Prod.mk.injEq] at h6
 obtain ⟨_, rfl⟩ := h6
 exact uniOs_sn h3 (uniV_sn h1 hr)
end
section
variable {tab : Tab} {H H' : Heap} {k0 : Nat} {u : U} {keep : List Nat}
theorem epoch_mono (hS : Sub H H') (hm : ∀ j k off, get u.mu j = some (some (k, off)) → ∃ ob, H.at k = some ob) (j : Nat) : backEpoch H' k0 u keep j = backEpoch H k0 u keep j := by
 unfold backEpoch
 cases Nat.ble 100 j with
 | true => rfl
 | false =>
  simp only [cond_false]
  split
  ·rename_i o off hj
   obtain ⟨ob, hk⟩ := hm j o off hj
   simp only [epochAt, hk, hS _ _ hk]
  ·rfl
theorem backC_mono (he : ∀ j, backEpoch H' k0 u keep j = backEpoch H k0 u keep j) : backC H' k0 u keep = backC H k0 u keep := by
 funext c
 cases c <;> simp only [backC, he]
theorem backHeap_mono (he : ∀ j, backEpoch H' k0 u keep j = backEpoch H k0 u keep j) : ∀ (T : Heap), backHeap H' k0 u keep T = backHeap H k0 u keep T
 | [] => rfl
 | (j, none) :: l => by simp only [backHeap]; exact backHeap_mono he l
 | (j, some o) :: l => by
  simp only [backHeap, backHeap_mono he l]
  congr 3
  cases o <;> simp only [backObj, he, backC_mono he]
theorem stop_mono (hS : Sub H H') {k : Nat} {ob : Obj} (h : H.at k = some ob) : stop H' k = stop H k := by
 unfold stop
 rw [h, hS _ _ h]
 cases ob <;> first | rfl | exact freeze_mono hS h
theorem newOk_mono {s : FS} (hfr : ∀ i, i < 16 → fresh H (k0 + i) = true → fresh H' (k0 + i) = true) (h : newOk H k0 u s = true) : newOk H' k0 u s = true := by
 unfold newOk at h ⊢
 simp only [Bool.and_eq_true, List.all_eq_true] at h ⊢
 obtain ⟨⟨h1, h2⟩, h3⟩ := h
 refine ⟨⟨fun o ho => ?_, h2⟩, h3⟩
 obtain ⟨⟨⟨q1, q2⟩, q3⟩, q4⟩ := h1 o ho
 refine ⟨⟨⟨q1, q2⟩, ?_⟩, q4⟩
 cases hn : isNew u o.1 with
 | false => rfl
 | true =>
  simp only [hn, Bool.not_true, Bool.false_or] at q3 ⊢
  have hkey : ∃ i, i < 16 ∧ backKey k0 u o.1 = k0 + i := by
   simp only [labelOk, Bool.or_eq_true, Bool.and_eq_true] at q1
   unfold isNew at hn
   unfold backKey
   cases hb : Nat.ble 100 o.1 with
   | true =>
    rcases q1 with q1 | ⟨_, q1⟩
    ·have := blt_true q1; have := Nat.le_of_ble_eq_true hb; omega
    ·have := blt_true q1
     exact ⟨o.1 - 100, by omega, rfl⟩
   | false =>
    rcases q1 with q1 | ⟨q1, _⟩
    ·have := blt_true q1
     refine ⟨8 + o.1, by omega, ?_⟩
     simp only [hb, Bool.false_or] at hn
     simp only [cond_false]
     split
     ·rename_i o' off hm
      rw [hm] at hn
      cases hn
     ·omega
    ·rw [hb] at q1; cases q1
  obtain ⟨i, hi, he⟩ := hkey
  rw [he] at q3 ⊢
  exact hfr i hi q3
theorem callF_mono {R : Type} {E : Ents} {f : FuncId} {args : List V} {K : V → Heap → Option R} {r : R} (hS : Sub H H') (hfr : ∀ i, i < 16 → fresh H (k0 + i) = true → fresh H' (k0 + i) = true) (h : callF E H k0 f args K = some r) : callF E H' k0 f args K = some r := by
 unfold callF at h ⊢
 split at h
 ·cases h
 ·rename_i s hs
  split at h
  ·cases h
  ·rename_i x u hu
   obtain ⟨m1, m2⟩ := uni_mono hS hu
   obtain ⟨h1, h2⟩ := bif_some h
   simp only [Bool.and_eq_true] at h1
   have he := fun j => epoch_mono (k0 := k0) (keep := s.keep) hS m2 j
   have hsn := uni_sn hu (fun k hk => by simp at hk)
   simp only [m1, h1.1, newOk_mono hfr h1.2, Bool.and_self, cond_true]
   obtain ⟨y, h3, h4⟩ := Option.bind_eq_some_iff.1 h2
   rw [splitQ_eq] at h4
   rw [h3, Option.bind_some, splitQ_eq, backC_mono he, backHeap_mono he]
   have hst : (bif s.shares then (u.sn ++ cboxes s.io u).map fun k => (k, stop H' k) else []) = (bif s.shares then (u.sn ++ cboxes s.io u).map fun k => (k, stop H k) else []) := by
    cases s.shares with
    | false => rfl
    | true =>
     simp only [cond_true]
     refine List.map_congr_left fun k hk => ?_
     simp only [List.mem_append] at hk
     rcases hk with hk | hk
     ·obtain ⟨ob, hk⟩ := hsn.at hk
      rw [stop_mono hS hk]
     ·unfold cboxes at hk
      rw [List.mem_filterMap] at hk
      obtain ⟨⟨j, o⟩, q1, q2⟩ := hk
      obtain ⟨_, q2⟩ := bif_some q2
      split at q2
      ·rename_i k' off hm
       simp only [Option.some.injEq] at q2
       subst q2
       obtain ⟨ob, hk⟩ := m2 _ _ _ hm
       rw [stop_mono hS hk]
      ·cases q2
   rw [hst]
   exact h4
end
section
variable {tab : Tab} {E : Ents} {H H' : Heap} {o : Oper} {ρ ρ' : Operand → Option V}
theorem opv_look {k : Nat} (hk : lookKey ρ o = some k) (hS : ∀ ob, H.at k = some ob → H'.at k = some ob) {y : Bool × V × Heap} (h : opv tab H o ρ = some y) : opv tab H' o ρ = some y := by
 unfold lookKey at hk
 split at hk
 ·rename_i t x hop
  split at hk
  ·rename_i k' off hx
   simp only [Option.some.injEq] at hk
   subst hk
   simp only [opv, hop, hx, Option.bind_some] at h ⊢
   cases hH : H.at k' with
   | none => simp [behind, hH] at h
   | some ob =>
    have hb : behind H' (.ptr k' off) = behind H (.ptr k' off) := by simp only [behind, hH, hS _ hH]
    rw [hb]
    exact h
  ·cases hk
 ·rename_i s x f hop
  split at hk
  ·rename_i k' off hx
   simp only [Option.some.injEq] at hk
   subst hk
   simp only [opv, hop, hx] at h ⊢
   cases hH : H.at k' with
   | none =>
    have : isBoxAt H k' = false := by simp [isBoxAt, hH]
    split at h <;> simp_all
   | some ob =>
    have hb : isBoxAt H' k' = isBoxAt H k' := by simp only [isBoxAt, hH, hS _ hH]
    cases hf : ((get tab s).bind fun i => i.flds[f]?) with
    | none => simp [hf] at h
    | some p =>
     simp only [hf] at h ⊢
     rw [hb]
     exact h
  ·cases hk
 ·cases hk
theorem stepK_mono {R : Type} {K : V → Heap → Option R} {r : R} (hρ : ∀ x ∈ o.op.operands.toList, ρ' x = ρ x) (hH : touches o.op = true → Sub H H' ∨ ∃ k, lookKey ρ o = some k ∧ ∀ ob, H.at k = some ob → H'.at k = some ob) (hfr : ∀ i, i < 16 → fresh H (key0 o + i) = true → fresh H' (key0 o + i) = true) (h : stepK tab E H o ρ K = some r) : stepK tab E H' o ρ' K = some r := by
 unfold stepK at h
 split at h
 ·rename_i f args ts hop
  have hS : Sub H H' := (hH (by rw [hop]; rfl)).resolve_right (by rintro ⟨k, h1, _⟩; simp only [lookKey, hop] at h1; cases h1)
  rw [hop] at hρ
  have hops : (Op.call { callee := .value f, args := args, argTypes := ts }).operands.toList = f :: args.toList := by
   show (#[f] ++ args).toList = _
   simp
  rw [hops] at hρ
  have hf : ρ' f = ρ f := hρ f (by simp)
  have ha : evs ρ' args.toList = evs ρ args.toList := evs_congr fun x hx => hρ x (List.mem_cons_of_mem _ hx)
  split at h
  ·rename_i g caps vs h1 h2
   have e1 : stepK tab E H' o ρ' K = callF E H' (key0 o) g (vs ++ addCaps caps) K := by
    unfold stepK
    rw [hop]
    simp only []
    rw [hf, ha, h1, h2]
   rw [e1]
   exact callF_mono hS hfr h
  ·cases h
 ·rename_i hno
  have hpe : padOf o ρ' = padOf o ρ := by
   cases hop : o.op with
   | load t a =>
    rw [hop] at hρ
    simp only [padOf, hop, hρ a (by simp [Op.operands])]
   | _ => simp only [padOf, hop]
  split at h
  ·rename_i t l i hpad
   unfold stepK
   split
   ·rename_i f args ts hc
    exact (hno f args ts hc).elim
   ·rw [hpe, hpad]; exact h
  rename_i hpad
  split at h
  ·rename_i b v e hop
   have : opv tab H' o ρ = some (b, v, e) := by
    by_cases ht : touches o.op = true
    ·rcases hH ht with hS | ⟨k, hk, hS⟩
     ·exact opv_heap (tab := tab) (ρ := ρ) (hfr 0 (by omega)) (fun _ => hS) hop
     ·exact opv_look hk hS hop
    ·exact opv_heap (tab := tab) (ρ := ρ) (hfr 0 (by omega)) (fun h => (ht h).elim) hop
   rw [← opv_env (H := H') hρ] at this
   unfold stepK
   split
   ·rename_i f args ts hc
    exact (hno f args ts hc).elim
   ·rw [hpe, hpad]
    simp only [this]
    exact h
  ·cases h
end
section
variable {B : Base} {g : Gh} {env env' : Env} {H H' : Heap} {a : Act} {w : World}
/-- Two states in which the same is found. -/
def Same (H H' : Heap) : Prop := (∀ k, H'.at k = H.at k) ∧ ∀ k, known H' k ↔ known H k
theorem ge_same (h : Same H H') : Ge g H w g H' w :=
 ⟨fun o hk => (h.2 o).2 hk, fun o ob' hk ha hb => ⟨⟨ob', (h.1 o).symm.trans ha, hb⟩, rfl⟩, fun o ob' t e n hk ha hs => ⟨ob', (h.1 o).symm.trans ha, .inl ⟨hs, rfl⟩⟩, fun b hb => ⟨hb, rfl⟩, fun b cur e fr hb => ⟨cur, fr, hb, rfl⟩⟩
theorem Rel.congr (R : Rel B g env H a w) (hH : Same H H') (he : ∀ s v, get env' s = some v → get env s = some v) : Rel B g env' H' a w := by
 have G := ge_same (g := g) (w := w) hH
 exact { obj := fun o ob h => G.ro rfl (fun b hb => ⟨hb, rfl⟩) (R.obj o ob ((hH.1 o).symm.trans h)), ow := R.ow, F := R.F, lx := R.lx, env := fun s v h => G.rv (R.env s v (he s v h)), sz := R.sz, df := R.df, fr := R.fr, owB := R.owB, FB := R.FB, BF := R.BF, bs := R.bs,
         kp := fun j hj hlt ob t n h hs => R.kp j hj hlt ob t n ((hH.1 j).symm.trans h) hs, kd := fun j ob hlt h => R.kd j ob hlt ((hH.1 j).symm.trans h) }
end
/-- Record number i, the oldest first. -/
def recAt (recs : List Rec) (i : Nat) : Option Rec := recs.reverse[i]?
theorem recAt_cons (r : Rec) (l : List Rec) (i : Nat) : recAt (r :: l) i = if i = l.length then some r else recAt l i := by
 unfold recAt
 rw [List.reverse_cons]
 by_cases h : i = l.length
 ·subst h
  rw [if_pos rfl, List.getElem?_append_right (by simp)]
  simp
 ·rw [if_neg h]
  rcases Nat.lt_or_ge i l.length with h1 | h1
  ·rw [List.getElem?_append_left (by simpa using h1)]
  ·rw [List.getElem?_eq_none (by simp; omega), List.getElem?_eq_none (by simpa using h1)]
theorem recAt_lt {recs : List Rec} {i : Nat} {r : Rec} (h : recAt recs i = some r) : i < recs.length := by
 unfold recAt at h
 have := (List.getElem?_eq_some_iff.1 h).1
 simpa using this
/-- No two records set one slot. -/
def DstOK (recs : List Rec) : Prop := ∀ i j r s d, recAt recs i = some r → recAt recs j = some s → r.dst = some d → s.dst = some d → i = j
theorem DstOK.tail {r : Rec} {l : List Rec} (h : DstOK (r :: l)) : DstOK l := by
 intro i j a b d ha hb
 refine h i j a b d ?_ ?_
 ·rw [recAt_cons, if_neg (by have := recAt_lt ha; omega)]; exact ha
 ·rw [recAt_cons, if_neg (by have := recAt_lt hb; omega)]; exact hb
theorem envOf_some {env : Env} : ∀ {recs : List Rec} {D s i : Nat} {r : Rec}, DstOK recs → recAt recs i = some r → D.testBit i = true → r.dst = some s → get (envOf recs D env) s = some r.v
 | [], D, s, i, r, _, h, _, _ => by simp [recAt] at h
 | q :: l, D, s, i, r, hD, h, hb, hs => by
  have h0 := h
  rw [recAt_cons] at h
  split at h
  ·rename_i e
   simp only [Option.some.injEq] at h
   subst h; subst e
   unfold envOf
   simp only [hs, hb, cond_true, get_cons, if_true]
  ·rename_i e
   have ih := envOf_some (env := env) (D := D) hD.tail h hb hs
   unfold envOf
   split
   ·rename_i d hd
    cases hb' : D.testBit l.length with
    | true =>
     simp only [cond_true, get_cons]
     rw [if_neg fun e' => e (hD i l.length r q s h0 (by rw [recAt_cons, if_pos rfl]) hs (by rw [hd, e']))]
     exact ih
    | false => exact ih
   ·exact ih
theorem at_app_out {e T : Heap} {k : Nat} (h : ∀ x ∈ e, x.1 ≠ k) : Heap.at (e ++ T) k = T.at k ∧ (known (e ++ T) k ↔ known T k) := by
 induction e with
 | nil => exact ⟨rfl, Iff.rfl⟩
 | cons x e ih =>
  obtain ⟨i, ob⟩ := x
  have hne : i ≠ k := h (i, ob) (by simp)
  obtain ⟨h1, h2⟩ := ih fun y hy => h y (by simp [hy])
  simp only [List.cons_append, at_cons, known_cons]
  rw [if_neg hne]
  exact ⟨h1, by simp [hne, h2]⟩
theorem at_app_in {e T T' : Heap} {k : Nat} (h : ∃ x ∈ e, x.1 = k) : Heap.at (e ++ T) k = Heap.at (e ++ T') k ∧ known (e ++ T) k := by
 induction e with
 | nil => obtain ⟨x, hx, _⟩ := h; simp at hx
 | cons x e ih =>
  obtain ⟨i, ob⟩ := x
  simp only [List.cons_append, at_cons, known_cons]
  by_cases hi : i = k
  ·simp [hi]
  ·rw [if_neg hi, if_neg hi]
   obtain ⟨y, hy, he⟩ := h
   rcases List.mem_cons.1 hy with rfl | hy
   ·exact (hi he).elim
   ·obtain ⟨h1, h2⟩ := ih ⟨y, hy, he⟩
    exact ⟨h1, .inr h2⟩
/-- Two sets of records that differ in none that tells of an object find the same of it. -/
theorem heapOf_congr {H : Heap} {k : Nat} : ∀ {recs : List Rec} {D D' : Nat}, (∀ i r, recAt recs i = some r → (∃ x ∈ r.e, x.1 = k) → D.testBit i = D'.testBit i) → Heap.at (heapOf recs D H) k = Heap.at (heapOf recs D' H) k ∧ (known (heapOf recs D H) k ↔ known (heapOf recs D' H) k)
 | [], D, D', _ => ⟨rfl, Iff.rfl⟩
 | r :: l, D, D', h => by
  obtain ⟨h1, h2⟩ := heapOf_congr (H := H) (k := k) (recs := l) (D := D) (D' := D') fun i q hq hx => h i q (by rw [recAt_cons, if_neg (by have := recAt_lt hq; omega)]; exact hq) hx
  simp only [heapOf]
  by_cases hx : ∃ x ∈ r.e, x.1 = k
  ·have hb := h l.length r (by rw [recAt_cons, if_pos rfl]) hx
   rw [hb]
   cases D'.testBit l.length with
   | true =>
    obtain ⟨m1, m2⟩ := at_app_in (T := heapOf l D H) (T' := heapOf l D' H) hx
    obtain ⟨_, m3⟩ := at_app_in (T := heapOf l D' H) (T' := heapOf l D' H) hx
    exact ⟨m1, by simp [m2, m3]⟩
   | false => exact ⟨h1, h2⟩
  ·have hno : ∀ x ∈ r.e, x.1 ≠ k := fun x hx' he => hx ⟨x, hx', he⟩
   obtain ⟨m1, m2⟩ := at_app_out (T := heapOf l D H) hno
   obtain ⟨m3, m4⟩ := at_app_out (T := heapOf l D' H) hno
   cases D.testBit l.length <;> cases D'.testBit l.length <;> simp only [cond_true, cond_false]
   ·exact ⟨h1, h2⟩
   ·exact ⟨h1.trans m3.symm, h2.trans m4.symm⟩
   ·exact ⟨m1.trans h1, m2.trans h2⟩
   ·exact ⟨m1.trans (h1.trans m3.symm), m2.trans (h2.trans m4.symm)⟩
def addB (D i : Nat) : Nat := D ||| 2 ^ i
theorem addB_self (D i : Nat) : (addB D i).testBit i = true := by simp [addB]
theorem addB_other {D i j : Nat} (h : j ≠ i) : (addB D i).testBit j = D.testBit j := by
 simp only [addB, Nat.testBit_or, Nat.testBit_two_pow]
 simp [Ne.symm h]
theorem heapOf_add {H : Heap} {k : Nat} : ∀ {recs : List Rec} {D i : Nat} {r : Rec}, recAt recs i = some r → (∀ j q, recAt recs j = some q → i < j → D.testBit j = true → ∀ x ∈ q.e, ∀ y ∈ r.e, x.1 ≠ y.1) →
  Heap.at (heapOf recs (addB D i) H) k = Heap.at (r.e ++ heapOf recs D H) k ∧ (known (heapOf recs (addB D i) H) k ↔ known (r.e ++ heapOf recs D H) k)
 | [], D, i, r, h, _ => by simp [recAt] at h
 | q :: l, D, i, r, h, hne => by
  have h0 := h
  rw [recAt_cons] at h
  split at h
  ·rename_i e
   simp only [Option.some.injEq] at h
   subst h; subst e
   have hc := heapOf_congr (H := H) (k := k) (recs := l) (D := addB D l.length) (D' := D) fun j p hp _ => addB_other (by have := recAt_lt hp; omega)
   simp only [heapOf, addB_self, cond_true]
   have happ : ∀ {T T' : Heap}, (T.at k = T'.at k ∧ (known T k ↔ known T' k)) → Heap.at (q.e ++ T) k = Heap.at (q.e ++ T') k ∧ (known (q.e ++ T) k ↔ known (q.e ++ T') k) := by
    intro T T' hT
    by_cases hx : ∃ x ∈ q.e, x.1 = k
    ·obtain ⟨m1, m2⟩ := at_app_in (T := T) (T' := T') hx
     obtain ⟨_, m3⟩ := at_app_in (T := T') (T' := T') hx
     exact ⟨m1, by simp [m2, m3]⟩
    ·have hno : ∀ x ∈ q.e, x.1 ≠ k := fun x hx' he => hx ⟨x, hx', he⟩
     obtain ⟨m1, m2⟩ := at_app_out (T := T) hno
     obtain ⟨m3, m4⟩ := at_app_out (T := T') hno
     exact ⟨m1.trans (hT.1.trans m3.symm), m2.trans (hT.2.trans m4.symm)⟩
   cases hb : D.testBit l.length with
   | false => simp only [cond_false]; exact happ hc
   | true =>
    simp only [cond_true]
    -- told twice
    by_cases hx : ∃ x ∈ q.e, x.1 = k
    ·obtain ⟨m1, m2⟩ := at_app_in (T := heapOf l (addB D l.length) H) (T' := q.e ++ heapOf l D H) hx
     obtain ⟨_, m3⟩ := at_app_in (T := q.e ++ heapOf l D H) (T' := []) hx
     exact ⟨m1, by simp [m2, m3]⟩
    ·have hno : ∀ x ∈ q.e, x.1 ≠ k := fun x hx' he => hx ⟨x, hx', he⟩
     obtain ⟨m1, m2⟩ := at_app_out (T := heapOf l (addB D l.length) H) hno
     obtain ⟨m3, m4⟩ := at_app_out (T := q.e ++ heapOf l D H) hno
     obtain ⟨m5, m6⟩ := at_app_out (T := heapOf l D H) hno
     exact ⟨m1.trans (hc.1.trans (m5.symm.trans m3.symm)), m2.trans (hc.2.trans (m6.symm.trans m4.symm))⟩
  ·rename_i e
   have hi := recAt_lt h
   have ih := heapOf_add (H := H) (k := k) (D := D) h fun j p hp hij hb => hne j p (by rw [recAt_cons, if_neg (by have := recAt_lt hp; omega)]; exact hp) hij hb
   have hbit : (addB D i).testBit l.length = D.testBit l.length := addB_other (Ne.symm e)
   simp only [heapOf, hbit]
   cases hb : D.testBit l.length with
   | false => simp only [cond_false]; exact ih
   | true =>
    simp only [cond_true]
    have hdis := hne l.length q (by rw [recAt_cons, if_pos rfl]) hi hb
    by_cases hx : ∃ x ∈ q.e, x.1 = k
    ·have hno : ∀ y ∈ r.e, y.1 ≠ k := fun y hy he => by
      obtain ⟨x, hx, he'⟩ := hx
      exact hdis x hx y hy (he'.trans he.symm)
     obtain ⟨m1, m2⟩ := at_app_in (T := heapOf l (addB D i) H) (T' := heapOf l D H) hx
     obtain ⟨_, m3⟩ := at_app_in (T := heapOf l D H) (T' := []) hx
     obtain ⟨m4, m5⟩ := at_app_out (T := q.e ++ heapOf l D H) hno
     exact ⟨m1.trans m4.symm, by rw [m5]; simp [m2, m3]⟩
    ·have hno : ∀ x ∈ q.e, x.1 ≠ k := fun x hx' he => hx ⟨x, hx', he⟩
     obtain ⟨m1, m2⟩ := at_app_out (T := heapOf l (addB D i) H) hno
     obtain ⟨m3, m4⟩ := at_app_out (T := heapOf l D H) hno
     by_cases hy : ∃ y ∈ r.e, y.1 = k
     ·obtain ⟨n1, n2⟩ := at_app_in (T := heapOf l D H) (T' := q.e ++ heapOf l D H) hy
      obtain ⟨_, n3⟩ := at_app_in (T := q.e ++ heapOf l D H) (T' := []) hy
      exact ⟨m1.trans (ih.1.trans n1), m2.trans (ih.2.trans (by simp [n2, n3]))⟩
     ·have hno' : ∀ y ∈ r.e, y.1 ≠ k := fun y hy' he => hy ⟨y, hy', he⟩
      obtain ⟨n1, n2⟩ := at_app_out (T := heapOf l D H) hno'
      obtain ⟨n3, n4⟩ := at_app_out (T := q.e ++ heapOf l D H) hno'
      exact ⟨m1.trans (ih.1.trans (n1.trans (m3.symm.trans n3.symm))), m2.trans (ih.2.trans (n2.trans (m4.symm.trans n4.symm)))⟩
theorem rev_cons {α : Type} (r : α) (l : List α) (i : Nat) : (r :: l).reverse[i]? = if i = l.length then some r else l.reverse[i]? := by
 rw [List.reverse_cons]
 by_cases h : i = l.length
 ·subst h
  rw [if_pos rfl, List.getElem?_append_right (by simp)]
  simp
 ·rw [if_neg h]
  rcases Nat.lt_or_ge i l.length with h1 | h1
  ·rw [List.getElem?_append_left (by simpa using h1)]
  ·rw [List.getElem?_eq_none (by simp; omega), List.getElem?_eq_none (by simpa using h1)]
theorem rev_lt {α : Type} {l : List α} {i : Nat} {r : α} (h : l.reverse[i]? = some r) : i < l.length := by
 have := (List.getElem?_eq_some_iff.1 h).1
 simpa using this
theorem recAt_app (suf recs : List Rec) {i : Nat} (h : i < recs.length) : recAt (suf ++ recs) i = recAt recs i := by
 unfold recAt
 rw [List.reverse_append, List.getElem?_append_left (by simpa using h)]
theorem envOf_app {env : Env} {D : Nat} : ∀ (suf recs : List Rec), (∀ i, recs.length ≤ i → D.testBit i = false) → envOf (suf ++ recs) D env = envOf recs D env
 | [], recs, h => rfl
 | r :: l, recs, h => by
  have ih := envOf_app (env := env) l recs h
  have hb : D.testBit (l ++ recs).length = false := h _ (by simp)
  simp only [List.cons_append, envOf, hb, cond_false, ih]
  split <;> rfl
theorem heapOf_app {H : Heap} {D : Nat} : ∀ (suf recs : List Rec), (∀ i, recs.length ≤ i → D.testBit i = false) → heapOf (suf ++ recs) D H = heapOf recs D H
 | [], recs, h => rfl
 | r :: l, recs, h => by
  have ih := heapOf_app (H := H) l recs h
  have hb : D.testBit (l ++ recs).length = false := h _ (by simp)
  simp only [List.cons_append, heapOf, hb, cond_false, ih]
theorem envOf_zero {env : Env} : ∀ (recs : List Rec), envOf recs 0 env = env
 | [] => rfl
 | r :: l => by
  simp only [envOf, Nat.zero_testBit, cond_false, envOf_zero l]
  split <;> rfl
theorem heapOf_zero {H : Heap} : ∀ (recs : List Rec), heapOf recs 0 H = H
 | [] => rfl
 | r :: l => by simp only [heapOf, Nat.zero_testBit, cond_false, heapOf_zero l]
theorem envOf_bits {env : Env} {D D' : Nat} : ∀ (recs : List Rec), (∀ i, i < recs.length → D.testBit i = D'.testBit i) → envOf recs D env = envOf recs D' env
 | [], _ => rfl
 | r :: l, h => by
  have ih := envOf_bits (env := env) l fun i hi => h i (by simp; omega)
  simp only [envOf, h l.length (by simp), ih]
theorem heapOf_bits {H : Heap} {D D' : Nat} : ∀ (recs : List Rec), (∀ i, i < recs.length → D.testBit i = D'.testBit i) → heapOf recs D H = heapOf recs D' H
 | [], _ => rfl
 | r :: l, h => by
  have ih := heapOf_bits (H := H) l fun i hi => h i (by simp; omega)
  simp only [heapOf, h l.length (by simp), ih]
theorem envOf_congr {env : Env} {s : Nat} : ∀ {recs : List Rec} {D D' : Nat}, (∀ i r, recAt recs i = some r → r.dst = some s → D.testBit i = D'.testBit i) → get (envOf recs D env) s = get (envOf recs D' env) s
 | [], D, D', _ => rfl
 | r :: l, D, D', h => by
  have ih := envOf_congr (env := env) (s := s) (recs := l) (D := D) (D' := D') fun i q hq hx => h i q (by rw [recAt_cons, if_neg (by have := recAt_lt hq; omega)]; exact hq) hx
  simp only [envOf]
  split
  ·rename_i d hd
   by_cases e : d = s
   ·have hb := h l.length r (by rw [recAt_cons, if_pos rfl]) (by rw [hd, e])
    rw [hb]
    cases D'.testBit l.length with
    | true => simp only [cond_true, get_cons, if_pos e]
    | false => exact ih
   ·cases D.testBit l.length <;> cases D'.testBit l.length <;> simp only [cond_true, cond_false, get_cons, if_neg e] <;> exact ih
  ·exact ih
structure Free (all : List Oper) (a : Oper) (ra : Rec) (b : Oper) (rb : Rec) : Prop where
 fwd : ∀ d, ra.dst = some d → d ∉ reads all b
 bwd : ∀ d, rb.dst = some d → d ∉ reads all a
 ma : mutates a ra = true → (touches b.op = false ∨ away rb ra.e = true) ∧ mutates b rb = false
 mb : mutates b rb = true → touches a.op = false ∨ away ra rb.e = true
 ka : ∀ x ∈ rb.e, keyed a x.1 = false
 kb : ∀ x ∈ ra.e, keyed b x.1 = false
theorem apart_spec {all : List Oper} {i : Nat} {a b : Oper} {ra rb : Rec} (h : apart all i a ra b rb = true) : (∀ x ∈ ra.e, ownKey b x.1 = false) ∧ (rb.deps.testBit i = true ∨ Free all a ra b rb) := by
 simp only [apart, Bool.and_eq_true, Bool.or_eq_true, List.all_eq_true, Bool.not_eq_true'] at h
 obtain ⟨h0, h1⟩ := h
 refine ⟨h0, h1.imp id fun h => ?_⟩
 obtain ⟨⟨⟨⟨⟨h1, h2⟩, h3⟩, h4⟩, h5⟩, h6⟩ := h
 refine ⟨fun d hd hm => ?_, fun d hd hm => ?_, fun hm => ?_, fun hm => ?_, h5, h6⟩
 ·rw [hd] at h1
  simp only [Bool.and_eq_true, Bool.not_eq_true'] at h1
  have := h1.1
  rw [← Bool.not_eq_true] at this
  exact this (by simpa using hm)
 ·rw [hd] at h2
  simp only [Bool.not_eq_true'] at h2
  rw [← Bool.not_eq_true] at h2
  exact h2 (by simpa using hm)
 ·rcases h3 with h3 | h3
  ·rw [hm] at h3; cases h3
  ·exact h3
 ·rcases h4 with h4 | h4
  ·rw [hm] at h4; cases h4
  ·exact h4
theorem apartAll_spec {all : List Oper} : ∀ {bs : List Oper} {rbs : List Rec}, bs.length = rbs.length → apartAll all bs rbs = true → ∀ i j a b ra rb, i < j → bs.reverse[i]? = some a → bs.reverse[j]? = some b → recAt rbs i = some ra → recAt rbs j = some rb → apart all i a ra b rb = true
 | [], _, _, _, i, j, a, b, ra, rb, hij, ha, hb, hra, hrb => by simp at ha
 | b0 :: bs, [], hl, _, i, j, a, b, ra, rb, hij, ha, hb, hra, hrb => by simp at hl
 | b0 :: bs, r0 :: rbs, hl, h, i, j, a, b, ra, rb, hij, ha, hb, hra, hrb => by
  have hl' : bs.length = rbs.length := by simpa using hl
  simp only [apartAll, Bool.and_eq_true, List.all_eq_true] at h
  rw [rev_cons] at ha hb
  rw [recAt_cons] at hra hrb
  by_cases hj : j = bs.length
  ·rw [if_pos hj] at hb
   rw [if_pos (hj.trans hl')] at hrb
   rw [if_neg (by omega)] at ha hra
   simp only [Option.some.injEq] at hb hrb
   subst hb; subst hrb
   have hp : (((bs.zip rbs).zipIdx)[bs.length - 1 - i]?) = some ((a, ra), bs.length - 1 - i) := by
    have h1 : bs[bs.length - 1 - i]? = some a := by
     rw [List.getElem?_reverse (by omega)] at ha
     exact ha
    have h2 : rbs[bs.length - 1 - i]? = some ra := by
     unfold recAt at hra
     rw [List.getElem?_reverse (by omega), ← hl'] at hra
     exact hra
    rw [List.getElem?_zipIdx]
    simp [List.getElem?_zip_eq_some, h1, h2]
   have := h.1 _ (List.mem_of_getElem? hp)
   have e : bs.length - 1 - (bs.length - 1 - i) = i := by omega
   simpa only [e] using this
  ·have hlt : j < bs.length := by
    rw [if_neg hj] at hb
    exact rev_lt hb
   rw [if_neg hj] at hb
   rw [if_neg (by omega)] at ha hra hrb
   exact apartAll_spec hl' h.2 i j a b ra rb hij ha hb hra hrb
theorem madeOk_spec {H : Heap} : ∀ {bs : List Oper} {rbs : List Rec}, bs.length = rbs.length → madeOk H bs rbs = true → ∀ i o r, bs.reverse[i]? = some o → recAt rbs i = some r → ∀ x ∈ r.e, ownKey o x.1 = true → fresh H x.1 = true
 | [], _, _, _, i, o, r, ho, hr => by simp at ho
 | b0 :: bs, [], hl, _, i, o, r, ho, hr => by simp at hl
 | b0 :: bs, r0 :: rbs, hl, h, i, o, r, ho, hr => by
  have hl' : bs.length = rbs.length := by simpa using hl
  simp only [madeOk, Bool.and_eq_true, List.all_eq_true, Bool.or_eq_true, Bool.not_eq_true'] at h
  rw [rev_cons] at ho
  rw [recAt_cons] at hr
  by_cases hi : i = bs.length
  ·rw [if_pos hi] at ho
   rw [if_pos (hi.trans hl')] at hr
   simp only [Option.some.injEq] at ho hr
   subst ho; subst hr
   intro x hx hk
   rcases h.1 x hx with h1 | h1
   ·rw [h1] at hk; cases hk
   ·exact h1
  ·rw [if_neg hi] at ho
   rw [if_neg (by omega)] at hr
   exact madeOk_spec hl' h.2 i o r ho hr
theorem edgesOk_spec : ∀ {bs : List Oper} {rbs : List Rec}, bs.length = rbs.length → edgesOk bs rbs = true → ∀ i r, recAt rbs i = some r → r.deps < 2 ^ i
 | [], [], _, _, i, r, hr => by simp [recAt] at hr
 | b0 :: bs, [], hl, _, i, r, hr => by simp at hl
 | [], r0 :: rbs, hl, _, i, r, hr => by simp at hl
 | b0 :: bs, r0 :: rbs, hl, h, i, r, hr => by
  have hl' : bs.length = rbs.length := by simpa using hl
  simp only [edgesOk, Bool.and_eq_true] at h
  rw [recAt_cons] at hr
  by_cases hi : i = rbs.length
  ·rw [if_pos hi] at hr
   simp only [Option.some.injEq] at hr
   subst hr
   rw [hi]
   exact blt_true h.1
  ·rw [if_neg hi] at hr
   exact edgesOk_spec hl' h.2 i r hr
theorem distinct_mem {k : Nat} : ∀ {l : List Nat}, distinct (k :: l) = true → k ∉ l := by
 intro l h hk
 simp only [distinct, Bool.and_eq_true, Bool.not_eq_true'] at h
 have := h.1
 rw [← Bool.not_eq_true] at this
 exact this (by simpa using hk)
theorem recAt_mem {recs : List Rec} {i : Nat} {r : Rec} (h : recAt recs i = some r) : r ∈ recs := by
 have := List.mem_of_getElem? h
 simpa using this
theorem dstsOk_spec : ∀ {recs : List Rec}, dstsOk recs = true → DstOK recs
 | [], _ => fun i j r s d hr => by simp [recAt] at hr
 | q :: l, h => by
  have hmem : ∀ i r d, recAt l i = some r → r.dst = some d → d ∈ l.filterMap (·.dst) := fun i r d hr hd => List.mem_filterMap.2 ⟨r, recAt_mem hr, hd⟩
  have h' : dstsOk l = true ∧ ∀ d, q.dst = some d → d ∉ l.filterMap (·.dst) := by
   unfold dstsOk at h
   cases hq : q.dst with
   | none => rw [List.filterMap_cons_none (by exact hq)] at h; exact ⟨h, fun d hd => by cases hd⟩
   | some d0 =>
    rw [List.filterMap_cons_some (by exact hq)] at h
    refine ⟨?_, fun d hd => ?_⟩
    ·simp only [distinct, Bool.and_eq_true] at h
     exact h.2
    ·simp only [Option.some.injEq] at hd
     subst hd
     exact distinct_mem h
  have ih := dstsOk_spec h'.1
  intro i j r s d hr hs hrd hsd
  rw [recAt_cons] at hr hs
  split at hr <;> split at hs
  ·omega
  ·simp only [Option.some.injEq] at hr
   subst hr
   exact (h'.2 d hrd (hmem j s d hs hsd)).elim
  ·simp only [Option.some.injEq] at hs
   subst hs
   exact (h'.2 d hsd (hmem i r d hr hrd)).elim
  ·exact ih i j r s d hr hs hrd hsd
theorem setRec_len (j : Nat) (b : Bool) : ∀ (recs : List Rec), (setRec recs j b).length = recs.length
 | [] => rfl
 | r :: l => by
  unfold setRec
  cases Nat.beq l.length j with
  | true => rfl
  | false => simp only [cond_false, List.length_cons, setRec_len j b l]
theorem recAt_setRec (j : Nat) (b : Bool) : ∀ (recs : List Rec) (i : Nat), recAt (setRec recs j b) i = (recAt recs i).map fun q => if i = j then { q with v := .val false [.bool b] } else q
 | [], i => rfl
 | r :: l, i => by
  unfold setRec
  cases hb : Nat.beq l.length j with
  | true =>
   have e := nb_eq hb
   simp only [cond_true, recAt_cons]
   by_cases hi : i = l.length
   ·simp [hi, e]
   ·rw [if_neg hi, if_neg hi]
    cases recAt l i with
    | none => rfl
    | some q => simp [show i ≠ j by omega]
  | false =>
   have e : l.length ≠ j := fun e => by rw [e] at hb; simp at hb
   simp only [cond_false, recAt_cons, setRec_len]
   by_cases hi : i = l.length
   ·simp [hi, e]
   ·rw [if_neg hi, if_neg hi]
    exact recAt_setRec j b l i
theorem setRec_id {j : Nat} {b : Bool} : ∀ {recs : List Rec}, (∀ q, recAt recs j = some q → q.v = .val false [.bool b]) → setRec recs j b = recs
 | [], _ => rfl
 | r :: l, h => by
  unfold setRec
  cases hb : Nat.beq l.length j with
  | true =>
   have e := nb_eq hb
   have := h r (by rw [recAt_cons, if_pos e.symm])
   simp only [cond_true]
   rw [← this]
  | false =>
   have e : l.length ≠ j := fun e => by rw [e] at hb; simp at hb
   simp only [cond_false]
   rw [setRec_id fun q hq => h q (by rw [recAt_cons, if_neg (by omega)]; exact hq)]
structure DepsAre (F : List Rec) (o : Oper) (D : Nat) : Prop where
 on : ∀ e ∈ o.after.toList, Region.binds .any e = true → D.testBit e.on = true
 sub : ∀ e ∈ o.after.toList, Region.binds .any e = true → ∀ q, recAt F e.on = some q → ∀ k, q.deps.testBit k = true → D.testBit k = true
 why : ∀ k, D.testBit k = true → ∃ e ∈ o.after.toList, Region.binds .any e = true ∧ (k = e.on ∨ ∃ q, recAt F e.on = some q ∧ q.deps.testBit k = true)
def stepDeps (recs : List Rec) (l : Nat) (e : Edge) : Nat := bif Region.binds .any e then l ||| (2 ^ e.on ||| ((recs[recs.length - 1 - e.on]?).map Rec.deps).getD 0) else l
theorem stepDeps_bit (recs : List Rec) (l : Nat) (e : Edge) (k : Nat) : (stepDeps recs l e).testBit k = true ↔ l.testBit k = true ∨ (Region.binds .any e = true ∧ (k = e.on ∨ (((recs[recs.length - 1 - e.on]?).map Rec.deps).getD 0).testBit k = true)) := by
 unfold stepDeps
 cases Region.binds .any e with
 | true =>
  simp only [cond_true, Nat.testBit_or, Nat.testBit_two_pow, Bool.or_eq_true, decide_eq_true_eq, true_and]
  constructor
  ·rintro (h | h | h)
   ·exact .inl h
   ·exact .inr (.inl h.symm)
   ·exact .inr (.inr h)
  ·rintro (h | h | h)
   ·exact .inl h
   ·exact .inr (.inl h.symm)
   ·exact .inr (.inr h)
 | false => simp
theorem foldDeps_bit (recs : List Rec) (k : Nat) : ∀ (es : List Edge) (l : Nat), (es.foldl (stepDeps recs) l).testBit k = true ↔ l.testBit k = true ∨ ∃ e ∈ es, Region.binds .any e = true ∧ (k = e.on ∨ (((recs[recs.length - 1 - e.on]?).map Rec.deps).getD 0).testBit k = true)
 | [], l => by simp
 | e :: es, l => by
  rw [List.foldl_cons, foldDeps_bit recs k es, stepDeps_bit]
  constructor
  ·rintro ((h | h) | ⟨x, hx, h⟩)
   ·exact .inl h
   ·exact .inr ⟨e, by simp, h⟩
   ·exact .inr ⟨x, by simp [hx], h⟩
  ·rintro (h | ⟨x, hx, h⟩)
   ·exact .inl (.inl h)
   ·rcases List.mem_cons.1 hx with rfl | hx
    ·exact .inl (.inr h)
    ·exact .inr ⟨x, hx, h⟩
theorem testBit_lt {D i k : Nat} (h : D < 2 ^ i) (hb : D.testBit k = true) : k < i := by
 rcases Nat.lt_or_ge k i with h1 | h1
 ·exact h1
 ·have : D < 2 ^ k := Nat.lt_of_lt_of_le h (Nat.pow_le_pow_right (by omega) h1)
  rw [Nat.testBit_lt_two_pow this] at hb
  cases hb
theorem depsOf_are {recs : List Rec} {o : Oper} {F : List Rec} (hF : ∀ i, i < recs.length → recAt F i = recAt recs i) (hlt : depsOf recs o < 2 ^ recs.length) : DepsAre F o (depsOf recs o) := by
 have hb : ∀ k, (depsOf recs o).testBit k = true ↔ ∃ e ∈ o.after.toList, Region.binds .any e = true ∧ (k = e.on ∨ (((recs[recs.length - 1 - e.on]?).map Rec.deps).getD 0).testBit k = true) := by
  intro k
  have := foldDeps_bit recs k o.after.toList 0
  have hd : depsOf recs o = o.after.toList.foldl (stepDeps recs) 0 := rfl
  rw [hd, this]
  simp
 have hon : ∀ e ∈ o.after.toList, Region.binds .any e = true → (depsOf recs o).testBit e.on = true := fun e he h => (hb _).2 ⟨e, he, h, .inl rfl⟩
 have hr : ∀ e ∈ o.after.toList, Region.binds .any e = true → recs[recs.length - 1 - e.on]? = recAt F e.on := by
  intro e he h
  have hl := testBit_lt hlt (hon e he h)
  rw [hF _ hl]
  unfold recAt
  rw [List.getElem?_reverse hl]
 refine ⟨hon, fun e he h q hq k hk => (hb k).2 ⟨e, he, h, .inr ?_⟩, fun k hk => ?_⟩
 ·rw [hr e he h, hq]
  exact hk
 ·obtain ⟨e, he, h, h1⟩ := (hb k).1 hk
  refine ⟨e, he, h, h1.imp id fun h1 => ?_⟩
  rw [hr e he h] at h1
  cases hq : recAt F e.on with
  | none => rw [hq] at h1; simp at h1
  | some q => rw [hq] at h1; exact ⟨q, rfl, h1⟩
section
variable {tab : Tab} {E : Ents} {all : List Oper} {env : Env} {H : Heap}
def Stepped (tab : Tab) (E : Ents) (env : Env) (H : Heap) (F : List Rec) (o : Oper) (r : Rec) : Prop :=
 ∀ (R' : Type) (K' : V → Heap → Option R'), (stepK tab E (heapOf F r.deps H) o (ev (envOf F r.deps env)) K' = K' r.v r.e) ∧ ∀ k, r.k = some k → lookKey (ev (envOf F r.deps env)) o = some k
def Fact (tab : Tab) (E : Ents) (all : List Oper) (env : Env) (H : Heap) (F : List Rec) (o : Oper) (r : Rec) : Prop :=
 r.dst = o.dst ∧ DepsAre F o r.deps ∧
 match o.guard with
 | none => Stepped tab E env H F o r
 | some (j, want) => ∃ d, dstAt all j = some d ∧
  ((get (envOf F r.deps env) d = some (.tup []) ∧ r.v = .tup [] ∧ r.e = []) ∨
   ∃ p, get (envOf F r.deps env) d = some (.val false [.bool p]) ∧ ((p = want ∧ Stepped tab E env H F o r) ∨ (p ≠ want ∧ r.v = .tup [] ∧ r.e = [])))
structure DF (tab : Tab) (E : Ents) (all : List Oper) (env : Env) (H : Heap) (F : List Rec) : Prop where
 len : F.length = all.length
 apart : ∀ i j a b ra rb, i < j → all[i]? = some a → all[j]? = some b → recAt F i = some ra → recAt F j = some rb → apart all i a ra b rb = true
 dst : DstOK F
 made : ∀ i o r, all[i]? = some o → recAt F i = some r → ∀ x ∈ r.e, ownKey o x.1 = true → fresh H x.1 = true
 edge : ∀ i r, recAt F i = some r → r.deps < 2 ^ i
theorem runD_facts {R : Type} {K : Env → Heap → Option R} {r : R} : ∀ (os : List Oper) (recs : List Rec), (∃ pre, all = pre ++ os ∧ pre.length = recs.length) → (∀ i q, recAt recs i = some q → q.dst = dstAt all i) → runD tab E all env H os recs K = some r →
  ∃ suf, DF tab E all env H (suf ++ recs) ∧ K (envOf (suf ++ recs) (2 ^ (suf ++ recs).length - 1) env) (heapOf (suf ++ recs) (2 ^ (suf ++ recs).length - 1) H) = some r ∧
   (∀ i q, recAt (suf ++ recs) i = some q → q.dst = dstAt all i) ∧ ∀ i o q, recs.length ≤ i → all[i]? = some o → recAt (suf ++ recs) i = some q → Fact tab E all env H (suf ++ recs) o q
 | [], recs, ⟨pre, hp, hl⟩, hds, h => by
  have hlen : all.length = recs.length := by rw [hp]; simpa using hl
  simp only [runD] at h
  obtain ⟨h1, h2⟩ := bif_some h
  simp only [Bool.and_eq_true] at h1
  have hl' : all.reverse.length = recs.length := by simpa using hlen
  refine ⟨[], ?_⟩
  rw [List.nil_append]
  refine ⟨⟨hlen.symm, ?_, dstsOk_spec h1.1.1.2, ?_, edgesOk_spec hl' h1.2⟩, h2, hds, fun i o q hi ho hq => ?_⟩
  ·have := apartAll_spec hl' h1.1.1.1
   simpa only [List.reverse_reverse] using this
  ·have := madeOk_spec hl' h1.1.2
   simpa only [List.reverse_reverse] using this
  ·have := recAt_lt hq
   omega
 | o :: os, recs, ⟨pre, hp, hl⟩, hds, h => by
  have ho : all[recs.length]? = some o := by
   rw [hp, List.getElem?_append_right (by omega), hl]
   simp
  have hdo : dstAt all recs.length = o.dst := by simp only [dstAt, ho, Option.bind_some]
  have key : ∀ (v : V) (e : Heap) (kk : Option Nat), runD tab E all env H os (⟨o.dst, depsOf recs o, v, e, kk⟩ :: recs) K = some r →
    (∀ F, (∃ suf, F = suf ++ (⟨o.dst, depsOf recs o, v, e, kk⟩ :: recs)) → envOf F (depsOf recs o) env = envOf recs (depsOf recs o) env → heapOf F (depsOf recs o) H = heapOf recs (depsOf recs o) H → DepsAre F o (depsOf recs o) → Fact tab E all env H F o ⟨o.dst, depsOf recs o, v, e, kk⟩) →
    ∃ suf, DF tab E all env H (suf ++ recs) ∧ K (envOf (suf ++ recs) (2 ^ (suf ++ recs).length - 1) env) (heapOf (suf ++ recs) (2 ^ (suf ++ recs).length - 1) H) = some r ∧
   (∀ i q, recAt (suf ++ recs) i = some q → q.dst = dstAt all i) ∧ ∀ i o q, recs.length ≤ i → all[i]? = some o → recAt (suf ++ recs) i = some q → Fact tab E all env H (suf ++ recs) o q := by
   intro v e kk h hf
   obtain ⟨suf, hD, hK, hds', hfs⟩ := runD_facts os (⟨o.dst, depsOf recs o, v, e, kk⟩ :: recs) ⟨pre ++ [o], by rw [hp]; simp, by simp [hl]⟩ (fun i q hq => by
    rw [recAt_cons] at hq
    split at hq
    ·rename_i hi
     simp only [Option.some.injEq] at hq
     subst hq
     rw [hi, hdo]
    ·exact hds i q hq) h
   refine ⟨suf ++ [⟨o.dst, depsOf recs o, v, e, kk⟩], ?_⟩
   rw [List.append_assoc, List.singleton_append]
   refine ⟨hD, hK, hds', fun i o' q hi ho' hq => ?_⟩
   by_cases hi' : i = recs.length
   ·subst hi'
    rw [ho] at ho'
    simp only [Option.some.injEq] at ho'
    subst ho'
    have hq' : recAt (suf ++ (⟨o.dst, depsOf recs o, v, e, kk⟩ :: recs)) recs.length = some ⟨o.dst, depsOf recs o, v, e, kk⟩ := by
     rw [recAt_app _ _ (by simp), recAt_cons, if_pos rfl]
    rw [hq'] at hq
    simp only [Option.some.injEq] at hq
    subst hq
    have hlt := hD.edge _ _ hq'
    have hbits : ∀ i, recs.length ≤ i → (depsOf recs o).testBit i = false := fun i hi => by
     rw [← Bool.not_eq_true]
     exact fun hb => by have := testBit_lt hlt hb; omega
    have hs : suf ++ (⟨o.dst, depsOf recs o, v, e, kk⟩ :: recs) = (suf ++ [⟨o.dst, depsOf recs o, v, e, kk⟩]) ++ recs := by simp
    refine hf _ ⟨suf, rfl⟩ (by rw [hs]; exact envOf_app _ _ hbits) (by rw [hs]; exact heapOf_app _ _ hbits) (depsOf_are (fun i hi => ?_) hlt)
    rw [hs]
    exact recAt_app _ _ hi
   ·exact hfs i o' q (by simp only [List.length_cons]; omega) ho' hq
  unfold runD at h
  simp only [] at h
  split at h
  ·rename_i hg
   obtain ⟨v, e, h1, h2⟩ := stepK_det h
   refine key v e _ h1 fun F _ he hh hd => ⟨rfl, hd, ?_⟩
   rw [hg]
   intro R' K'
   refine ⟨?_, fun k hk => by rw [he]; exact hk⟩
   rw [he, hh]
   exact h2 R' K'
  ·rename_i j want hg
   split at h
   ·cases h
   ·rename_i d hj
    have hread : d ∈ reads all o := by
     unfold reads
     simp [hg, hj]
    split at h
    ·rename_i hv
     refine key _ _ _ h fun F _ he hh hd => ⟨rfl, hd, ?_⟩
     rw [hg]
     exact ⟨d, hj, .inl ⟨by rw [he]; exact hv, rfl, rfl⟩⟩
    ·rename_i p hv
     have ident : ∀ (v : V) (e : Heap) (kk : Option Nat) (b : Bool), p = b → runD tab E all env H os (⟨o.dst, depsOf recs o, v, e, kk⟩ :: setRec recs j b) K = some r → setRec recs j b = recs := by
      intro v e kk b hpb h
      refine setRec_id fun q hq => ?_
      have hjl := recAt_lt hq
      obtain ⟨suf, hD, hK, hds', hfs⟩ := runD_facts os (⟨o.dst, depsOf recs o, v, e, kk⟩ :: setRec recs j b) ⟨pre ++ [o], by rw [hp]; simp, by simp [hl, setRec_len]⟩ (fun i q hq => by
       rw [recAt_cons] at hq
       split at hq
       ·rename_i hi
        simp only [Option.some.injEq] at hq
        subst hq
        rw [hi, setRec_len, hdo]
       ·rw [recAt_setRec, Option.map_eq_some_iff] at hq
        obtain ⟨q0, hq0, rfl⟩ := hq
        have := hds i q0 hq0
        split <;> exact this) h
      have hqd : q.dst = some d := by rw [hds j q hq, hj]
      have hqF : recAt (suf ++ (⟨o.dst, depsOf recs o, v, e, kk⟩ :: setRec recs j b)) j = some { q with v := .val false [.bool b] } := by
       rw [recAt_app _ _ (by simp [setRec_len]; omega), recAt_cons, if_neg (by rw [setRec_len]; omega), recAt_setRec, hq]
       simp
      have hoF : recAt (suf ++ (⟨o.dst, depsOf recs o, v, e, kk⟩ :: setRec recs j b)) recs.length = some ⟨o.dst, depsOf recs o, v, e, kk⟩ := by
       rw [recAt_app _ _ (by simp [setRec_len]), recAt_cons, if_pos (by rw [setRec_len])]
      have haj : ∃ a, all[j]? = some a := by
       unfold dstAt at hj
       cases ha : all[j]? with
       | none => rw [ha] at hj; cases hj
       | some a => exact ⟨a, rfl⟩
      obtain ⟨a, ha⟩ := haj
      have hbit : (depsOf recs o).testBit j = true := by
       rcases (apart_spec (hD.apart _ _ _ _ _ _ hjl ha ho hqF hoF)).2 with h1 | h1
       ·exact h1
       ·exact (h1.fwd d hqd hread).elim
      have hDst : DstOK recs := by
       intro i i' x y d' hx hy hxd hyd
       have up : ∀ i x, recAt recs i = some x → recAt (suf ++ (⟨o.dst, depsOf recs o, v, e, kk⟩ :: setRec recs j b)) i = some (if i = j then { x with v := .val false [.bool b] } else x) := by
        intro i x hx
        have := recAt_lt hx
        rw [recAt_app _ _ (by simp [setRec_len]; omega), recAt_cons, if_neg (by rw [setRec_len]; omega), recAt_setRec, hx]
        simp
       refine hD.dst i i' _ _ d' (up i x hx) (up i' y hy) ?_ ?_
       ·split <;> exact hxd
       ·split <;> exact hyd
      have := envOf_some (env := env) hDst hq hbit hqd
      rw [hv] at this
      simp only [Option.some.injEq] at this
      rw [← this, hpb]
     have took : ∀ b, want = b → p = b → stepK tab E (heapOf (setRec recs j b) (depsOf recs o) H) o (ev (envOf (setRec recs j b) (depsOf recs o) env)) (fun v e => runD tab E all env H os (⟨o.dst, depsOf recs o, v, e, lookKey (ev (envOf (setRec recs j b) (depsOf recs o) env)) o⟩ :: setRec recs j b) K) = some r → ∃ suf, DF tab E all env H (suf ++ recs) ∧ K (envOf (suf ++ recs) (2 ^ (suf ++ recs).length - 1) env) (heapOf (suf ++ recs) (2 ^ (suf ++ recs).length - 1) H) = some r ∧
   (∀ i q, recAt (suf ++ recs) i = some q → q.dst = dstAt all i) ∧ ∀ i o q, recs.length ≤ i → all[i]? = some o → recAt (suf ++ recs) i = some q → Fact tab E all env H (suf ++ recs) o q := by
      intro b hw hb h
      obtain ⟨v, e, h1, h2⟩ := stepK_det h
      have hid := ident v e _ b hb h1
      rw [hid] at h1 h2
      refine key v e _ h1 fun F _ he hh hd => ⟨rfl, hd, ?_⟩
      rw [hg]
      refine ⟨d, hj, .inr ⟨p, by rw [he]; exact hv, .inl ⟨hb.trans hw.symm, ?_⟩⟩⟩
      intro R' K'
      refine ⟨?_, fun k hk => by rw [he]; exact hk⟩
      rw [he, hh]
      exact h2 R' K'
     have left : ∀ b, want ≠ b → p = b → runD tab E all env H os (⟨o.dst, depsOf recs o, .tup [], [], none⟩ :: setRec recs j b) K = some r → ∃ suf, DF tab E all env H (suf ++ recs) ∧ K (envOf (suf ++ recs) (2 ^ (suf ++ recs).length - 1) env) (heapOf (suf ++ recs) (2 ^ (suf ++ recs).length - 1) H) = some r ∧
   (∀ i q, recAt (suf ++ recs) i = some q → q.dst = dstAt all i) ∧ ∀ i o q, recs.length ≤ i → all[i]? = some o → recAt (suf ++ recs) i = some q → Fact tab E all env H (suf ++ recs) o q := by
      intro b hw hb h
      have hid := ident _ _ _ b hb h
      rw [hid] at h
      refine key _ _ _ h fun F _ he hh hd => ⟨rfl, hd, ?_⟩
      rw [hg]
      exact ⟨d, hj, .inr ⟨p, by rw [he]; exact hv, .inr ⟨fun e => hw (e.symm.trans hb), rfl, rfl⟩⟩⟩
     cases want <;> cases p <;> simp only [cond_true, cond_false] at h
     ·exact took false rfl rfl h
     ·exact left true (by simp) rfl h
     ·exact left false (by simp) rfl h
     ·exact took true rfl rfl h
    ·cases h
end
theorem countP_add {D i : Nat} (hb : D.testBit i = false) : ∀ (l : List Nat), (l.countP fun k => !(addB D i).testBit k) ≤ l.countP (fun k => !D.testBit k) ∧ (i ∈ l → (l.countP fun k => !(addB D i).testBit k) < l.countP fun k => !D.testBit k)
 | [] => by simp
 | x :: l => by
  obtain ⟨h1, h2⟩ := countP_add hb l
  by_cases hx : x = i
  ·subst hx
   rw [List.countP_cons_of_neg (by simp [addB_self]), List.countP_cons_of_pos (by simp [hb])]
   exact ⟨by omega, fun _ => by omega⟩
  ·have e : (addB D i).testBit x = D.testBit x := addB_other hx
   have hm : i ∈ x :: l → i ∈ l := fun h => (List.mem_cons.1 h).resolve_left (Ne.symm hx)
   cases hd : D.testBit x with
   | true =>
    rw [List.countP_cons_of_neg (by simp [e, hd]), List.countP_cons_of_neg (by simp [hd])]
    exact ⟨h1, fun h => h2 (hm h)⟩
   | false =>
    rw [List.countP_cons_of_pos (by simp [e, hd]), List.countP_cons_of_pos (by simp [hd])]
    exact ⟨by omega, fun h => by have := h2 (hm h); omega⟩
theorem at_fresh {H : Heap} {k : Nat} (h : fresh H k = true) : H.at k = none := by
 unfold fresh at h
 unfold Heap.at
 cases hg : get H k with
 | none => rfl
 | some o => rw [hg] at h; cases h
theorem fresh_iff {H : Heap} {k : Nat} : fresh H k = true ↔ ¬ known H k := by
 unfold fresh known
 cases get H k <;> simp
section
variable {P : Program} {tab : Tab} {E : Ents} {all : List Oper} {env : Env} {H : Heap} {F : List Rec} {B : Base}
/-- All that is done: what it depends on is done too. -/
def Closed (F : List Rec) (D : Nat) : Prop := ∀ j q, recAt F j = some q → D.testBit j = true → ∀ k, q.deps.testBit k = true → D.testBit k = true
theorem Closed.add {D i : Nat} {r : Rec} (h : Closed F D) (hr : recAt F i = some r) (hd : ∀ k, r.deps.testBit k = true → D.testBit k = true) : Closed F (addB D i) := by
 have up : ∀ k, D.testBit k = true → (addB D i).testBit k = true := fun k hk => by simp only [addB, Nat.testBit_or, hk, Bool.true_or]
 intro j q hq hj k hk
 by_cases e : j = i
 ·subst e
  rw [hr] at hq
  simp only [Option.some.injEq] at hq
  subst hq
  exact up k (hd k hk)
 ·rw [addB_other e] at hj
  exact up k (h j q hq hj k hk)
structure AllF (tab : Tab) (E : Ents) (all : List Oper) (env : Env) (H : Heap) (F : List Rec) : Prop extends DF tab E all env H F where
 fact : ∀ i o q, all[i]? = some o → recAt F i = some q → Fact tab E all env H F o q
theorem AllF.op (hF : AllF tab E all env H F) {i : Nat} {q : Rec} (h : recAt F i = some q) : ∃ o, all[i]? = some o := by
 have := recAt_lt h
 rw [hF.len] at this
 exact ⟨all[i], List.getElem?_eq_getElem this⟩
theorem AllF.recd (hF : AllF tab E all env H F) {i : Nat} {o : Oper} (h : all[i]? = some o) : ∃ q, recAt F i = some q := by
 have : i < all.length := (List.getElem?_eq_some_iff.1 h).1
 rw [← hF.len] at this
 unfold recAt
 exact ⟨_, List.getElem?_eq_getElem (by simpa using this)⟩
/-- What an operation depends on, through others too. -/
theorem AllF.trans (hF : AllF tab E all env H F) : ∀ (i : Nat) (r : Rec), recAt F i = some r → Closed F r.deps := by
 intro i
 induction i using Nat.strongRecOn with
 | _ i ih =>
  intro r hr j q hq hj k hk
  obtain ⟨o, ho⟩ := hF.op hr
  obtain ⟨_, hd, _⟩ := hF.fact i o r ho hr
  obtain ⟨e, he, hb, h1⟩ := hd.why j hj
  rcases h1 with h1 | ⟨q', hq', h1⟩
  ·subst h1
   exact hd.sub e he hb q hq k hk
  ·have hlt : e.on < i := testBit_lt (hF.edge i r hr) (hd.on e he hb)
   exact hd.sub e he hb q' hq' k (ih e.on hlt q' hq' j q hq h1 k hk)
variable {D i : Nat} {o : Oper} {r : Rec}
structure Ready (F : List Rec) (all : List Oper) (D i : Nat) (o : Oper) (r : Rec) : Prop where
 cl : Closed F D
 ho : all[i]? = some o
 hr : recAt F i = some r
 un : D.testBit i = false
 dep : ∀ k, r.deps.testBit k = true → D.testBit k = true
theorem Ready.later (hR : Ready F all D i o r) {j : Nat} {q : Rec} (hq : recAt F j = some q) (hj : D.testBit j = true) : q.deps.testBit i = false := by
 rw [← Bool.not_eq_true]
 intro h
 have := hR.cl j q hq hj i h
 rw [hR.un] at this
 cases this
/-- An operation that is done, and not waited for, is free of it. -/
theorem Ready.free (hF : AllF tab E all env H F) (hR : Ready F all D i o r) {j : Nat} {q : Rec} {b : Oper} (hb : all[j]? = some b) (hq : recAt F j = some q) (hj : D.testBit j = true) (hn : r.deps.testBit j = false) : (j < i ∧ Free all b q o r) ∨ (i < j ∧ Free all o r b q) := by
 have hne : j ≠ i := fun e => by rw [e, hR.un] at hj; cases hj
 rcases Nat.lt_or_ge j i with h | h
 ·rcases (apart_spec (hF.apart j i b o q r h hb hR.ho hq hR.hr)).2 with h1 | h1
  ·rw [hn] at h1; cases h1
  ·exact .inl ⟨h, h1⟩
 ·have h : i < j := by omega
  rcases (apart_spec (hF.apart i j o b r q h hR.ho hb hR.hr hq)).2 with h1 | h1
  ·rw [hR.later hq hj] at h1; cases h1
  ·exact .inr ⟨h, h1⟩
theorem Ready.gets (hF : AllF tab E all env H F) (hR : Ready F all D i o r) {s : Nat} (hs : s ∈ reads all o) : get (envOf F D env) s = get (envOf F r.deps env) s := by
 refine envOf_congr fun j q hq hd => ?_
 cases hj : D.testBit j with
 | false =>
  cases hn : r.deps.testBit j with
  | false => rfl
  | true => rw [hR.dep j hn] at hj; cases hj
 | true =>
  cases hn : r.deps.testBit j with
  | true => rfl
  | false =>
   obtain ⟨b, hb⟩ := hF.op hq
   rcases hR.free hF hb hq hj hn with ⟨_, h⟩ | ⟨_, h⟩
   ·exact (h.fwd s hd hs).elim
   ·exact (h.bwd s hd hs).elim
theorem Ready.fr (hF : AllF tab E all env H F) (hR : Ready F all D i o r) (m : Nat) (hm : m < 16) (h : fresh (heapOf F r.deps H) (key0 o + m) = true) : fresh (heapOf F D H) (key0 o + m) = true := by
 have hk : keyed o (key0 o + m) = true := by
  unfold keyed
  rw [Bool.and_eq_true]
  exact ⟨Nat.ble_eq_true_of_le (by omega), blt_iff.2 (by omega)⟩
 rw [fresh_iff] at h ⊢
 rwa [(heapOf_congr (H := H) (k := key0 o + m) (recs := F) (D := D) (D' := r.deps) fun j q hq hx => ?_).2]
 obtain ⟨x, hx, hxk⟩ := hx
 cases hj : D.testBit j with
 | false =>
  cases hn : r.deps.testBit j with
  | false => rfl
  | true => rw [hR.dep j hn] at hj; cases hj
 | true =>
  cases hn : r.deps.testBit j with
  | true => rfl
  | false =>
   obtain ⟨b, hb⟩ := hF.op hq
   rcases hR.free hF hb hq hj hn with ⟨_, h⟩ | ⟨_, h⟩
   ·have := h.kb x hx
    rw [hxk, hk] at this; cases this
   ·have := h.ka x hx
    rw [hxk, hk] at this; cases this
theorem own_of {b : Oper} {q : Rec} (h : ¬ mutates b q = true) {x : Nat × Option Obj} (hx : x ∈ q.e) : ownKey b x.1 = true := by
 cases hk : ownKey b x.1 with
 | true => rfl
 | false =>
  exact (h (by unfold mutates; rw [List.any_eq_true]; exact ⟨x, hx, by rw [hk]; rfl⟩)).elim
theorem Ready.sub1 (hF : AllF tab E all env H F) (hR : Ready F all D i o r) {k : Nat} (ht : ∀ e : Heap, (∃ x ∈ e, x.1 = k) → ¬ (touches o.op = false ∨ away r e = true)) {ob : Obj} (hk : (heapOf F r.deps H).at k = some ob) : (heapOf F D H).at k = some ob := by
 by_cases hc : ∃ j q, recAt F j = some q ∧ D.testBit j = true ∧ r.deps.testBit j = false ∧ ∃ x ∈ q.e, x.1 = k
 ·obtain ⟨j, q, hq, hj, hn, x, hx, hxk⟩ := hc
  obtain ⟨b, hb⟩ := hF.op hq
  have hmu : ¬ mutates b q = true := by
   rcases hR.free hF hb hq hj hn with ⟨_, h⟩ | ⟨_, h⟩
   ·intro hm
    exact ht q.e ⟨x, hx, hxk⟩ (h.ma hm).1
   ·intro hm
    exact ht q.e ⟨x, hx, hxk⟩ (h.mb hm)
  have hown := own_of hmu hx
  have hfr := hF.made j b q hb hq x hx hown
  rw [hxk] at hown hfr
  have hno : (heapOf F r.deps H).at k = (heapOf F 0 H).at k := by
   refine (heapOf_congr fun j' q' hq' hx' => ?_).1
   obtain ⟨y, hy, hyk⟩ := hx'
   rw [Nat.zero_testBit, ← Bool.not_eq_true]
   intro hj'
   obtain ⟨b', hb'⟩ := hF.op hq'
   have hne : j' ≠ j := fun e => by rw [e, hn] at hj'; cases hj'
   rcases Nat.lt_or_ge j' j with h | h
   ·have := (apart_spec (hF.apart j' j b' b q' q h hb' hb hq' hq)).1 y hy
    rw [hyk, hown] at this; cases this
   ·have h : j < j' := by omega
    rcases (apart_spec (hF.apart j j' b b' q q' h hb hb' hq hq')).2 with h1 | h1
    ·have := hF.trans i r hR.hr j' q' hq' hj' j h1
     rw [hn] at this; cases this
    ·have := h1.ka y hy
     rw [hyk] at this
     unfold ownKey at hown
     rw [this] at hown; cases hown
  rw [hno, heapOf_zero, at_fresh hfr] at hk
  cases hk
 ·rw [← hk]
  refine (heapOf_congr fun j q hq hx => ?_).1
  cases hj : D.testBit j with
  | false =>
   cases hn : r.deps.testBit j with
   | false => rfl
   | true => rw [hR.dep j hn] at hj; cases hj
  | true =>
   cases hn : r.deps.testBit j with
   | true => rfl
   | false => exact (hc ⟨j, q, hq, hj, hn, hx⟩).elim
theorem away_spec {r : Rec} {e : Heap} (h : away r e = true) : ∃ k, r.k = some k ∧ ∀ x ∈ e, x.1 ≠ k := by
 unfold away at h
 split at h
 ·rename_i k hk
  refine ⟨k, hk, fun x hx he => ?_⟩
  rw [List.all_eq_true] at h
  have := h x hx
  rw [he] at this
  simp at this
 ·cases h
theorem Ready.sub (hF : AllF tab E all env H F) (hR : Ready F all D i o r) (ht : touches o.op = true) (hk : r.k = none) : Sub (heapOf F r.deps H) (heapOf F D H) := fun k ob h =>
 hR.sub1 hF (fun e _ hn => by
  rcases hn with hn | hn
  ·rw [ht] at hn; cases hn
  ·obtain ⟨k', h1, _⟩ := away_spec hn
   rw [hk] at h1; cases h1) h
theorem Ready.subk (hF : AllF tab E all env H F) (hR : Ready F all D i o r) (ht : touches o.op = true) {k : Nat} (hk : r.k = some k) {ob : Obj} (h : (heapOf F r.deps H).at k = some ob) : (heapOf F D H).at k = some ob :=
 hR.sub1 hF (fun e ⟨x, hx, hxk⟩ hn => by
  rcases hn with hn | hn
  ·rw [ht] at hn; cases hn
  ·obtain ⟨k', h1, h2⟩ := away_spec hn
   rw [hk] at h1
   simp only [Option.some.injEq] at h1
   subst h1
   exact h2 x hx hxk) h
theorem Ready.envs (hF : AllF tab E all env H F) (hR : Ready F all D i o r) (ho : r.dst = o.dst) : ∀ s v, get (envOf F (addB D i) env) s = some v → get (setD o r.v (envOf F D env)) s = some v := by
 intro s v h
 unfold setD
 by_cases hd : r.dst = some s
 ·rw [envOf_some hF.dst hR.hr (addB_self D i) hd] at h
  rw [← ho, hd]
  simp only [get_cons, if_true]
  exact h
 ·have e : get (envOf F (addB D i) env) s = get (envOf F D env) s := by
   refine envOf_congr fun j q hq hqd => addB_other fun e => ?_
   subst e
   rw [hR.hr] at hq
   simp only [Option.some.injEq] at hq
   subst hq
   exact hd hqd
  rw [e] at h
  rw [← ho]
  split
  ·rename_i d hd'
   rw [get_cons, if_neg fun e => hd (by rw [hd', e])]
   exact h
  ·exact h
theorem Ready.heaps (hF : AllF tab E all env H F) (hR : Ready F all D i o r) : Same (r.e ++ heapOf F D H) (heapOf F (addB D i) H) := by
 have key : ∀ k, _ := fun k => heapOf_add (H := H) (k := k) (D := D) hR.hr fun j q hq hij hj x hx y hy he => by
  obtain ⟨b, hb⟩ := hF.op hq
  rcases (apart_spec (hF.apart i j o b r q hij hR.ho hb hR.hr hq)).2 with h1 | h1
  ·rw [hR.later hq hj] at h1; cases h1
  ·by_cases hm : mutates o r = true
   ·have := own_of (by rw [(h1.ma hm).2]; simp) hx
    have h2 := h1.kb y hy
    unfold ownKey at this
    rw [he, h2] at this; cases this
   ·have := own_of hm hy
    have h2 := h1.ka x hx
    unfold ownKey at this
    rw [← he, h2] at this; cases this
 exact ⟨fun k => (key k).1, fun k => (key k).2⟩
end
section
variable {P : Program} {tab : Tab} {E : Ents} {ops : Array Oper} {env : Env} {H : Heap} {F : List Rec} {B : Base} {Q : Exit → Act → World → Prop}
theorem ready_mem {listed : Array Bool} {i : Nat} (h : i ∈ Region.ready .any ops listed) : i < ops.size ∧ listed.getD i true = false ∧ ∃ o, ops[i]? = some o ∧ ∀ e ∈ o.after.toList, Region.binds .any e = true → listed.getD e.on false = true := by
 unfold Region.ready at h
 rw [List.mem_filter] at h
 obtain ⟨h1, h2⟩ := h
 simp only [Bool.and_eq_true, Bool.not_eq_true'] at h2
 have hi := List.mem_range.1 h1
 refine ⟨hi, h2.1, ops[i], Array.getElem?_eq_getElem hi, fun e he hb => ?_⟩
 have := h2.2
 rw [Array.getElem?_eq_getElem hi] at this
 simp only [Option.map_some, Option.getD_some, Array.all_eq_true_iff_forall_mem] at this
 have := this e (by simpa using he)
 simpa [hb] using this
theorem ready_nil {listed : Array Bool} (h : Region.ready .any ops listed = []) (i : Nat) (o : Oper) (ho : ops[i]? = some o) (hd : ∀ e ∈ o.after.toList, Region.binds .any e = true → listed.getD e.on false = true) : listed.getD i true = true := by
 have hi : i < ops.size := (Array.getElem?_eq_some_iff.1 ho).1
 cases hl : listed.getD i true with
 | true => rfl
 | false =>
  have : i ∈ Region.ready .any ops listed := by
   unfold Region.ready
   rw [List.mem_filter]
   refine ⟨List.mem_range.2 hi, ?_⟩
   rw [hl, ho]
   simp only [Option.map_some, Option.getD_some, Bool.not_false, Bool.true_and, Array.all_eq_true_iff_forall_mem]
   intro e he
   cases hb : Region.binds .any e with
   | false => rfl
   | true => simp [hd e (by simpa using he) hb]
  rw [h] at this
  cases this
theorem any_sound (hT : TabOK P tab) (hE : EntsOK P E) (hF : AllF tab E ops.toList env H F) (hdst : ∀ o ∈ ops.toList, ∀ d, o.dst = some d → d < B.n)
  (hQ : ∀ g a w, Rel B g (envOf F (2 ^ F.length - 1) env) (heapOf F (2 ^ F.length - 1) H) a w → Q .normal a w) : ∀ (fuel D : Nat) (listed : Array Bool) (g : Gh) (a : Act) (w : World),
  listed.size = ops.size → (∀ i b, i < ops.size → listed.getD i b = D.testBit i) → Closed F D → (List.range ops.size).countP (fun k => !D.testBit k) ≤ fuel → Rel B g (envOf F D env) (heapOf F D H) a w → wpAny P .any ops Q fuel listed a w := by
 have hlen : F.length = ops.size := by rw [hF.len, Array.length_toList]
 have hend : ∀ D g a w, (∀ i, i < ops.size → D.testBit i = true) → Rel B g (envOf F D env) (heapOf F D H) a w → Q .normal a w := by
  intro D g a w hD R
  have hb : ∀ i, i < F.length → D.testBit i = (2 ^ F.length - 1).testBit i := fun i hi => by
   rw [hD i (by omega), Nat.testBit_two_pow_sub_one]
   simp [hi]
  rw [envOf_bits F hb, heapOf_bits F hb] at R
  exact hQ g a w R
 intro fuel
 induction fuel with
 | zero =>
  intro D listed g a w hs hl hc hn R
  have hall : ∀ i, i < ops.size → D.testBit i = true := fun i hi => by
   have h0 : (List.range ops.size).countP (fun k => !D.testBit k) = 0 := by omega
   rw [List.countP_eq_zero] at h0
   have := h0 i (List.mem_range.2 hi)
   simpa using this
  refine ⟨?_, hend D g a w hall R⟩
  cases hr : Region.ready .any ops listed with
  | nil => rfl
  | cons x xs =>
   obtain ⟨h1, h2, _⟩ := ready_mem (i := x) (by rw [hr]; simp)
   rw [hl x true h1, hall x h1] at h2
   cases h2
 | succ fuel ih =>
  intro D listed g a w hs hl hc hn R
  refine ⟨fun hr => hend D g a w (fun i => ?_) R, fun i hi => ?_⟩
  ·induction i using Nat.strongRecOn with
   | _ i ihi =>
    intro hi
    rw [← hl i true hi]
    have ho : ops[i]? = some ops[i] := Array.getElem?_eq_getElem hi
    have ho' : ops.toList[i]? = some ops[i] := by rw [Array.getElem?_toList]; exact ho
    obtain ⟨r, hrec⟩ := hF.recd ho'
    obtain ⟨_, hd, _⟩ := hF.fact i _ r ho' hrec
    refine ready_nil hr i _ ho fun e he hb => ?_
    have hlt : e.on < i := testBit_lt (hF.edge i r hrec) (hd.on e he hb)
    rw [hl e.on false (by omega)]
    exact ihi e.on hlt (by omega)
  ·obtain ⟨hi1, hi2, o, ho, hi3⟩ := ready_mem hi
   have ho' : ops.toList[i]? = some o := by rw [Array.getElem?_toList]; exact ho
   have hom : o ∈ ops.toList := List.mem_of_getElem? ho'
   obtain ⟨r, hr⟩ := hF.recd ho'
   obtain ⟨hrd, hdep, hfact⟩ := hF.fact i o r ho' hr
   have hun : D.testBit i = false := by rw [← hl i true hi1]; exact hi2
   have hon : ∀ e ∈ o.after.toList, Region.binds .any e = true → D.testBit e.on = true := fun e he hb => by
    have hlt : e.on < i := testBit_lt (hF.edge i r hr) (hdep.on e he hb)
    rw [← hl e.on false (by omega)]
    exact hi3 e he hb
   have hR : Ready F ops.toList D i o r := ⟨hc, ho', hr, hun, fun k hk => by
    obtain ⟨e, he, hb, h1⟩ := hdep.why k hk
    rcases h1 with h1 | ⟨q, hq, h1⟩
    ·rw [h1]; exact hon e he hb
    ·exact hc e.on q hq (hon e he hb) k h1⟩
   -- what comes behind
   have next : ∀ g' a' w', Rel B g' (setD o r.v (envOf F D env)) (r.e ++ heapOf F D H) a' w' → wpAny P .any ops Q fuel (listed.setIfInBounds i true) a' w' := by
    intro g' a' w' R'
    refine ih (addB D i) _ g' a' w' (by simp [hs]) (fun k b hk => ?_) (hc.add hr hR.dep) ?_ (R'.congr (hR.heaps hF) (hR.envs hF hrd))
    ·by_cases e : k = i
     ·subst e
      rw [addB_self, Array.getD_eq_getD_getElem?, Array.getElem?_setIfInBounds_self_of_lt (by omega)]
      rfl
     ·rw [addB_other e, ← hl k b hk, Array.getD_eq_getD_getElem?, Array.getD_eq_getD_getElem?, Array.getElem?_setIfInBounds_ne (Ne.symm e)]
    ·have := (countP_add hun (List.range ops.size)).2 (List.mem_range.2 hi1)
     omega
   have hd : ∀ d, o.dst = some d → d < B.n := hdst o hom
   have go : Region.wanted o (yielded ops a.tmps) = true → Stepped tab E env H F o r → wpOp P ops Q i (wpAny P .any ops Q fuel (listed.setIfInBounds i true)) a w := by
    intro hw hst
    unfold wpOp
    rw [ho]
    simp only [hw, if_true]
    refine .inl ?_
    have h0 : stepK tab E (heapOf F r.deps H) o (ev (envOf F r.deps env)) (fun v e => some (v, e)) = some (r.v, r.e) := (hst _ _).1
    have hlk := (hst Unit fun _ _ => none).2
    have h1 : stepK tab E (heapOf F D H) o (ev (envOf F D env)) (fun v e => some (v, e)) = some (r.v, r.e) := by
     refine stepK_mono (fun x hx => ?_) (fun ht => by
      cases hk : r.k with
      | none => exact .inl (hR.sub hF ht hk)
      | some k => exact .inr ⟨k, hlk k hk, fun ob h => hR.subk hF ht hk h⟩) (fun m hm => hR.fr hF m hm) h0
     cases x with
     | tmp t =>
      refine hR.gets hF ?_
      unfold reads
      exact List.mem_append_left _ (List.mem_filterMap.2 ⟨_, hx, rfl⟩)
     | _ => rfl
    refine stepK_sound hT hE R hd h1 fun v e g' cv w' R' he => ?_
    simp only [Option.some.injEq, Prod.mk.injEq] at he
    obtain ⟨rfl, rfl⟩ := he
    exact next g' _ w' R'
   have skip : Region.wanted o (yielded ops a.tmps) = false → r.v = .tup [] → r.e = [] → wpOp P ops Q i (wpAny P .any ops Q fuel (listed.setIfInBounds i true)) a w := by
    intro hw hv he
    unfold wpOp
    rw [ho]
    simp only [hw, Bool.false_eq_true, if_false]
    refine next g _ w ?_
    rw [hv, he]
    exact R.skip hd
   cases hg : o.guard with
   | none =>
    rw [hg] at hfact
    exact go (by simp [Region.wanted, hg]) hfact
   | some jw =>
    obtain ⟨j, want⟩ := jw
    rw [hg] at hfact
    obtain ⟨d, hj, hcase⟩ := hfact
    have hread : d ∈ reads ops.toList o := by
     unfold reads
     simp [hg, hj]
    have hget := hR.gets (env := env) hF hread
    rcases hcase with ⟨h1, h2, h3⟩ | ⟨p, h1, h2⟩
    ·rw [← hget] at h1
     obtain ⟨vs, q1, q2⟩ := R.env d _ h1
     have q3 : vs = #[] := by
      simp only [RVals] at q2
      exact Array.toList_inj.1 (by simpa using q2)
     subst q3
     exact skip (by simp [Region.wanted, hg, yielded_tup hj q1]) h2 h3
    ·rw [← hget] at h1
     have q1 : a.tmps.getD d undef = .bool p := rc_bool (rv_one (c := .bool p) rfl (R.env d _ h1))
     have hy := yielded_bool hj q1
     rcases h2 with ⟨rfl, h2⟩ | ⟨hne, h2, h3⟩
     ·exact go (by simp [Region.wanted, hg, hy]) h2
     ·exact skip (by simp [Region.wanted, hg, hy, hne]) h2 h3
/-- Regions that draw their order. -/
theorem draw_ok (hm : P.follows .mixedOrders = true) (hT : TabOK P tab) (hE : EntsOK P E) : DrawOK P tab E B := by
 intro R r id ops g env H a w K Q hdst hK Rl h
 obtain ⟨suf, hD, h1, _, h2⟩ := runD_facts (all := ops.toList) ops.toList [] ⟨[], rfl, rfl⟩ (fun i q hq => by simp [recAt] at hq) h
 rw [List.append_nil] at hD h1 h2
 have hF : AllF tab E ops.toList env H suf := { hD with fact := fun i o q ho hq => h2 i o q (Nat.zero_le _) ho hq }
 refine wp_region_any hm (any_sound hT hE hF hdst (fun g a w R' => hK g _ _ a w R' h1) ops.size 0 _ g a _ (by simp) (fun i b hi => by simp [Array.getD_eq_getD_getElem?, hi]) (fun j q _ hj => by simp at hj) ?_ ?_)
 ·exact Nat.le_trans List.countP_le_length (by simp)
 ·rw [envOf_zero, heapOf_zero]
  exact Rl.drew
end
def zeroB : List C → List Value → Bool
 | [], [] => true
 | c :: cs, u :: us => (match c, u with
  | .int k n, .int k' n' => decide (k = k') && decide (n = n')
  | .bool b, .bool b' => b == b'
  | .str s, .string s' => Nat.beq s.size 0 && Nat.beq s'.size 0
  | .nil, .slice none 0 0 => true
  | .nilp, .pointer none => true
  | _, _ => false) && zeroB cs us
 | _, _ => false
theorem ba_empty {s : ByteArray} (h : Nat.beq s.size 0 = true) : s = ByteArray.empty := by
 have := nb_eq h
 exact ByteArray.size_eq_zero_iff.1 this
theorem zeroB_is : ∀ {cs : List C} {us : List Value}, zeroB cs us = true → zeroIs cs us
 | [], [], _ => rfl
 | [], u :: us, h => by simp [zeroB] at h
 | c :: cs, [], h => by simp [zeroB] at h
 | c :: cs, u :: us, h => by
  simp only [zeroB, Bool.and_eq_true] at h
  refine ⟨u, us, rfl, ?_, zeroB_is h.2⟩
  have h1 := h.1
  split at h1
  ·simp only [Bool.and_eq_true, decide_eq_true_eq] at h1
   obtain ⟨rfl, rfl⟩ := h1; rfl
  ·simp only [beq_iff_eq] at h1
   subst h1; rfl
  ·simp only [Bool.and_eq_true] at h1
   rw [ba_empty h1.1, ba_empty h1.2]
  ·rfl
  ·rfl
  ·cases h1
/-- The cells of the zero of a code, off a list. -/
def dfltC : T → List C → Option (List C)
 | .int k, .int k' n :: r => bif decide (k = k') && decide (n = 0) then some r else none
 | .bool, .bool b :: r => bif b then none else some r
 | .str, .str s :: r => bif Nat.beq s.size 0 then some r else none
 | .list _, .nil :: r => some r
 | .pair a b, cs => (dfltC a cs).bind fun r => dfltC b r
 | .unit, cs => some cs
 | _, _ => none
theorem dfltC_ow {w : World} : ∀ {t : T} {cs rest : List C} {vs : List Value}, dfltC t cs = some rest → zeroIs cs vs → ∃ us ws, vs = us ++ ws ∧ Ow w t t.dflt us [] ∧ zeroIs rest ws
 | .int k, cs, rest, vs, h, hz => by
  cases cs with
  | nil => simp [dfltC] at h
  | cons c cs =>
   cases c <;> simp only [dfltC, reduceCtorEq] at h
   obtain ⟨h1, h2⟩ := bif_some h
   simp only [Bool.and_eq_true, decide_eq_true_eq] at h1
   obtain ⟨rfl, rfl⟩ := h1
   simp only [Option.some.injEq] at h2
   subst h2
   obtain ⟨u, us, rfl, h3, h4⟩ := hz
   exact ⟨[u], us, rfl, ⟨by rw [h3]; rfl, rfl⟩, h4⟩
 | .bool, cs, rest, vs, h, hz => by
  cases cs with
  | nil => simp [dfltC] at h
  | cons c cs =>
   cases c <;> simp only [dfltC, reduceCtorEq] at h
   rename_i b
   cases b <;> simp only [cond_true, cond_false, reduceCtorEq, Option.some.injEq] at h
   subst h
   obtain ⟨u, us, rfl, h3, h4⟩ := hz
   exact ⟨[u], us, rfl, ⟨by rw [h3]; rfl, rfl⟩, h4⟩
 | .str, cs, rest, vs, h, hz => by
  cases cs with
  | nil => simp [dfltC] at h
  | cons c cs =>
   cases c <;> simp only [dfltC, reduceCtorEq] at h
   obtain ⟨h1, h2⟩ := bif_some h
   simp only [Option.some.injEq] at h2
   subst h2
   obtain ⟨u, us, rfl, h3, h4⟩ := hz
   exact ⟨[u], us, rfl, ⟨by rw [h3, ba_empty h1]; rfl, rfl⟩, h4⟩
 | .list t, cs, rest, vs, h, hz => by
  cases cs with
  | nil => simp [dfltC] at h
  | cons c cs =>
   cases c <;> simp only [dfltC, reduceCtorEq] at h
   simp only [Option.some.injEq] at h
   subst h
   obtain ⟨u, us, rfl, h3, h4⟩ := hz
   exact ⟨[u], us, rfl, .inl ⟨rfl, rfl, none, by rw [h3]⟩, h4⟩
 | .pair a b, cs, rest, vs, h, hz => by
  simp only [dfltC, Option.bind_eq_some_iff] at h
  obtain ⟨r1, h1, h2⟩ := h
  obtain ⟨us, ws, rfl, o1, z1⟩ := dfltC_ow h1 hz
  obtain ⟨us', ws', rfl, o2, z2⟩ := dfltC_ow h2 z1
  exact ⟨us ++ us', ws', by simp, ⟨us, us', [], [], rfl, rfl, o1, o2⟩, z2⟩
 | .unit, cs, rest, vs, h, hz => by
  simp only [dfltC, Option.some.injEq] at h
  subst h
  exact ⟨[], vs, rfl, ⟨rfl, rfl⟩, hz⟩
def fldsB (P : Program) : List Field → List (Nat × Nat) → Bool
 | [], [] => true
 | fd :: fs, x :: l => Nat.beq fd.offset x.1 && (match P.info? fd.type with | some inf => Nat.beq inf.size x.2 | none => false) && fldsB P fs l
 | _, _ => false
theorem fldsB_spec {P : Program} : ∀ {fs : List Field} {l : List (Nat × Nat)}, fldsB P fs l = true → fs.length = l.length ∧ ∀ (f off n : Nat), l[f]? = some (off, n) → ∃ (fd : Field) (inf : TypeInfo), fs[f]? = some fd ∧ fd.offset = off ∧ P.info? fd.type = some inf ∧ inf.size = n
 | [], [], _ => ⟨rfl, fun f off n h => by simp at h⟩
 | [], x :: l, h => by simp [fldsB] at h
 | fd :: fs, [], h => by simp [fldsB] at h
 | fd :: fs, x :: l, h => by
  simp only [fldsB, Bool.and_eq_true] at h
  obtain ⟨⟨h1, h2⟩, h3⟩ := h
  obtain ⟨i1, i2⟩ := fldsB_spec h3
  refine ⟨by simp [i1], fun f off n hx => ?_⟩
  cases f with
  | zero =>
   simp only [List.getElem?_cons_zero, Option.some.injEq] at hx
   subst hx
   split at h2
   ·rename_i inf hi
    exact ⟨fd, inf, rfl, nb_eq h1, hi, nb_eq h2⟩
   ·cases h2
  | succ f =>
   simp only [List.getElem?_cons_succ] at hx
   simpa using i2 f off n hx
def descB (P : Program) (tab : Tab) (i : TI) (d : TypeDesc) : Bool :=
 (match d with | .struct fs => i.agg && fldsB P fs.toList i.flds | .array _ _ => false | _ => !i.agg && i.flds.isEmpty) &&
 (i.agg || match i.zero with
  | [.int k _] => (match d with | .int k' => decide (k = k') | _ => false)
  | [.str _] => (match d with | .string => true | _ => false)
  | [.bool _] => (match d with | .bool => true | _ => false)
  | _ => true) &&
 ((get tab i.elem).isNone || (match d with | .slice e => Nat.beq e i.elem | _ => false))
/-- Its zero value is not told. -/
def noZ (i : TI) : Bool := i.zero.isEmpty && !i.agg && !Nat.beq i.sz i.t.sz
theorem noZ_okZ {i : TI} (h : noZ i = true) : ¬ okZ i := by
 simp only [noZ, Bool.and_eq_true, Bool.not_eq_true', List.isEmpty_iff] at h
 rintro (h1 | h1 | h1)
 ·exact h1 h.1.1
 ·rw [h.1.2] at h1; cases h1
 ·rw [h1, Nat.beq_refl] at h; cases h.2
theorem noZ_or {i : TI} {b : Bool} (h : (noZ i || b) = true) (ho : okZ i) : b = true := by
 cases hn : noZ i with
 | true => exact absurd ho (noZ_okZ hn)
 | false => rwa [hn, Bool.false_or] at h
def tyB (P : Program) (tab : Tab) (t : TypeId) (i : TI) : Bool :=
 (match P.info? t with | some inf => Nat.beq inf.size i.sz && Nat.beq inf.bytes i.bytes && (match inf.zero with | some z => noZ i || zeroB i.zero z.cells.toList | none => false) | none => false) &&
 (noZ i || Nat.beq i.zero.length i.sz) && (i.agg || Nat.beq i.sz 1) && Nat.ble 1 i.sz &&
 (match P.underlying t with | some d => descB P tab i d | none => false) &&
 (!Nat.beq i.sz i.t.sz || match dfltC i.t i.zero with | some [] => true | _ => false)
theorem agg_of {P : Program} {i : TI} {d : TypeDesc} : (match d with | .struct fs => i.agg && fldsB P fs.toList i.flds | .array _ _ => false | _ => !i.agg && i.flds.isEmpty) = true → (match d with | .struct _ | .array _ _ => true | _ => false) = i.agg := by
 intro d1
 cases d <;> simp only [Bool.and_eq_true, Bool.not_eq_true', Bool.false_eq_true] at d1 <;> first | exact d1.1.symm | exact d1.elim
theorem tyB_ok {P : Program} {tab : Tab} {t : TypeId} {i : TI} (h : tyB P tab t i = true) : TyOK P tab t i := by
 simp only [tyB, Bool.and_eq_true] at h
 obtain ⟨⟨⟨⟨⟨h1, h2⟩, h3⟩, h4⟩, h5⟩, h6⟩ := h
 split at h1
 case h_2 => cases h1
 rename_i inf hinf
 simp only [Bool.and_eq_true] at h1
 obtain ⟨⟨s1, s2⟩, s3⟩ := h1
 split at s3
 case h_2 => cases s3
 rename_i z hz
 split at h5
 case h_2 => cases h5
 rename_i d hd
 simp only [descB, Bool.and_eq_true] at h5
 obtain ⟨⟨d1, d2⟩, d3⟩ := h5
 have ha := agg_of d1
 have hst : i.agg = true → ∃ fs, d = .struct fs ∧ fldsB P fs.toList i.flds = true := by
  intro hag
  split at d1
  ·rename_i fs
   simp only [Bool.and_eq_true] at d1
   exact ⟨fs, rfl, d1.2⟩
  ·cases d1
  ·rw [hag] at d1; simp at d1
 refine ⟨⟨inf, z, hinf, nb_eq s1, nb_eq s2, hz, fun ho => zeroB_is (noZ_or s3 ho), fun ho => nb_eq (noZ_or h2 ho)⟩, ⟨d, hd, ha⟩, fun hag => ?_, Nat.le_of_ble_eq_true h4, fun k n hz' hag => ?_, fun s hz' hag => ?_, fun b hz' hag => ?_, fun he => ?_, fun f off n hf => ?_, fun hag => ?_, fun vs hvs hsz w => ?_⟩
 ·rw [hag, Bool.false_or] at h3; exact nb_eq h3
 ·rw [hag, Bool.false_or, hz'] at d2
  simp only [] at d2
  split at d2
  ·simp only [decide_eq_true_eq] at d2
   rw [hd, d2]
  ·cases d2
 ·rw [hag, Bool.false_or, hz'] at d2
  simp only [] at d2
  split at d2
  ·exact hd
  ·cases d2
 ·rw [hag, Bool.false_or, hz'] at d2
  simp only [] at d2
  split at d2
  ·exact hd
  ·cases d2
 ·cases hg : get tab i.elem with
  | none => rw [hg] at he; cases he
  | some x =>
   rw [hg] at d3
   simp only [Option.isNone_some, Bool.false_or] at d3
   split at d3
   ·rw [hd, nb_eq d3]
   ·cases d3
 ·have hag : i.agg = true := by
   cases hag : i.agg with
   | true => rfl
   | false =>
    rw [hag] at d1
    split at d1
    ·simp at d1
    ·cases d1
    ·simp only [Bool.not_false, Bool.true_and, List.isEmpty_iff] at d1
     rw [d1] at hf; simp at hf
  obtain ⟨fs, rfl, hfs⟩ := hst hag
  obtain ⟨fd, inf', q1, q2, q3, q4⟩ := (fldsB_spec hfs).2 f off n hf
  exact ⟨fs, fd, inf', hd, by rw [← Array.getElem?_toList]; exact q1, q2, q3, q4⟩
 ·obtain ⟨fs, rfl, hfs⟩ := hst hag
  exact ⟨fs, hd, by rw [← Array.length_toList]; exact (fldsB_spec hfs).1⟩
 ·have hb : Nat.beq i.sz i.t.sz = true := by rw [hsz]; exact Nat.beq_refl _
  rw [hb, Bool.not_true, Bool.false_or] at h6
  split at h6
  ·rename_i hc
   obtain ⟨us, ws, rfl, h7, h8⟩ := dfltC_ow (w := w) hc hvs
   simp only [zeroIs] at h8
   subst h8
   rw [List.append_nil]
   exact h7
  ·cases h6
def tabB (P : Program) (tab : Tab) : Bool := tab.all fun x => tyB P tab x.1 x.2
theorem tab_of {P : Program} {tab : Tab} (h : tabB P tab = true) : TabOK P tab := by
 intro t i hg
 unfold tabB at h
 rw [List.all_eq_true] at h
 exact tyB_ok (h _ (get_mem hg))
def allK {R : Type} (keep : List Nat) : List (LS R) → Prop
 | [] => True
 | L :: l => L.keep = keep ∧ allK keep l
theorem allK_at {R : Type} {keep : List Nat} : ∀ {l : List (LS R)} {n : Nat} {L : LS R}, allK keep l → l[n]? = some L → L.keep = keep
 | [], n, L, _, h => by simp at h
 | L0 :: l, 0, L, hk, h => by
  simp only [List.getElem?_cons_zero, Option.some.injEq] at h
  subst h; exact hk.1
 | L0 :: l, n + 1, L, hk, h => by
  simp only [List.getElem?_cons_succ] at h
  exact allK_at hk.2 h
def all0 {R : Type} : List (LS R) → Prop
 | [] => True
 | L :: l => (∀ x, L.l x = none) ∧ all0 l
theorem all0_at {R : Type} : ∀ {l : List (LS R)} {n : Nat} {L : LS R}, all0 l → l[n]? = some L → ∀ x, L.l x = none
 | [], n, L, _, h => by simp at h
 | L0 :: l, 0, L, hk, h => by
  simp only [List.getElem?_cons_zero, Option.some.injEq] at h
  subst h; exact hk.1
 | L0 :: l, n + 1, L, hk, h => by
  simp only [List.getElem?_cons_succ] at h
  exact all0_at hk.2 h
def allS {R : Type} (φ : Nat → (L : LS R) → (DenV (L.live.map (·.2)) × DenO L.ob) → Option R) : Nat → List (LS R) → List (LS R) → Prop
 | _, [], [] => True
 | n, L' :: l', L :: l => (∃ f', L' = ⟨L.keep, L.live, L.ob, f'⟩ ∧ ∀ x, f' x = φ n L x) ∧ allS φ (n + 1) l' l
 | _, _, _ => False
theorem allS_at {R : Type} {φ : Nat → (L : LS R) → (DenV (L.live.map (·.2)) × DenO L.ob) → Option R} : ∀ {l' l : List (LS R)} {m n : Nat} {L' : LS R}, allS φ m l' l → l'[n]? = some L' → ∃ L f', l[n]? = some L ∧ L' = ⟨L.keep, L.live, L.ob, f'⟩ ∧ ∀ x, f' x = φ (m + n) L x
 | [], _, m, n, L', _, h => by simp at h
 | L0 :: l', [], m, n, L', hk, h => hk.elim
 | L0 :: l', L1 :: l, m, 0, L', hk, h => by
  simp only [List.getElem?_cons_zero, Option.some.injEq] at h
  subst h
  obtain ⟨⟨f', h1, h2⟩, _⟩ := hk
  exact ⟨L1, f', rfl, h1, h2⟩
 | L0 :: l', L1 :: l, m, n + 1, L', hk, h => by
  simp only [List.getElem?_cons_succ] at h
  obtain ⟨L, f', h1, h2, h3⟩ := allS_at hk.2 h
  exact ⟨L, f', h1, h2, fun x => by rw [h3]; congr 1; omega⟩
theorem EntsOK.nil {P : Program} : EntsOK P [] := fun f cl s h => by cases h
theorem EntsOK.cons {P : Program} {f : FuncId} {cl : List FuncId} {s : FS} {l : Ents} (h : Sound P f s) (hl : EntsOK P l) : EntsOK P ((⟨f, cl⟩, s) :: l) := by
 intro g c t ht
 simp only [find] at ht
 cases hb : Nat.beq f g && eqNs cl c with
 | true =>
  simp only [hb, cond_true, Option.some.injEq] at ht
  simp only [Bool.and_eq_true] at hb
  rw [← nb_eq hb.1, ← ht]; exact h
 | false =>
  simp only [hb, cond_false] at ht
  exact hl g c t ht
theorem sound_of {P : Program} {tab : Tab} (hm : P.follows .mixedOrders = true) (hT : TabOK P tab) {f : FuncId} {fn : Func} {c : Code} (hf : P.funcs[f]? = some fn) (hb : fn.body = some c) (hname : (fn.name == "runtime.NumGoroutine") = false) (S : ShapeParts) (hw : wfC fn.ntmps c = true) (ht : S.tup = !(Nat.beq fn.results.size 1))
  (pf : Nat → DenV S.ins × DenO S.io → Option (DenV S.outs × DenO S.oo)) (Ef : Nat → Ents) (hE : ∀ k, EntsOK P (Ef k)) (LSf : Nat → List (LS (DenV S.outs × DenO S.oo)))
  (hk : ∀ k, allK S.keep (LSf k)) (h0 : all0 (LSf 0)) (hS : ∀ k, allS (roundOf tab (Ef k) (LSf k) c (fin tab fn (S.fs (pf k)))) 0 (LSf (k + 1)) (LSf k))
  (hF : ∀ k x, pf k x = execF tab (Ef k) fn c (S.fs (pf k)) (LSf k) x) : ∀ k, Sound P f (S.fs (pf k)) :=
 fun_sound hT hf hb hname S hw ht hE (fun k B => draw_ok hm hT (hE k)) (fun k n L h j hj => by rw [allK_at (hk k) h]; exact hj) (fun n L h x => all0_at h0 h x)
  (fun k n L' h => by
   obtain ⟨L, f', h1, h2, h3⟩ := allS_at (hS k) h
   exact ⟨L, f', h1, h2, fun x => by have := h3 x; rwa [Nat.zero_add] at this⟩) hF
theorem tab_ok : TabOK Tryd.prog tab := tab_of (by kernel_rfl)
theorem mixed : Tryd.prog.follows .mixedOrders = true := by kernel_rfl
theorem snd {f : FuncId} {fn : Func} {c : Code} (S : ShapeParts) (pf : Nat → DenV S.ins × DenO S.io → Option (DenV S.outs × DenO S.oo)) (Ef : Nat → Ents) (hE : ∀ k, EntsOK Tryd.prog (Ef k)) (LSf : Nat → List (LS (DenV S.outs × DenO S.oo)))
  (hS : ∀ k, allS (roundOf tab (Ef k) (LSf k) c (fin tab fn (S.fs (pf k)))) 0 (LSf (k + 1)) (LSf k)) (hF : ∀ k x, pf k x = execF tab (Ef k) fn c (S.fs (pf k)) (LSf k) x)
  (hf : Tryd.prog.funcs[f]? = some fn := by kernel_rfl) (hb : fn.body = some c := by kernel_rfl) (hname : (fn.name == "runtime.NumGoroutine") = false := by kernel_rfl) (hw : wfC fn.ntmps c = true := by kernel_rfl) (ht : S.tup = !(Nat.beq fn.results.size 1) := by kernel_rfl)
  (hk : ∀ k, allK S.keep (LSf k) := by intro k; repeat (first | exact trivial | refine ⟨rfl, ?_⟩)) (h0 : all0 (LSf 0) := by repeat (first | exact trivial | refine ⟨fun _ => rfl, ?_⟩)) : ∀ k, Sound Tryd.prog f (S.fs (pf k)) :=
 sound_of mixed tab_ok hf hb hname S hw ht pf Ef hE LSf hk h0 hS hF
section
variable {P : Program} {tab : Tab} {E : Ents} {B : Base} {R : Type} {r : R}
theorem piece (hm : P.follows .mixedOrders = true) (hT : TabOK P tab) (hE : EntsOK P E) {c : Code} {g : Gh} {env : Env} {H : Heap} {a : Act} {w : World} {K : Ex → Env → Heap → Option R} {Q : Exit → Act → World → Prop}
  (hw : wfC B.n c = true) (h0 : nloops c = 0) (hK : KQ B r K Q) (Rl : Rel B g env H a w) (h : exec tab E [] c 0 env H K = some r) : c.wp P Q a w :=
 exec_sound (LS_ := []) (k := 0) hT hE (draw_ok hm hT hE) (fun n L h => by simp at h) c 0 K Q g env H a w hw hK (fun n h1 h2 => by omega) Rl h
/-- One operation that compares a slice with nil. -/
theorem nil_op {o : Oper} {t e ty : TypeId} {s d : Nat} {w : World} {a : Act} {N : Act → World → Prop} {Q : Exit → Act → World → Prop} {A : Option Addr} {n c : Nat} (hop : o.op = .binOp .eql t (.tmp s) (.const (.slice none 0 0)) ty) (hd : o.dst = some d) (hu : P.underlying t = some (.slice e))
  (hs : a.tmps.getD s undef = .slice A n c) (hN : N (a.put (some d) (.bool A.isNone)) w) : o.wp P a w N Q := by
 have hev : a.eval (.tmp s) = .slice A n c := by
  rw [← hs]; rfl
 have h2 : (execOp a.eval o).run P w = .ok (.value (.bool A.isNone)) w := by
  unfold execOp
  simp only [hop, hev]
  have h3 : a.eval (.const (.slice none 0 0)) = .slice none 0 0 := rfl
  rw [h3]
  have h4 := Lib.run_eql_slice_nil (P := P) w t e A n c 0 0 hu
  simp [eqGuard, h4]
 unfold Oper.wp
 rw [h2]
 show N (a.put o.dst (.bool A.isNone)) w
 rw [hd]
 exact hN
abbrev CloneR := (DenV [⟨false, [.own 100]⟩] × DenO [(100, .row true (.int .i64))])
def cloneF (a : List Int) : Option CloneR := bif decide ((0 + a.length) * 8 ≤ 140737488355328) then some ((((), ()), ()), (a, ())) else none
def cloneS : FS := ⟨[⟨false, [.lst (.int .i64)]⟩], [], false, [⟨false, [.own 100]⟩], [(100, .row true (.int .i64))], [], fun x => cloneF x.1.1.1⟩
abbrev lstV (xs : List Int) : V := .val false [.lst (.int .i64) xs]
theorem clone_sound (hm : P.follows .mixedOrders = true) (hT : TabOK P tab) {f : FuncId} {fn : Func} (hf : P.funcs[f]? = some fn) (hname : (fn.name == "runtime.NumGoroutine") = false) {o0 o1 : Oper} {Z0 Z2 Z3 : Array Oper} {i0 i1 i2 i3 : Nat} {t e ty : TypeId}
  (hb : fn.body = some (.seq (.region i0 Z0 false) (.seq (.seq (.region i1 #[o0, o1] false) (.cond (.tmp 4) (.seq (.region i2 Z2 false) .ret) .skip)) (.seq (.region i3 Z3 false) .ret))))
  (ht : cloneS.tup = !(Nat.beq fn.results.size 1)) (hn : fn.ntmps = 8) (hw0 : wfC 8 (.region i0 Z0 false) = true) (hw2 : wfC 8 (.region i2 Z2 false) = true) (hw3 : wfC 8 (.region i3 Z3 false) = true)
  (hd0 : o0.dst = some 3) (hg0 : o0.guard = none) (hd1 : o1.dst = some 4) (hg1 : o1.guard = none) (hop : o1.op = .binOp .eql t (.tmp 3) (.const (.slice none 0 0)) ty) (hu : P.underlying t = some (.slice e))
  (m0 : ∀ (xs : List Int) (K : Ex → Env → Heap → Option (Ex × Env × Heap)), exec tab [] [] (.region i0 Z0 false) 0 [(0, lstV xs)] [] K = K .normal [(2, .val false [.nil]), (0, lstV xs)] [])
  (m1 : ∀ (xs : List Int) (K : V → Heap → Option (V × Heap)), stepK tab [] [] o0 (ev [(2, .val false [.nil]), (0, lstV xs)]) K = K (lstV xs) [])
  (m2 : ∀ (xs : List Int) (K : Ex → Env → Heap → Option CloneR), exec tab [] [] (.seq (.region i2 Z2 false) .ret) 0 [(4, .val false [.bool true]), (3, lstV xs), (2, .val false [.nil]), (0, lstV xs)] [] K = K .ret [(2, .val false [.nil]), (4, .val false [.bool true]), (3, lstV xs), (2, .val false [.nil]), (0, lstV xs)] [])
  (m4 : ∀ (xs : List Int), fin tab fn cloneS .ret [(2, .val false [.nil]), (4, .val false [.bool true]), (3, lstV xs), (2, .val false [.nil]), (0, lstV xs)] [] = some ((((), ()), ()), (([] : List Int), ())))
  (m3 : ∀ (xs : List Int), exec tab [] [] (.seq (.region i3 Z3 false) .ret) 0 [(4, .val false [.bool false]), (3, lstV xs), (2, .val false [.nil]), (0, lstV xs)] [] (fin tab fn cloneS) = cloneF xs) : Sound P f cloneS := by
 refine ⟨⟨fn, hf, hname, by simp [hb]⟩, fun x y hy g w args hG hA => ?_⟩
 obtain ⟨⟨⟨xs, ⟨⟩⟩, ⟨⟩⟩, ⟨⟩⟩ := x
 have hy' : cloneF xs = some y := hy
 have hA0 := hA
 obtain ⟨v, vs, hargs, hv, hvs⟩ := hA
 have hvs' : vs = [] := hvs
 subst hvs'
 have hv' : RCs g [] w [.lst (.int .i64) xs] [v] := hv
 obtain ⟨v', vs', e1, hv1, hv2⟩ := hv'
 obtain ⟨e3, e4⟩ : v' = v ∧ vs' = [] := by simpa using e1.symm
 subst e3; subst e4
 obtain ⟨A, cp, e2, hcp, hel⟩ := hv1.2
 have hargs' : args = #[v'] := Array.toList_inj.1 (by simpa using hargs)
 subst hargs'
 refine calls_of_wp hf hb ?_
 have hsz : (#[v'] ++ Array.replicate (fn.ntmps - (#[v'] : Array Value).size) undef).size = 8 := by simp [hn]
 have Re : Rel ⟨w, g, [], 8, []⟩ g [(0, lstV xs)] [] { tmps := #[v'] ++ Array.replicate (fn.ntmps - (#[v'] : Array Value).size) undef, defers := [] } w :=
  { toRelG := hG, env := fun s u hs => envIn_rv (f := fun s => (#[v'] ++ Array.replicate (fn.ntmps - (#[v'] : Array Value).size) undef).getD s undef) (vs := [(false, [.lst (.int .i64) xs])]) hA0 (fun j v hj => by
          have hlt := (List.getElem?_eq_some_iff.1 hj).1
          rw [Array.length_toList] at hlt
          rw [Nat.zero_add, Array.getD_eq_getD_getElem?, Array.getElem?_append_left hlt, ← Array.getElem?_toList, hj]; rfl) s u hs,
        sz := hsz, df := rfl, fr := Ext.refl _ w, owB := fun b o h => .inl (by show g.ow b ≠ none; rw [h]; simp), FB := fun b h => .inl h, BF := fun b h => h, bs := fun b cur e fr h => ⟨cur, fr, h, rfl⟩,
        kp := fun j _ _ ob t n h1 h2 => ⟨ob, h1, h2, rfl⟩, kd := fun j ob _ h => ⟨ob, h, rfl, fun _ => rfl⟩ }
 have hK : KQ ⟨w, g, [], 8, []⟩ y (fin tab fn cloneS) (bodyPost P fn fun | .returned v, w' => ∃ g', Out cloneS (((xs, ()), ()), ()) y g w g' w' v | _, _ => False) := fin_sound (P := P) (s := cloneS) (x := (((xs, ()), ()), ())) hT ht
 generalize ({ tmps := #[v'] ++ Array.replicate (fn.ntmps - (#[v'] : Array Value).size) undef, defers := [] } : Act) = a at Re ⊢
 generalize (bodyPost P fn fun | .returned v, w' => ∃ g', Out cloneS (((xs, ()), ()), ()) y g w g' w' v | _, _ => False) = Q at hK ⊢
 refine wp_seq (piece hm hT EntsOK.nil hw0 rfl (K := fun x env H => some (x, env, H)) (r := (.normal, [(2, .val false [.nil]), (0, lstV xs)], [])) ?_ Re (m0 xs _))
 intro x1 g1 env1 H1 a1 w1 R1 h1
 simp only [Option.some.injEq, Prod.mk.injEq] at h1
 obtain ⟨rfl, rfl, rfl⟩ := h1
 refine wp_seq (wp_seq (wp_region ?_))
 show wpOps P #[o0, o1] _ [0, 1] a1 w1
 have hw1 : Region.wanted o0 (yielded #[o0, o1] a1.tmps) = true := by simp [Region.wanted, hg0]
 simp only [wpOps]
 rw [show (#[o0, o1] : Array Oper)[0]? = some o0 from rfl]
 simp only [hw1, if_true]
 have hlt0 : ∀ d, o0.dst = some d → d < 8 := fun d h => by rw [← Option.some.inj (hd0.symm.trans h)]; exact (by decide : 3 < 8)
 refine .inl (stepK_sound hT EntsOK.nil R1 (fun d h => hlt0 d h) (m1 xs (fun v e => some (v, e))) fun v e g2 cv w2 R2 h2 => ?_)
 simp only [Option.some.injEq, Prod.mk.injEq] at h2
 obtain ⟨rfl, rfl⟩ := h2
 rw [hd0] at R2 ⊢
 simp only [setD, hd0, List.nil_append] at R2
 have hw2' : Region.wanted o1 (yielded #[o0, o1] (a1.put (some 3) cv).tmps) = true := by simp [Region.wanted, hg1]
 rw [show (#[o0, o1] : Array Oper)[1]? = some o1 from rfl]
 simp only [hw2', if_true]
 obtain ⟨A2, c2, e5, _, hel2⟩ := (rv_one (c := .lst (.int .i64) xs) rfl (R2.env 3 _ rfl)).2
 have e5' := (List.cons.inj e5).1
 have hd1' : ∀ d, o1.dst = some d → d < 8 := fun d h => by rw [← Option.some.inj (hd1.symm.trans h)]; exact (by decide : 4 < 8)
 have R3 : Rel ⟨w, g, [], 8, []⟩ g2 (setD o1 (.val false [.bool A2.isNone]) [(3, lstV xs), (2, .val false [.nil]), (0, lstV xs)]) [] ((a1.put (some 3) cv).put o1.dst (.bool A2.isNone)) w2 :=
  R2.put hd1' ⟨_, [], rfl, ⟨rfl, rfl⟩, rfl⟩
 rw [hd1] at R3
 simp only [setD, hd1] at R3
 refine .inl (nil_op (Q := _) hop hd1 hu e5' ?_)
 generalize ((a1.put (some 3) cv).put (some 4) (.bool A2.isNone)) = a3 at R3 ⊢
 show (Code.cond (.tmp 4) _ .skip).wp P _ a3 w2
 have hc := rc_bool (rv_one (c := .bool A2.isNone) rfl (R3.env 4 _ rfl))
 cases A2 with
 | none =>
  have hx : xs = ([] : List Int) := by
   by_cases h : xs = ([] : List Int)
   ·exact h
   ·obtain ⟨_, _, _, h', _⟩ := hel2 h
    cases h'
  subst hx
  refine wp_cond_true hc ?_
  have hy2 : y = ((((), ()), ()), (([] : List Int), ())) := by
   have : cloneF [] = some ((((), ()), ()), (([] : List Int), ())) := rfl
   rw [this] at hy'
   exact (Option.some.inj hy').symm
  refine piece hm hT EntsOK.nil (K := fun x env H => match x with | .normal => none | x => fin tab fn cloneS x env H) (r := y) (by simp only [wfC, Bool.and_true]; exact hw2) rfl (fun x g env H a w R h => ?_) R3 ?_
  ·cases x with
   | normal => cases h
   | ret => exact hK .ret g env H a w R h
   | exit id => exact hK (.exit id) g env H a w R h
  ·exact (m2 _ _).trans ((m4 _).trans (congrArg some hy2.symm))
 | some A2 =>
  refine wp_cond_false hc (wp_skip ?_)
  refine piece hm hT EntsOK.nil (K := fin tab fn cloneS) (r := y) (by simp only [wfC, Bool.and_true]; exact hw3) rfl hK R3 ?_
  exact (m3 xs).trans hy'
end
abbrev slices_Clone_int64_int64.R := CloneR
abbrev slices_Clone_int64_int64.f (_k : Nat) (a : List Int) : Option slices_Clone_int64_int64.R := cloneF a
abbrev slices_Clone_int64_int64.s (_k : Nat) : FS := cloneS
noncomputable def cat1 : Code → Code
 | .seq a _ => a
 | c => c
noncomputable def cat2 : Code → Code
 | .seq _ a => a
 | c => c
noncomputable def opsOf : Code → Array Oper
 | .region _ o _ => o
 | _ => #[]
noncomputable def thenOf : Code → Code
 | .cond _ a _ => a
 | c => c
noncomputable def cloneC : Code := Tryd.f47.body.getD .skip
noncomputable def cloneR1 : Array Oper := opsOf (cat1 (cat1 (cat2 cloneC)))
noncomputable def cloneO0 : Oper := (cloneR1.toList[0]?).getD default
noncomputable def cloneO1 : Oper := (cloneR1.toList[1]?).getD default
noncomputable def cloneT : TypeId := match cloneO1.op with
 | .binOp _ t _ _ _ => t
 | _ => 0
noncomputable def cloneE : TypeId := match Tryd.prog.underlying cloneT with
 | some (.slice e) => e
 | _ => 0
theorem slices_Clone_int64_int64.sound (k : Nat) : Sound Tryd.prog 47 (slices_Clone_int64_int64.s k) :=
 clone_sound mixed tab_ok (f := 47) (fn := Tryd.f47) (by kernel_rfl) (by kernel_rfl) (o0 := cloneO0) (o1 := cloneO1) (Z0 := opsOf (cat1 cloneC)) (Z2 := opsOf (cat1 (thenOf (cat2 (cat1 (cat2 cloneC)))))) (Z3 := opsOf (cat1 (cat2 (cat2 cloneC))))
  (i0 := 0) (i1 := 1) (i2 := 2) (i3 := 3) (t := cloneT) (e := cloneE) (ty := cloneT)
  (by kernel_rfl) (by kernel_rfl) (by kernel_rfl) (by kernel_rfl) (by kernel_rfl) (by kernel_rfl) (by kernel_rfl) (by kernel_rfl) (by kernel_rfl) (by kernel_rfl) (by kernel_rfl) (by kernel_rfl)
  (by intro xs K; kernel_rfl) (by intro xs K; kernel_rfl) (by intro xs K; kernel_rfl) (by intro xs; kernel_rfl) (by intro xs; kernel_rfl)
theorem LX.lt {F : Nat → Prop} {w : World} (h : LX F w) : LT w := by
 obtain ⟨l, h1, h2⟩ := h
 exact h1 w fun x hx => (h2 x hx).2
/-- A world with more in it. -/
def Grown (w w' : World) : Prop := Ext (fun _ => False) w w'
theorem Grown.heap {w w' : World} (h : Grown w w') {b : Nat} (hb : b < w.heap.size) : w'.heap[b]? = w.heap[b]? := h.block b hb fun h => h
theorem Grown.ext {w w' : World} (h : Grown w w') (own : Nat → Prop) : Ext own w w' := ⟨h.os, h.tape, h.output, h.size, fun b hb _ => h.heap hb⟩
theorem Grown.bs {w w' : World} (h : Grown w w') (b : Nat) (cur : Array Value) (e : TypeId) (fr : Nat × Nat) (hb : w.heap[b]? = some (Go.Obj.cells cur e fr)) : ∃ (cur' : Array Value) (fr' : Nat × Nat), w'.heap[b]? = some (Go.Obj.cells cur' e fr') ∧ cur'.size = cur.size :=
 ⟨cur, fr, (h.heap (Array.getElem?_eq_some_iff.1 hb).1).trans hb, rfl⟩
theorem args1 {g : Gh} {H : Heap} {w : World} {c : C} {l : List (Bool × List C)} {vs : List Value} (h : RVals g H w ((false, [c]) :: l) vs) : ∃ u us, vs = u :: us ∧ RC g H w c u ∧ RVals g H w l us := by
 obtain ⟨u, us, e, h1, h2⟩ := h
 have h1' : RCs g H w [c] [u] := h1
 obtain ⟨q, qs, f1, r1, _⟩ := h1'
 obtain ⟨rfl, _⟩ : q = u ∧ qs = [] := by simpa using f1.symm
 exact ⟨q, us, e, r1, h2⟩
/-- A text comes back. -/
def strS (ins : List VS) (F : DenV ins → Option ByteArray) : FS := ⟨ins, [], false, [⟨false, [.str]⟩], [], [], fun x => (F x.1).map fun s => (((s, ()), ()), ())⟩
theorem str_sound {P : Program} {f : FuncId} (hc : Callable P f) {ins : List VS} {F : DenV ins → Option ByteArray}
  (h : ∀ x s, F x = some s → ∀ (g : Gh) (w : World) (args : Array Value), LT w → RVals g [] w (instV ins x) args.toList → Calls P f args w fun e w' => e = .returned (.string s) ∧ Grown w w') : Sound P f (strS ins F) := by
 refine ⟨hc, fun x y hy g w args hG hA => ?_⟩
 obtain ⟨s, hs, rfl⟩ := Option.map_eq_some_iff.1 (show (F x.1).map (fun s => (((s, ()), ()), ())) = some y from hy)
 refine (h x.1 s hs g w args hG.lx.lt hA).mono fun e w' he => ?_
 obtain ⟨rfl, hgr⟩ := he
 refine ⟨⟨fun _ => none, fun _ => none, g.F⟩, ?_⟩
 exact {
  rel := ⟨fun o ob ho => (by cases ho), fun b o (ho : none = some o) => (by cases ho), fun b hb => Nat.lt_of_lt_of_le (hG.F b hb) hgr.size, hG.lx.mono fun b hb => ⟨hb, hgr.heap (hG.F b hb)⟩⟩,
  val := ⟨_, [], rfl, ⟨rfl, rfl⟩, rfl⟩,
  ext := hgr.ext _, ow := fun b o (ho : none = some o) => (by cases ho), F := fun b hb => .inl hb, Fg := fun b hb => hb, bs := hgr.bs, kp := fun j hj => (by cases hj), kd := fun j ob _ ho => (by cases ho) }
/-- A row of texts comes back. -/
def rowS (ins : List VS) (F : DenV ins → Option (List ByteArray)) : FS := ⟨ins, [], false, [⟨false, [.own 100]⟩], [(100, .row true .str)], [], fun x => (F x.1).map fun s => ((((), ()), ()), (s, ()))⟩
theorem efs_str {d : Bool} {F : Nat → Prop} {w : World} : ∀ l : List ByteArray, EFs (El d F w .str) 1 l (l.map Value.string) []
 | [] => ⟨rfl, rfl⟩
 | s :: l => ⟨[.string s], l.map Value.string, [], [], rfl, rfl, rfl, by unfold El; cases d <;> exact ⟨rfl, rfl⟩, efs_str l⟩
theorem row_sound {P : Program} {f : FuncId} (hc : Callable P f) {ins : List VS} {F : DenV ins → Option (List ByteArray)} {ty : TypeId}
  (h : ∀ x l, F x = some l → ∀ (g : Gh) (w : World) (args : Array Value), LT w → RVals g [] w (instV ins x) args.toList → Calls P f args w fun e w' => e = .returned (.slice (some ⟨w.heap.size, 0, none⟩) l.length l.length) ∧ w' = w.alloc (.cells (l.map Value.string).toArray ty)) : Sound P f (rowS ins F) := by
 refine ⟨hc, fun x y hy g w args hG hA => ?_⟩
 obtain ⟨l, hl, rfl⟩ := Option.map_eq_some_iff.1 (show (F x.1).map (fun s => ((((), ()), ()), (s, ()))) = some y from hy)
 refine (h x.1 l hl g w args hG.lx.lt hA).mono fun e w' he => ?_
 obtain ⟨rfl, rfl⟩ := he
 have hgr : Grown w (w.alloc (.cells (l.map Value.string).toArray ty)) := alloc_ext _ w _
 have hsz : w.heap.size < (w.alloc (.cells (l.map Value.string).toArray ty)).heap.size := by simp
 have hat : ∀ o ob, Heap.at [(100, some (Obj.row true .str 0 l))] o = some ob → o = 100 ∧ ob = .row true .str 0 l := fun o ob ho => by
  rw [at_cons] at ho
  split at ho
  ·rename_i e; exact ⟨e.symm, (Option.some.inj ho).symm⟩
  ·cases ho
 let g' : Gh := ⟨fun j => if j = 100 then some (w.heap.size, 0) else none, fun b => if b = w.heap.size then some 100 else none, g.F⟩
 have hro : RO g' [(100, some (Obj.row true .str 0 l))] (w.alloc (.cells (l.map Value.string).toArray ty)) 100 (.row true .str 0 l) := by
  simp only [RO, g', if_true]
  exact ⟨_, ty, [], l.map Value.string, [], [], trivial, heap_alloc_new w _, by simp, by simp, efs_str l, by simp, fun b hb => by cases hb⟩
 refine ⟨g', ?_⟩
 exact {
  rel := ⟨fun o ob ho => (by obtain ⟨rfl, rfl⟩ := hat o ob ho; exact hro), fun b o ho => (by
   simp only [g'] at ho
   split at ho
   ·rename_i e; subst e; exact ⟨fun hF => by have := hG.F _ hF; omega, hsz⟩
   ·cases ho), fun b hb => Nat.lt_of_lt_of_le (hG.F b hb) hgr.size, hG.lx.mono fun b hb => ⟨hb, hgr.heap (hG.F b hb)⟩⟩,
  val := rv_mk (c := .own 100 0 0) ⟨rfl, (known_cons 100 _ _ 100).2 (.inl rfl), fun ob t' e' n h1 h2 => Nat.zero_le _, fun ob t' n h1 h2 => (by
   obtain ⟨_, rfl⟩ := hat _ _ h1
   obtain ⟨rfl, _, rfl⟩ := h2
   simp only [OwnRef, g', if_true]
   exact ⟨some ⟨w.heap.size, 0, none⟩, l.length, _, ty, (0, 0), (by simp; rfl), Nat.zero_le _, Nat.le_refl _, heap_alloc_new w _, by simp [T.sz], fun _ => by simp⟩)⟩,
  ext := hgr.ext _,
  ow := fun b o ho => (by
   simp only [g'] at ho
   split at ho
   ·rename_i e; subst e; exact .inr (Nat.le_refl _)
   ·cases ho),
  F := fun b hb => .inl hb, Fg := fun b hb => hb, bs := hgr.bs, kp := fun j hj => (by cases hj), kd := fun j ob hj ho => (by obtain ⟨rfl, _⟩ := hat j ob ho; omega) }
end
end Go.Proofs.YtkfehogikjcgkaaDoor.V
namespace Go.Proofs
open Go.Shelf
def Tryd.lays173_ren : Go.Shelf.Ren := ⟨fun | 173 => 57 | 246 => 63 | 283 => 72 | 284 => 73 | 285 => 74 | 286 => 75 | 129 => 86 | 317 => 85 | 318 => 87 | 319 => 88 | 320 => 89 | 337 => 96 | 338 => 97 | n => n, fun | 2 => 2 | 3 => 3 | 9 => 9 | 4 => 4 | 171 => 84 | 0 => 0 | 53 => 76 | 37 => 67 | 5 => 5 | 173 => 87 | 212 => 100 | 51 => 101 | 20 => 20 | 213 => 102 | 46 => 79 | 232 => 116 | 233 => 117 | n => n, fun | 17 => 2 | 18 => 6 | 19 => 7 | n => n⟩
theorem Tryd.lays173 : Go.Proofs.LaysM.n173 Tryd.prog Tryd.lays173_ren := {
  mixed := by kernel_rfl
  f129 := Tryd.func86.trans (congrArg some (by kernel_rfl))
  f173 := Tryd.func57.trans (congrArg some (by kernel_rfl))
  f246 := Tryd.func63.trans (congrArg some (by kernel_rfl))
  f283 := Tryd.func72.trans (congrArg some (by kernel_rfl))
  f284 := Tryd.func73.trans (congrArg some (by kernel_rfl))
  f285 := Tryd.func74.trans (congrArg some (by kernel_rfl))
  f286 := Tryd.func75.trans (congrArg some (by kernel_rfl))
  f317 := Tryd.func85.trans (congrArg some (by kernel_rfl))
  f318 := Tryd.func87.trans (congrArg some (by kernel_rfl))
  f319 := Tryd.func88.trans (congrArg some (by kernel_rfl))
  f320 := Tryd.func89.trans (congrArg some (by kernel_rfl))
  f337 := Tryd.func96.trans (congrArg some (by kernel_rfl))
  f338 := Tryd.func97.trans (congrArg some (by kernel_rfl))
  t0 := Tryd.underlying0
  a0 := Tryd.isAgg0
  z0 := Tryd.sizeOf0
  v0 := Tryd.zeroValue0
  t2 := Tryd.underlying2
  a2 := Tryd.isAgg2
  z2 := Tryd.sizeOf2
  v2 := Tryd.zeroValue2
  t3 := Tryd.underlying3
  a3 := Tryd.isAgg3
  z3 := Tryd.sizeOf3
  v3 := Tryd.zeroValue3
  t4 := Tryd.underlying4
  a4 := Tryd.isAgg4
  z4 := Tryd.sizeOf4
  v4 := Tryd.zeroValue4
  t5 := Tryd.underlying5
  a5 := Tryd.isAgg5
  z5 := Tryd.sizeOf5
  v5 := Tryd.zeroValue5
  t9 := Tryd.underlying9
  a9 := Tryd.isAgg9
  z9 := Tryd.sizeOf9
  v9 := Tryd.zeroValue9
  t20 := Tryd.underlying20
  a20 := Tryd.isAgg20
  z20 := Tryd.sizeOf20
  v20 := Tryd.zeroValue20
  t37 := Tryd.underlying67
  a37 := Tryd.isAgg67
  z37 := Tryd.sizeOf67
  v37 := Tryd.zeroValue67
  t46 := Tryd.underlying79
  a46 := Tryd.isAgg79
  z46 := Tryd.sizeOf79
  v46 := Tryd.zeroValue79
  t51 := Tryd.underlying101
  a51 := Tryd.isAgg101
  z51 := Tryd.sizeOf101
  v51 := Tryd.zeroValue101
  t53 := Tryd.underlying76
  a53 := Tryd.isAgg76
  z53 := Tryd.sizeOf76
  v53 := Tryd.zeroValue76
  t171 := Tryd.underlying84
  a171 := Tryd.isAgg84
  z171 := Tryd.sizeOf84
  v171 := Tryd.zeroValue84
  t173 := Tryd.underlying87
  a173 := Tryd.isAgg87
  z173 := Tryd.sizeOf87
  v173 := Tryd.zeroValue87
  t212 := Tryd.underlying100
  a212 := Tryd.isAgg100
  z212 := Tryd.sizeOf100
  v212 := Tryd.zeroValue100
  t213 := Tryd.underlying102
  a213 := Tryd.isAgg102
  z213 := Tryd.sizeOf102
  t232 := Tryd.underlying116
  a232 := Tryd.isAgg116
  z232 := Tryd.sizeOf116
  v232 := Tryd.zeroValue116
  t233 := Tryd.underlying117
  a233 := Tryd.isAgg117
  z233 := Tryd.sizeOf117
  v233 := Tryd.zeroValue117
  g17 := by kernel_rfl
  g18 := by kernel_rfl
  g19 := by kernel_rfl
  i0 := by kernel_rfl
  i2 := by kernel_rfl
  i3 := by kernel_rfl
  i4 := by kernel_rfl
  i5 := by kernel_rfl
  i9 := by kernel_rfl
  i20 := by kernel_rfl
  i37 := by kernel_rfl
  i46 := by kernel_rfl
  i51 := by kernel_rfl
  i53 := by kernel_rfl
  i171 := by kernel_rfl
  i173 := by kernel_rfl
  i212 := by kernel_rfl
  i232 := by kernel_rfl
  i233 := by kernel_rfl
  m17 := by kernel_rfl
  m18 := by kernel_rfl
  m19 := by kernel_rfl}
def Tryd.lays146_ren : Go.Shelf.Ren := ⟨fun | 146 => 45 | 221 => 58 | 268 => 64 | 138 => 65 | 143 => 66 | 195 => 76 | 197 => 77 | 218 => 78 | 219 => 79 | 260 => 90 | 217 => 91 | 225 => 92 | 224 => 93 | 267 => 94 | 266 => 98 | 314 => 99 | n => n, fun | 9 => 9 | 31 => 42 | 3 => 3 | 4 => 4 | 0 => 0 | 105 => 90 | 21 => 21 | 5 => 5 | 46 => 79 | 119 => 110 | 139 => 113 | 138 => 112 | 146 => 114 | 51 => 101 | n => n, fun | 1 => 3 | 3 => 4 | 4 => 5 | n => n⟩
theorem Tryd.lays146 : Go.Proofs.LaysM.n146 Tryd.prog Tryd.lays146_ren := {
  mixed := by kernel_rfl
  f138 := Tryd.func65.trans (congrArg some (by kernel_rfl))
  f143 := Tryd.func66.trans (congrArg some (by kernel_rfl))
  f146 := Tryd.func45.trans (congrArg some (by kernel_rfl))
  f195 := Tryd.func76.trans (congrArg some (by kernel_rfl))
  f197 := Tryd.func77.trans (congrArg some (by kernel_rfl))
  f217 := Tryd.func91.trans (congrArg some (by kernel_rfl))
  f218 := Tryd.func78.trans (congrArg some (by kernel_rfl))
  f219 := Tryd.func79.trans (congrArg some (by kernel_rfl))
  f221 := Tryd.func58.trans (congrArg some (by kernel_rfl))
  f224 := Tryd.func93.trans (congrArg some (by kernel_rfl))
  f225 := Tryd.func92.trans (congrArg some (by kernel_rfl))
  f260 := Tryd.func90.trans (congrArg some (by kernel_rfl))
  f266 := Tryd.func98.trans (congrArg some (by kernel_rfl))
  f267 := Tryd.func94.trans (congrArg some (by kernel_rfl))
  f268 := Tryd.func64.trans (congrArg some (by kernel_rfl))
  f314 := Tryd.func99.trans (congrArg some (by kernel_rfl))
  t0 := Tryd.underlying0
  a0 := Tryd.isAgg0
  z0 := Tryd.sizeOf0
  v0 := Tryd.zeroValue0
  t3 := Tryd.underlying3
  a3 := Tryd.isAgg3
  z3 := Tryd.sizeOf3
  v3 := Tryd.zeroValue3
  t4 := Tryd.underlying4
  a4 := Tryd.isAgg4
  z4 := Tryd.sizeOf4
  v4 := Tryd.zeroValue4
  t5 := Tryd.underlying5
  a5 := Tryd.isAgg5
  z5 := Tryd.sizeOf5
  v5 := Tryd.zeroValue5
  t9 := Tryd.underlying9
  a9 := Tryd.isAgg9
  z9 := Tryd.sizeOf9
  v9 := Tryd.zeroValue9
  t21 := Tryd.underlying21
  a21 := Tryd.isAgg21
  z21 := Tryd.sizeOf21
  v21 := Tryd.zeroValue21
  t31 := Tryd.underlying42
  a31 := Tryd.isAgg42
  z31 := Tryd.sizeOf42
  v31 := Tryd.zeroValue42
  t46 := Tryd.underlying79
  a46 := Tryd.isAgg79
  z46 := Tryd.sizeOf79
  v46 := Tryd.zeroValue79
  t51 := Tryd.underlying101
  a51 := Tryd.isAgg101
  z51 := Tryd.sizeOf101
  v51 := Tryd.zeroValue101
  t105 := Tryd.underlying90
  a105 := Tryd.isAgg90
  z105 := Tryd.sizeOf90
  v105 := Tryd.zeroValue90
  t119 := Tryd.underlying110
  a119 := Tryd.isAgg110
  z119 := Tryd.sizeOf110
  t138 := Tryd.underlying112
  a138 := Tryd.isAgg112
  z138 := Tryd.sizeOf112
  v138 := Tryd.zeroValue112
  t139 := Tryd.underlying113
  a139 := Tryd.isAgg113
  z139 := Tryd.sizeOf113
  v139 := Tryd.zeroValue113
  t146 := Tryd.underlying114
  a146 := Tryd.isAgg114
  z146 := Tryd.sizeOf114
  v146 := Tryd.zeroValue114
  g1 := by kernel_rfl
  g3 := by kernel_rfl
  g4 := by kernel_rfl
  i0 := by kernel_rfl
  i3 := by kernel_rfl
  i4 := by kernel_rfl
  i5 := by kernel_rfl
  i9 := by kernel_rfl
  i21 := by kernel_rfl
  i31 := by kernel_rfl
  i46 := by kernel_rfl
  i51 := by kernel_rfl
  i105 := by kernel_rfl
  i138 := by kernel_rfl
  i139 := by kernel_rfl
  i146 := by kernel_rfl
  m1 := by kernel_rfl
  s1_3 := fun w h => Go.Proofs.cell_of_shapedOpen_int (zero := #[.int .i64 0]) (t := 3) h (of_decide_eq_true (by kernel_rfl)) (by kernel_rfl) rfl (by kernel_rfl) (by kernel_rfl) Tryd.underlying3
  m3 := by kernel_rfl
  m4 := by kernel_rfl}
end Go.Proofs
namespace Go.Proofs.YtkfehogikjcgkaaDoor.V
open Go
set_option linter.unusedVariables false
set_option linter.unusedSimpArgs false
noncomputable section
def fmtF (n b : Int) : Option ByteArray := bif decide (b = 10) && (decide (-9223372036854775808 ≤ n) && decide (n ≤ 9223372036854775807)) then some ⟨(Lib.itoa n).toArray⟩ else none
theorem fmt_sound : Sound Tryd.prog 57 (strS [⟨false, [.int .i64]⟩, ⟨false, [.int .i64]⟩] fun x => fmtF x.1.1 x.2.1.1) := by
 refine str_sound ⟨_, Tryd.func57, by kernel_rfl, by kernel_rfl⟩ fun x s hs g w args hT hA => ?_
 obtain ⟨⟨(n : Int), ⟨⟩⟩, ⟨(b : Int), ⟨⟩⟩, ⟨⟩⟩ := x
 have hs' : (bif decide (b = 10) && (decide (-9223372036854775808 ≤ n) && decide (n ≤ 9223372036854775807)) then some (⟨(Lib.itoa n).toArray⟩ : ByteArray) else none) = some s := hs
 obtain ⟨h1, h2⟩ := bif_some hs'
 simp only [Bool.and_eq_true, decide_eq_true_eq] at h1
 obtain ⟨rfl, h3, h4⟩ := h1
 cases h2
 obtain ⟨u, us, e1, r1, hA1⟩ := args1 hA
 obtain ⟨v, vs, e2, r2, hA2⟩ := args1 hA1
 obtain rfl : vs = [] := hA2
 subst e2
 obtain rfl : u = .int .i64 n := r1.2
 obtain rfl : v = .int .i64 10 := r2.2
 have hargs : args = #[.int .i64 n, .int .i64 10] := Array.toList_inj.1 (by simpa using e1)
 subst hargs
 refine (Any.strconv_FormatInt_10 Tryd.lays173 n h3 h4 w hT.2).mono fun e w' he => ?_
 obtain ⟨rfl, k, os, rfl⟩ := he
 exact ⟨rfl, rfl, rfl, rfl, by simp [Sort.grow, World.drewN], fun b hb _ => by simp [Sort.grow, World.drewN, Array.getElem?_append_left hb]⟩
abbrev strconv_FormatInt.R := (((ByteArray × Unit) × Unit) × Unit)
def strconv_FormatInt.f (_k : Nat) (n b : Int) : Option strconv_FormatInt.R := (fmtF n b).map fun s => (((s, ()), ()), ())
def strconv_FormatInt.s (_k : Nat) : FS := ⟨[⟨false, [.int .i64]⟩, ⟨false, [.int .i64]⟩], [], false, [⟨false, [.str]⟩], [], [], fun x => strconv_FormatInt.f _k x.1.1.1 x.1.2.1.1⟩
theorem strconv_FormatInt.sound (k : Nat) : Sound Tryd.prog 57 (strconv_FormatInt.s k) := fmt_sound
def splitF (s sep : ByteArray) : Option (List ByteArray) := bif decide (s.size < 4294967281) && decide (1 ≤ sep.size) then some (Lib.splitB sep 0 (Lib.countB s sep) s) else none
theorem split_sound : Sound Tryd.prog 45 (rowS [⟨false, [.str]⟩, ⟨false, [.str]⟩] fun x => splitF x.1.1 x.2.1.1) := by
 refine row_sound ⟨_, Tryd.func45, by kernel_rfl, by kernel_rfl⟩ (ty := Tryd.lays146_ren.t 9) fun x l hs g w args hT hA => ?_
 obtain ⟨⟨(s : ByteArray), ⟨⟩⟩, ⟨(sep : ByteArray), ⟨⟩⟩, ⟨⟩⟩ := x
 have hs' : (bif decide (s.size < 4294967281) && decide (1 ≤ sep.size) then some (Lib.splitB sep 0 (Lib.countB s sep) s) else none) = some l := hs
 obtain ⟨h1, h2⟩ := bif_some hs'
 simp only [Bool.and_eq_true, decide_eq_true_eq] at h1
 cases h2
 obtain ⟨u, us, e1, r1, hA1⟩ := args1 hA
 obtain ⟨v, vs, e2, r2, hA2⟩ := args1 hA1
 obtain rfl : vs = [] := hA2
 subst e2
 obtain rfl : u = .string s := r1.2
 obtain rfl : v = .string sep := r2.2
 have hargs : args = #[.string s, .string sep] := Array.toList_inj.1 (by simpa using e1)
 subst hargs
 obtain ⟨m, hm⟩ := hT.1
 have hle := Lib.splitB_all sep h1.2 0 _ s rfl
 refine (Any.strings_Split { Tryd.lays146 with } (by kernel_rfl) s sep m w h1.1 hm h1.2).mono fun e w' he => ?_
 obtain ⟨rfl, rfl⟩ := he
 rw [hle]
 exact ⟨rfl, rfl⟩
abbrev strings_Split.R := (((Unit × Unit) × Unit) × ((List ByteArray) × Unit))
def strings_Split.f (_k : Nat) (s sep : ByteArray) : Option strings_Split.R := (splitF s sep).map fun l => ((((), ()), ()), (l, ()))
def strings_Split.s (_k : Nat) : FS := ⟨[⟨false, [.str]⟩, ⟨false, [.str]⟩], [], false, [⟨false, [.own 100]⟩], [(100, .row true .str)], [], fun x => strings_Split.f _k x.1.1.1 x.1.2.1.1⟩
theorem strings_Split.sound (k : Nat) : Sound Tryd.prog 45 (strings_Split.s k) := split_sound
namespace U0
abbrev R := (((Int × Unit) × Unit) × Unit)
def f (k : Nat) (a0 : List Int) (a1 : Int) : Option R := bif decide (IntKind.wrap .i64 (a1 - ((List.length a0 : Nat) : Int)) < 0) then (some (((-1, ()), ()), ())) else (some (((IntKind.wrap .i64 (a1 - ((List.length a0 : Nat) : Int)), ()), ()), ()))
abbrev S : ShapeParts := ⟨[⟨false, [.lst (.int .i64)]⟩, ⟨false, [.int .i64]⟩], [], false, [⟨false, [.int .i64]⟩], [], []⟩
def s (k : Nat) : FS := S.fs fun x => f k x.1.1.1 x.1.2.1.1
def E (k : Nat) : Ents := []
def L : List (LS R) := []
def c : Code := Tryd.f14.body.getD .skip
theorem eq (k : Nat) (x) : (s k).pf x = execF tab (E k) Tryd.f14 c (s k) L x := by kernel_rfl
theorem sound : ∀ k, Sound Tryd.prog 14 (s k) := snd S (fun k => (s k).pf) E (fun k => EntsOK.nil) (fun k => L) (fun k => trivial) eq
end U0
namespace U1
abbrev R := (((Int × Unit) × Unit) × Unit)
def f (k : Nat) (a0 : tInstD) (a1 : Int) : Option R := Option.bind (U0.f k a0.2.2.2.2.2.2.1 a1) fun r1 => bif decide (r1.1.1.1 < 0) then (some (((-1, ()), ()), ())) else (some (((r1.1.1.1, ()), ()), ()))
abbrev S : ShapeParts := ⟨[⟨true, [.int .i64, .int .i64, .int .i64, .int .i64, .int .i64, .int .i64, .lst (.int .i64)]⟩, ⟨false, [.int .i64]⟩], [], false, [⟨false, [.int .i64]⟩], [], []⟩
def s (k : Nat) : FS := S.fs fun x => f k x.1.1 x.1.2.1.1
def E (k : Nat) : Ents := [(⟨14, []⟩, U0.s k)]
def L : List (LS R) := []
def c : Code := Tryd.f5.body.getD .skip
theorem eq (k : Nat) (x) : (s k).pf x = execF tab (E k) Tryd.f5 c (s k) L x := by kernel_rfl
theorem sound : ∀ k, Sound Tryd.prog 5 (s k) := snd S (fun k => (s k).pf) E (fun k => (EntsOK.cons (U0.sound k) EntsOK.nil)) (fun k => L) (fun k => trivial) eq
end U1
namespace U2
abbrev R := (((Unit × Unit) × Unit) × ((List Int) × Unit))
abbrev T0 : Type := (List Int) → Int → (List Int) → Option R
def l0_ (k : Nat) (l0 : T0) (a0 : List Int) (a1 : Int) (a2 : List Int) : Option R := bif decide (a1 < ((List.length a0 : Nat) : Int)) then (bif (decide (0 ≤ a1)) && (decide (a1 < ((List.length a0 : Nat) : Int))) then (bif (decide (0 ≤ a1)) && (decide (a1 < ((List.length a2 : Nat) : Int))) then (l0 a0 (IntKind.wrap .i64 (a1 + 1)) (List.set a2 (Int.toNat a1) (List.getD a0 (Int.toNat a1) 0))) else none) else none) else (some ((((), ()), ()), (a2, ())))
def all : Nat → (T0) × Unit
 | 0 => (fun _ _ _ => none, ())
 | k + 1 => (l0_ k (all k).1, ())
def l0 (k : Nat) : T0 := (all k).1
def f (k : Nat) (a0 : List Int) : Option R := bif (decide (((List.length a0 : Nat) : Int) = ((List.length a0 : Nat) : Int))) && (decide (0 ≤ ((List.length a0 : Nat) : Int))) && (decide (((List.length a0 : Nat) : Int) * 8 ≤ 281474976710656)) then (l0 k a0 0 (List.replicate (Int.toNat ((List.length a0 : Nat) : Int)) 0)) else none
abbrev S : ShapeParts := ⟨[⟨false, [.lst (.int .i64)]⟩], [], false, [⟨false, [.own 100]⟩], [(100, .row true (.int .i64))], []⟩
def s (k : Nat) : FS := S.fs fun x => f k x.1.1.1
def E (k : Nat) : Ents := []
def L0 (l : T0) : LS R := ⟨[], [(0, ⟨false, [.lst (.int .i64)]⟩), (3, ⟨false, [.own 100000]⟩), (4, ⟨false, [.int .i64]⟩)], [(100000, .row true (.int .i64))], fun x => l x.1.1.1 x.1.2.2.1.1 x.2.1⟩
def L (l0 : T0) : List (LS R) := [L0 l0]
def c : Code := Tryd.f17.body.getD .skip
theorem eq (k : Nat) (x) : (s k).pf x = execF tab (E k) Tryd.f17 c (s k) (L (l0 k)) x := by kernel_rfl
theorem r0 (l0 : T0) (k : Nat) (x) : (L0 (l0_ k l0)).l x = roundOf tab (E k) (L l0) c (fin tab Tryd.f17 (s k)) 0 (L0 l0) x := by kernel_rfl
theorem sound : ∀ k, Sound Tryd.prog 17 (s k) := snd S (fun k => (s k).pf) E (fun k => EntsOK.nil) (fun k => L (l0 k)) (fun k => ⟨⟨(L0 (l0 (k + 1))).l, rfl, fun x => r0 (l0 k) k x⟩, trivial⟩) eq
end U2
namespace U3
abbrev R := (((Int × Int × Int × Int × Int × Int × Unit × Unit) × Unit) × ((List Int) × Unit))
def f (k : Nat) (a0 : tInstD) : Option R := Option.bind (U2.f k a0.2.2.2.2.2.2.1) fun r1 => some (((a0.1, a0.2.1, a0.2.2.1, a0.2.2.2.1, a0.2.2.2.2.1, a0.2.2.2.2.2.1, (), ()), ()), (r1.2.1, ()))
abbrev S : ShapeParts := ⟨[⟨true, [.int .i64, .int .i64, .int .i64, .int .i64, .int .i64, .int .i64, .lst (.int .i64)]⟩], [], false, [⟨true, [.int .i64, .int .i64, .int .i64, .int .i64, .int .i64, .int .i64, .own 100]⟩], [(100, .row true (.int .i64))], []⟩
def s (k : Nat) : FS := S.fs fun x => f k x.1.1
def E (k : Nat) : Ents := [(⟨17, []⟩, U2.s k)]
def L : List (LS R) := []
def c : Code := Tryd.f7.body.getD .skip
theorem eq (k : Nat) (x) : (s k).pf x = execF tab (E k) Tryd.f7 c (s k) L x := by kernel_rfl
theorem sound : ∀ k, Sound Tryd.prog 7 (s k) := snd S (fun k => (s k).pf) E (fun k => (EntsOK.cons (U2.sound k) EntsOK.nil)) (fun k => L) (fun k => trivial) eq
end U3
namespace U4
abbrev R := (((Bool × Unit) × Unit) × Unit)
def f (k : Nat) (a0 : Int) (a1 : Int) (a2 : Int) : Option R := bif decide (a1 ≤ a0) then (some (((decide (a0 ≤ a2), ()), ()), ())) else (some (((false, ()), ()), ()))
abbrev S : ShapeParts := ⟨[⟨false, [.int .i64]⟩, ⟨false, [.int .i64]⟩, ⟨false, [.int .i64]⟩], [], false, [⟨false, [.bool]⟩], [], []⟩
def s (k : Nat) : FS := S.fs fun x => f k x.1.1.1 x.1.2.1.1 x.1.2.2.1.1
def E (k : Nat) : Ents := []
def L : List (LS R) := []
def c : Code := Tryd.f48.body.getD .skip
theorem eq (k : Nat) (x) : (s k).pf x = execF tab (E k) Tryd.f48 c (s k) L x := by kernel_rfl
theorem sound : ∀ k, Sound Tryd.prog 48 (s k) := snd S (fun k => (s k).pf) E (fun k => EntsOK.nil) (fun k => L) (fun k => trivial) eq
end U4
namespace U5
abbrev R := (((Unit × Unit) × Unit) × ((List Int) × Unit))
def f (k : Nat) (a0 : List Int) : Option R := bif decide ((List.length ([] : List Int) + List.length a0) * 8 ≤ 140737488355328) then (some ((((), ()), ()), (([] : List Int) ++ a0, ()))) else none
abbrev S : ShapeParts := ⟨[⟨false, [.lst (.int .i64)]⟩], [], false, [⟨false, [.own 100]⟩], [(100, .row true (.int .i64))], []⟩
def s (k : Nat) : FS := S.fs fun x => f k x.1.1.1
def E (k : Nat) : Ents := []
def L : List (LS R) := []
def c : Code := Tryd.f51.body.getD .skip
theorem eq (k : Nat) (x) : (s k).pf x = execF tab (E k) Tryd.f51 c (s k) L x := by kernel_rfl
theorem sound : ∀ k, Sound Tryd.prog 51 (s k) := snd S (fun k => (s k).pf) E (fun k => EntsOK.nil) (fun k => L) (fun k => trivial) eq
end U5
namespace U6
abbrev R := (((Unit × Unit) × Unit) × ((List Int) × Unit))
def f (k : Nat) (a0 : tInstD) : Option R := Option.bind (U4.f k a0.1 1 17) fun r1 => bif r1.1.1.1 then (bif r1.1.1.1 then (some ((((), ()), ()), ([a0.2.2.1, a0.2.2.2.1], ()))) else (Option.bind (U4.f k a0.1 18 20) fun r2 => bif r2.1.1.1 then (bif r2.1.1.1 then (some ((((), ()), ()), ([a0.2.2.1], ()))) else (bif decide (a0.1 = 22) then (some ((((), ()), ()), ([a0.2.2.1, a0.2.2.2.1, a0.2.2.2.2.1], ()))) else (bif decide (a0.1 = 26) then (Option.bind (U5.f k a0.2.2.2.2.2.2.1) fun r3 => some ((((), ()), ()), (r3.2.1, ()))) else (some ((((), ()), ()), (([] : List Int), ())))))) else (bif decide (a0.1 = 23) then (bif decide (a0.1 = 23) then (some ((((), ()), ()), ([a0.2.2.1], ()))) else (bif decide (a0.1 = 22) then (some ((((), ()), ()), ([a0.2.2.1, a0.2.2.2.1, a0.2.2.2.2.1], ()))) else (bif decide (a0.1 = 26) then (Option.bind (U5.f k a0.2.2.2.2.2.2.1) fun r4 => some ((((), ()), ()), (r4.2.1, ()))) else (some ((((), ()), ()), (([] : List Int), ())))))) else (bif decide (a0.1 = 25) then (bif decide (a0.1 = 25) then (some ((((), ()), ()), ([a0.2.2.1], ()))) else (bif decide (a0.1 = 22) then (some ((((), ()), ()), ([a0.2.2.1, a0.2.2.2.1, a0.2.2.2.2.1], ()))) else (bif decide (a0.1 = 26) then (Option.bind (U5.f k a0.2.2.2.2.2.2.1) fun r5 => some ((((), ()), ()), (r5.2.1, ()))) else (some ((((), ()), ()), (([] : List Int), ())))))) else (bif decide (a0.1 = 27) then (some ((((), ()), ()), ([a0.2.2.1], ()))) else (bif decide (a0.1 = 22) then (some ((((), ()), ()), ([a0.2.2.1, a0.2.2.2.1, a0.2.2.2.2.1], ()))) else (bif decide (a0.1 = 26) then (Option.bind (U5.f k a0.2.2.2.2.2.2.1) fun r6 => some ((((), ()), ()), (r6.2.1, ()))) else (some ((((), ()), ()), (([] : List Int), ())))))))))) else (bif decide (a0.1 = 24) then (some ((((), ()), ()), ([a0.2.2.1, a0.2.2.2.1], ()))) else (Option.bind (U4.f k a0.1 18 20) fun r7 => bif r7.1.1.1 then (bif r7.1.1.1 then (some ((((), ()), ()), ([a0.2.2.1], ()))) else (bif decide (a0.1 = 22) then (some ((((), ()), ()), ([a0.2.2.1, a0.2.2.2.1, a0.2.2.2.2.1], ()))) else (bif decide (a0.1 = 26) then (Option.bind (U5.f k a0.2.2.2.2.2.2.1) fun r8 => some ((((), ()), ()), (r8.2.1, ()))) else (some ((((), ()), ()), (([] : List Int), ())))))) else (bif decide (a0.1 = 23) then (bif decide (a0.1 = 23) then (some ((((), ()), ()), ([a0.2.2.1], ()))) else (bif decide (a0.1 = 22) then (some ((((), ()), ()), ([a0.2.2.1, a0.2.2.2.1, a0.2.2.2.2.1], ()))) else (bif decide (a0.1 = 26) then (Option.bind (U5.f k a0.2.2.2.2.2.2.1) fun r9 => some ((((), ()), ()), (r9.2.1, ()))) else (some ((((), ()), ()), (([] : List Int), ())))))) else (bif decide (a0.1 = 25) then (bif decide (a0.1 = 25) then (some ((((), ()), ()), ([a0.2.2.1], ()))) else (bif decide (a0.1 = 22) then (some ((((), ()), ()), ([a0.2.2.1, a0.2.2.2.1, a0.2.2.2.2.1], ()))) else (bif decide (a0.1 = 26) then (Option.bind (U5.f k a0.2.2.2.2.2.2.1) fun r10 => some ((((), ()), ()), (r10.2.1, ()))) else (some ((((), ()), ()), (([] : List Int), ())))))) else (bif decide (a0.1 = 27) then (some ((((), ()), ()), ([a0.2.2.1], ()))) else (bif decide (a0.1 = 22) then (some ((((), ()), ()), ([a0.2.2.1, a0.2.2.2.1, a0.2.2.2.2.1], ()))) else (bif decide (a0.1 = 26) then (Option.bind (U5.f k a0.2.2.2.2.2.2.1) fun r11 => some ((((), ()), ()), (r11.2.1, ()))) else (some ((((), ()), ()), (([] : List Int), ()))))))))))
abbrev S : ShapeParts := ⟨[⟨true, [.int .i64, .int .i64, .int .i64, .int .i64, .int .i64, .int .i64, .lst (.int .i64)]⟩], [], false, [⟨false, [.own 100]⟩], [(100, .row true (.int .i64))], []⟩
def s (k : Nat) : FS := S.fs fun x => f k x.1.1
def E (k : Nat) : Ents := [(⟨48, []⟩, U4.s k), (⟨51, []⟩, U5.s k)]
def L : List (LS R) := []
def c : Code := Tryd.f34.body.getD .skip
theorem eq (k : Nat) (x) : (s k).pf x = execF tab (E k) Tryd.f34 c (s k) L x := by kernel_rfl
theorem sound : ∀ k, Sound Tryd.prog 34 (s k) := snd S (fun k => (s k).pf) E (fun k => (EntsOK.cons (U4.sound k) (EntsOK.cons (U5.sound k) EntsOK.nil))) (fun k => L) (fun k => trivial) eq
end U6
namespace U7
abbrev R := (((Bool × Unit) × Unit) × Unit)
def f (k : Nat) (a0 : Int) : Option R := bif decide (a0 = 1) then (some (((true, ()), ()), ())) else (bif decide (a0 = 8) then (some (((true, ()), ()), ())) else (bif decide (a0 = 16) then (some (((true, ()), ()), ())) else (some (((decide (a0 = 32), ()), ()), ()))))
abbrev S : ShapeParts := ⟨[⟨false, [.int .i64]⟩], [], false, [⟨false, [.bool]⟩], [], []⟩
def s (k : Nat) : FS := S.fs fun x => f k x.1.1.1
def E (k : Nat) : Ents := []
def L : List (LS R) := []
def c : Code := Tryd.f49.body.getD .skip
theorem eq (k : Nat) (x) : (s k).pf x = execF tab (E k) Tryd.f49 c (s k) L x := by kernel_rfl
theorem sound : ∀ k, Sound Tryd.prog 49 (s k) := snd S (fun k => (s k).pf) E (fun k => EntsOK.nil) (fun k => L) (fun k => trivial) eq
end U7
namespace U8
abbrev R := (((Int × Unit) × Unit) × Unit)
def f (k : Nat) (a0 : Int) : Option R := bif decide (0 ≤ IntKind.wrap .u64 a0) then (some (((V.shl .i64 1 (IntKind.wrap .u64 a0), ()), ()), ())) else none
abbrev S : ShapeParts := ⟨[⟨false, [.int .i64]⟩], [], false, [⟨false, [.int .i64]⟩], [], []⟩
def s (k : Nat) : FS := S.fs fun x => f k x.1.1.1
def E (k : Nat) : Ents := []
def L : List (LS R) := []
def c : Code := Tryd.f61.body.getD .skip
theorem eq (k : Nat) (x) : (s k).pf x = execF tab (E k) Tryd.f61 c (s k) L x := by kernel_rfl
theorem sound : ∀ k, Sound Tryd.prog 61 (s k) := snd S (fun k => (s k).pf) E (fun k => EntsOK.nil) (fun k => L) (fun k => trivial) eq
end U8
namespace U9
abbrev R := (((Bool × Unit) × Unit) × Unit)
def f (k : Nat) (a0 : Int) (a1 : Int) : Option R := Option.bind (U7.f k a0) fun r1 => bif r1.1.1.1 then (Option.bind (U8.f k a0) fun r2 => Option.bind (U4.f k a1 0 (IntKind.wrap .i64 (r2.1.1.1 - 1))) fun r3 => some (((r3.1.1.1, ()), ()), ())) else (some (((false, ()), ()), ()))
abbrev S : ShapeParts := ⟨[⟨false, [.int .i64]⟩, ⟨false, [.int .i64]⟩], [], false, [⟨false, [.bool]⟩], [], []⟩
def s (k : Nat) : FS := S.fs fun x => f k x.1.1.1 x.1.2.1.1
def E (k : Nat) : Ents := [(⟨49, []⟩, U7.s k), (⟨61, []⟩, U8.s k), (⟨48, []⟩, U4.s k)]
def L : List (LS R) := []
def c : Code := Tryd.f50.body.getD .skip
theorem eq (k : Nat) (x) : (s k).pf x = execF tab (E k) Tryd.f50 c (s k) L x := by kernel_rfl
theorem sound : ∀ k, Sound Tryd.prog 50 (s k) := snd S (fun k => (s k).pf) E (fun k => (EntsOK.cons (U7.sound k) (EntsOK.cons (U8.sound k) (EntsOK.cons (U4.sound k) EntsOK.nil)))) (fun k => L) (fun k => trivial) eq
end U9
namespace U10
abbrev R := (((Bool × Unit) × Unit) × Unit)
abbrev T0 : Type := Int → Int → Int → tInstD → (List Int) → Option R
def l0_ (k : Nat) (l0 : T0) (a0 : Int) (a1 : Int) (a2 : Int) (a3 : tInstD) (a4 : List Int) : Option R := bif decide (a2 < ((List.length a4 : Nat) : Int)) then (bif (decide (0 ≤ a2)) && (decide (a2 < ((List.length a4 : Nat) : Int))) then (Option.bind (U4.f k (List.getD a4 (Int.toNat a2) 0) 0 (IntKind.wrap .i64 (a0 - 1))) fun r1 => bif !r1.1.1.1 then (some (((false, ()), ()), ())) else (l0 a0 a1 (IntKind.wrap .i64 (a2 + 1)) a3 a4)) else none) else (bif decide (a3.1 = 24) then (bif !(true == (decide (a3.2.1 = 0))) then (some (((false, ()), ()), ())) else (bif decide (4 < ((List.length a3.2.2.2.2.2.2.1 : Nat) : Int)) then (some (((false, ()), ()), ())) else (bif decide (a3.1 = 26) then (bif decide (0 < 1) then (bif !decide (a3.2.2.1 = 0) then (some (((false, ()), ()), ())) else (bif decide (0 < 2) then (bif !decide (a3.2.2.2.1 = 0) then (some (((false, ()), ()), ())) else (bif decide (0 < 3) then (bif !decide (a3.2.2.2.2.1 = 0) then (some (((false, ()), ()), ())) else (bif decide (a3.1 = 21) then (Option.bind (U9.f k a3.2.1 a3.2.2.2.2.2.1) fun r2 => some (((r2.1.1.1, ()), ()), ())) else (bif decide (a3.1 = 26) then (Option.bind (U4.f k a3.2.2.2.2.2.1 0 (IntKind.wrap .i64 (a1 - 1))) fun r3 => some (((r3.1.1.1, ()), ()), ())) else (bif decide (a3.1 = 23) then (bif decide (a3.2.1 = 8) then (some (((decide (a3.2.2.2.2.2.1 = 0), ()), ()), ())) else (some (((false, ()), ()), ()))) else (some (((decide (a3.2.2.2.2.2.1 = 0), ()), ()), ())))))) else (bif decide (a3.1 = 21) then (Option.bind (U9.f k a3.2.1 a3.2.2.2.2.2.1) fun r4 => some (((r4.1.1.1, ()), ()), ())) else (bif decide (a3.1 = 26) then (Option.bind (U4.f k a3.2.2.2.2.2.1 0 (IntKind.wrap .i64 (a1 - 1))) fun r5 => some (((r5.1.1.1, ()), ()), ())) else (bif decide (a3.1 = 23) then (bif decide (a3.2.1 = 8) then (some (((decide (a3.2.2.2.2.2.1 = 0), ()), ()), ())) else (some (((false, ()), ()), ()))) else (some (((decide (a3.2.2.2.2.2.1 = 0), ()), ()), ()))))))) else (bif decide (0 < 3) then (bif !decide (a3.2.2.2.2.1 = 0) then (some (((false, ()), ()), ())) else (bif decide (a3.1 = 21) then (Option.bind (U9.f k a3.2.1 a3.2.2.2.2.2.1) fun r6 => some (((r6.1.1.1, ()), ()), ())) else (bif decide (a3.1 = 26) then (Option.bind (U4.f k a3.2.2.2.2.2.1 0 (IntKind.wrap .i64 (a1 - 1))) fun r7 => some (((r7.1.1.1, ()), ()), ())) else (bif decide (a3.1 = 23) then (bif decide (a3.2.1 = 8) then (some (((decide (a3.2.2.2.2.2.1 = 0), ()), ()), ())) else (some (((false, ()), ()), ()))) else (some (((decide (a3.2.2.2.2.2.1 = 0), ()), ()), ())))))) else (bif decide (a3.1 = 21) then (Option.bind (U9.f k a3.2.1 a3.2.2.2.2.2.1) fun r8 => some (((r8.1.1.1, ()), ()), ())) else (bif decide (a3.1 = 26) then (Option.bind (U4.f k a3.2.2.2.2.2.1 0 (IntKind.wrap .i64 (a1 - 1))) fun r9 => some (((r9.1.1.1, ()), ()), ())) else (bif decide (a3.1 = 23) then (bif decide (a3.2.1 = 8) then (some (((decide (a3.2.2.2.2.2.1 = 0), ()), ()), ())) else (some (((false, ()), ()), ()))) else (some (((decide (a3.2.2.2.2.2.1 = 0), ()), ()), ())))))))) else (bif decide (0 < 2) then (bif !decide (a3.2.2.2.1 = 0) then (some (((false, ()), ()), ())) else (bif decide (0 < 3) then (bif !decide (a3.2.2.2.2.1 = 0) then (some (((false, ()), ()), ())) else (bif decide (a3.1 = 21) then (Option.bind (U9.f k a3.2.1 a3.2.2.2.2.2.1) fun r10 => some (((r10.1.1.1, ()), ()), ())) else (bif decide (a3.1 = 26) then (Option.bind (U4.f k a3.2.2.2.2.2.1 0 (IntKind.wrap .i64 (a1 - 1))) fun r11 => some (((r11.1.1.1, ()), ()), ())) else (bif decide (a3.1 = 23) then (bif decide (a3.2.1 = 8) then (some (((decide (a3.2.2.2.2.2.1 = 0), ()), ()), ())) else (some (((false, ()), ()), ()))) else (some (((decide (a3.2.2.2.2.2.1 = 0), ()), ()), ())))))) else (bif decide (a3.1 = 21) then (Option.bind (U9.f k a3.2.1 a3.2.2.2.2.2.1) fun r12 => some (((r12.1.1.1, ()), ()), ())) else (bif decide (a3.1 = 26) then (Option.bind (U4.f k a3.2.2.2.2.2.1 0 (IntKind.wrap .i64 (a1 - 1))) fun r13 => some (((r13.1.1.1, ()), ()), ())) else (bif decide (a3.1 = 23) then (bif decide (a3.2.1 = 8) then (some (((decide (a3.2.2.2.2.2.1 = 0), ()), ()), ())) else (some (((false, ()), ()), ()))) else (some (((decide (a3.2.2.2.2.2.1 = 0), ()), ()), ()))))))) else (bif decide (0 < 3) then (bif !decide (a3.2.2.2.2.1 = 0) then (some (((false, ()), ()), ())) else (bif decide (a3.1 = 21) then (Option.bind (U9.f k a3.2.1 a3.2.2.2.2.2.1) fun r14 => some (((r14.1.1.1, ()), ()), ())) else (bif decide (a3.1 = 26) then (Option.bind (U4.f k a3.2.2.2.2.2.1 0 (IntKind.wrap .i64 (a1 - 1))) fun r15 => some (((r15.1.1.1, ()), ()), ())) else (bif decide (a3.1 = 23) then (bif decide (a3.2.1 = 8) then (some (((decide (a3.2.2.2.2.2.1 = 0), ()), ()), ())) else (some (((false, ()), ()), ()))) else (some (((decide (a3.2.2.2.2.2.1 = 0), ()), ()), ())))))) else (bif decide (a3.1 = 21) then (Option.bind (U9.f k a3.2.1 a3.2.2.2.2.2.1) fun r16 => some (((r16.1.1.1, ()), ()), ())) else (bif decide (a3.1 = 26) then (Option.bind (U4.f k a3.2.2.2.2.2.1 0 (IntKind.wrap .i64 (a1 - 1))) fun r17 => some (((r17.1.1.1, ()), ()), ())) else (bif decide (a3.1 = 23) then (bif decide (a3.2.1 = 8) then (some (((decide (a3.2.2.2.2.2.1 = 0), ()), ()), ())) else (some (((false, ()), ()), ()))) else (some (((decide (a3.2.2.2.2.2.1 = 0), ()), ()), ())))))))) else (bif decide (((List.length a4 : Nat) : Int) < 1) then (bif !decide (a3.2.2.1 = 0) then (some (((false, ()), ()), ())) else (bif decide (((List.length a4 : Nat) : Int) < 2) then (bif !decide (a3.2.2.2.1 = 0) then (some (((false, ()), ()), ())) else (bif decide (((List.length a4 : Nat) : Int) < 3) then (bif !decide (a3.2.2.2.2.1 = 0) then (some (((false, ()), ()), ())) else (bif decide (a3.1 = 21) then (Option.bind (U9.f k a3.2.1 a3.2.2.2.2.2.1) fun r18 => some (((r18.1.1.1, ()), ()), ())) else (bif decide (a3.1 = 26) then (Option.bind (U4.f k a3.2.2.2.2.2.1 0 (IntKind.wrap .i64 (a1 - 1))) fun r19 => some (((r19.1.1.1, ()), ()), ())) else (bif decide (a3.1 = 23) then (bif decide (a3.2.1 = 8) then (some (((decide (a3.2.2.2.2.2.1 = 0), ()), ()), ())) else (some (((false, ()), ()), ()))) else (some (((decide (a3.2.2.2.2.2.1 = 0), ()), ()), ())))))) else (bif decide (a3.1 = 21) then (Option.bind (U9.f k a3.2.1 a3.2.2.2.2.2.1) fun r20 => some (((r20.1.1.1, ()), ()), ())) else (bif decide (a3.1 = 26) then (Option.bind (U4.f k a3.2.2.2.2.2.1 0 (IntKind.wrap .i64 (a1 - 1))) fun r21 => some (((r21.1.1.1, ()), ()), ())) else (bif decide (a3.1 = 23) then (bif decide (a3.2.1 = 8) then (some (((decide (a3.2.2.2.2.2.1 = 0), ()), ()), ())) else (some (((false, ()), ()), ()))) else (some (((decide (a3.2.2.2.2.2.1 = 0), ()), ()), ()))))))) else (bif decide (((List.length a4 : Nat) : Int) < 3) then (bif !decide (a3.2.2.2.2.1 = 0) then (some (((false, ()), ()), ())) else (bif decide (a3.1 = 21) then (Option.bind (U9.f k a3.2.1 a3.2.2.2.2.2.1) fun r22 => some (((r22.1.1.1, ()), ()), ())) else (bif decide (a3.1 = 26) then (Option.bind (U4.f k a3.2.2.2.2.2.1 0 (IntKind.wrap .i64 (a1 - 1))) fun r23 => some (((r23.1.1.1, ()), ()), ())) else (bif decide (a3.1 = 23) then (bif decide (a3.2.1 = 8) then (some (((decide (a3.2.2.2.2.2.1 = 0), ()), ()), ())) else (some (((false, ()), ()), ()))) else (some (((decide (a3.2.2.2.2.2.1 = 0), ()), ()), ())))))) else (bif decide (a3.1 = 21) then (Option.bind (U9.f k a3.2.1 a3.2.2.2.2.2.1) fun r24 => some (((r24.1.1.1, ()), ()), ())) else (bif decide (a3.1 = 26) then (Option.bind (U4.f k a3.2.2.2.2.2.1 0 (IntKind.wrap .i64 (a1 - 1))) fun r25 => some (((r25.1.1.1, ()), ()), ())) else (bif decide (a3.1 = 23) then (bif decide (a3.2.1 = 8) then (some (((decide (a3.2.2.2.2.2.1 = 0), ()), ()), ())) else (some (((false, ()), ()), ()))) else (some (((decide (a3.2.2.2.2.2.1 = 0), ()), ()), ())))))))) else (bif decide (((List.length a4 : Nat) : Int) < 2) then (bif !decide (a3.2.2.2.1 = 0) then (some (((false, ()), ()), ())) else (bif decide (((List.length a4 : Nat) : Int) < 3) then (bif !decide (a3.2.2.2.2.1 = 0) then (some (((false, ()), ()), ())) else (bif decide (a3.1 = 21) then (Option.bind (U9.f k a3.2.1 a3.2.2.2.2.2.1) fun r26 => some (((r26.1.1.1, ()), ()), ())) else (bif decide (a3.1 = 26) then (Option.bind (U4.f k a3.2.2.2.2.2.1 0 (IntKind.wrap .i64 (a1 - 1))) fun r27 => some (((r27.1.1.1, ()), ()), ())) else (bif decide (a3.1 = 23) then (bif decide (a3.2.1 = 8) then (some (((decide (a3.2.2.2.2.2.1 = 0), ()), ()), ())) else (some (((false, ()), ()), ()))) else (some (((decide (a3.2.2.2.2.2.1 = 0), ()), ()), ())))))) else (bif decide (a3.1 = 21) then (Option.bind (U9.f k a3.2.1 a3.2.2.2.2.2.1) fun r28 => some (((r28.1.1.1, ()), ()), ())) else (bif decide (a3.1 = 26) then (Option.bind (U4.f k a3.2.2.2.2.2.1 0 (IntKind.wrap .i64 (a1 - 1))) fun r29 => some (((r29.1.1.1, ()), ()), ())) else (bif decide (a3.1 = 23) then (bif decide (a3.2.1 = 8) then (some (((decide (a3.2.2.2.2.2.1 = 0), ()), ()), ())) else (some (((false, ()), ()), ()))) else (some (((decide (a3.2.2.2.2.2.1 = 0), ()), ()), ()))))))) else (bif decide (((List.length a4 : Nat) : Int) < 3) then (bif !decide (a3.2.2.2.2.1 = 0) then (some (((false, ()), ()), ())) else (bif decide (a3.1 = 21) then (Option.bind (U9.f k a3.2.1 a3.2.2.2.2.2.1) fun r30 => some (((r30.1.1.1, ()), ()), ())) else (bif decide (a3.1 = 26) then (Option.bind (U4.f k a3.2.2.2.2.2.1 0 (IntKind.wrap .i64 (a1 - 1))) fun r31 => some (((r31.1.1.1, ()), ()), ())) else (bif decide (a3.1 = 23) then (bif decide (a3.2.1 = 8) then (some (((decide (a3.2.2.2.2.2.1 = 0), ()), ()), ())) else (some (((false, ()), ()), ()))) else (some (((decide (a3.2.2.2.2.2.1 = 0), ()), ()), ())))))) else (bif decide (a3.1 = 21) then (Option.bind (U9.f k a3.2.1 a3.2.2.2.2.2.1) fun r32 => some (((r32.1.1.1, ()), ()), ())) else (bif decide (a3.1 = 26) then (Option.bind (U4.f k a3.2.2.2.2.2.1 0 (IntKind.wrap .i64 (a1 - 1))) fun r33 => some (((r33.1.1.1, ()), ()), ())) else (bif decide (a3.1 = 23) then (bif decide (a3.2.1 = 8) then (some (((decide (a3.2.2.2.2.2.1 = 0), ()), ()), ())) else (some (((false, ()), ()), ()))) else (some (((decide (a3.2.2.2.2.2.1 = 0), ()), ()), ()))))))))))) else (bif !((decide (a3.1 = 25)) == (decide (a3.2.1 = 0))) then (some (((false, ()), ()), ())) else (bif !(decide (a3.1 = 25)) then (Option.bind (U7.f k a3.2.1) fun r34 => bif !r34.1.1.1 then (some (((false, ()), ()), ())) else (bif decide (4 < ((List.length a3.2.2.2.2.2.2.1 : Nat) : Int)) then (some (((false, ()), ()), ())) else (bif decide (a3.1 = 26) then (bif decide (0 < 1) then (bif !decide (a3.2.2.1 = 0) then (some (((false, ()), ()), ())) else (bif decide (0 < 2) then (bif !decide (a3.2.2.2.1 = 0) then (some (((false, ()), ()), ())) else (bif decide (0 < 3) then (bif !decide (a3.2.2.2.2.1 = 0) then (some (((false, ()), ()), ())) else (bif decide (a3.1 = 21) then (Option.bind (U9.f k a3.2.1 a3.2.2.2.2.2.1) fun r35 => some (((r35.1.1.1, ()), ()), ())) else (bif decide (a3.1 = 26) then (Option.bind (U4.f k a3.2.2.2.2.2.1 0 (IntKind.wrap .i64 (a1 - 1))) fun r36 => some (((r36.1.1.1, ()), ()), ())) else (bif decide (a3.1 = 23) then (bif decide (a3.2.1 = 8) then (some (((decide (a3.2.2.2.2.2.1 = 0), ()), ()), ())) else (some (((false, ()), ()), ()))) else (some (((decide (a3.2.2.2.2.2.1 = 0), ()), ()), ())))))) else (bif decide (a3.1 = 21) then (Option.bind (U9.f k a3.2.1 a3.2.2.2.2.2.1) fun r37 => some (((r37.1.1.1, ()), ()), ())) else (bif decide (a3.1 = 26) then (Option.bind (U4.f k a3.2.2.2.2.2.1 0 (IntKind.wrap .i64 (a1 - 1))) fun r38 => some (((r38.1.1.1, ()), ()), ())) else (bif decide (a3.1 = 23) then (bif decide (a3.2.1 = 8) then (some (((decide (a3.2.2.2.2.2.1 = 0), ()), ()), ())) else (some (((false, ()), ()), ()))) else (some (((decide (a3.2.2.2.2.2.1 = 0), ()), ()), ()))))))) else (bif decide (0 < 3) then (bif !decide (a3.2.2.2.2.1 = 0) then (some (((false, ()), ()), ())) else (bif decide (a3.1 = 21) then (Option.bind (U9.f k a3.2.1 a3.2.2.2.2.2.1) fun r39 => some (((r39.1.1.1, ()), ()), ())) else (bif decide (a3.1 = 26) then (Option.bind (U4.f k a3.2.2.2.2.2.1 0 (IntKind.wrap .i64 (a1 - 1))) fun r40 => some (((r40.1.1.1, ()), ()), ())) else (bif decide (a3.1 = 23) then (bif decide (a3.2.1 = 8) then (some (((decide (a3.2.2.2.2.2.1 = 0), ()), ()), ())) else (some (((false, ()), ()), ()))) else (some (((decide (a3.2.2.2.2.2.1 = 0), ()), ()), ())))))) else (bif decide (a3.1 = 21) then (Option.bind (U9.f k a3.2.1 a3.2.2.2.2.2.1) fun r41 => some (((r41.1.1.1, ()), ()), ())) else (bif decide (a3.1 = 26) then (Option.bind (U4.f k a3.2.2.2.2.2.1 0 (IntKind.wrap .i64 (a1 - 1))) fun r42 => some (((r42.1.1.1, ()), ()), ())) else (bif decide (a3.1 = 23) then (bif decide (a3.2.1 = 8) then (some (((decide (a3.2.2.2.2.2.1 = 0), ()), ()), ())) else (some (((false, ()), ()), ()))) else (some (((decide (a3.2.2.2.2.2.1 = 0), ()), ()), ())))))))) else (bif decide (0 < 2) then (bif !decide (a3.2.2.2.1 = 0) then (some (((false, ()), ()), ())) else (bif decide (0 < 3) then (bif !decide (a3.2.2.2.2.1 = 0) then (some (((false, ()), ()), ())) else (bif decide (a3.1 = 21) then (Option.bind (U9.f k a3.2.1 a3.2.2.2.2.2.1) fun r43 => some (((r43.1.1.1, ()), ()), ())) else (bif decide (a3.1 = 26) then (Option.bind (U4.f k a3.2.2.2.2.2.1 0 (IntKind.wrap .i64 (a1 - 1))) fun r44 => some (((r44.1.1.1, ()), ()), ())) else (bif decide (a3.1 = 23) then (bif decide (a3.2.1 = 8) then (some (((decide (a3.2.2.2.2.2.1 = 0), ()), ()), ())) else (some (((false, ()), ()), ()))) else (some (((decide (a3.2.2.2.2.2.1 = 0), ()), ()), ())))))) else (bif decide (a3.1 = 21) then (Option.bind (U9.f k a3.2.1 a3.2.2.2.2.2.1) fun r45 => some (((r45.1.1.1, ()), ()), ())) else (bif decide (a3.1 = 26) then (Option.bind (U4.f k a3.2.2.2.2.2.1 0 (IntKind.wrap .i64 (a1 - 1))) fun r46 => some (((r46.1.1.1, ()), ()), ())) else (bif decide (a3.1 = 23) then (bif decide (a3.2.1 = 8) then (some (((decide (a3.2.2.2.2.2.1 = 0), ()), ()), ())) else (some (((false, ()), ()), ()))) else (some (((decide (a3.2.2.2.2.2.1 = 0), ()), ()), ()))))))) else (bif decide (0 < 3) then (bif !decide (a3.2.2.2.2.1 = 0) then (some (((false, ()), ()), ())) else (bif decide (a3.1 = 21) then (Option.bind (U9.f k a3.2.1 a3.2.2.2.2.2.1) fun r47 => some (((r47.1.1.1, ()), ()), ())) else (bif decide (a3.1 = 26) then (Option.bind (U4.f k a3.2.2.2.2.2.1 0 (IntKind.wrap .i64 (a1 - 1))) fun r48 => some (((r48.1.1.1, ()), ()), ())) else (bif decide (a3.1 = 23) then (bif decide (a3.2.1 = 8) then (some (((decide (a3.2.2.2.2.2.1 = 0), ()), ()), ())) else (some (((false, ()), ()), ()))) else (some (((decide (a3.2.2.2.2.2.1 = 0), ()), ()), ())))))) else (bif decide (a3.1 = 21) then (Option.bind (U9.f k a3.2.1 a3.2.2.2.2.2.1) fun r49 => some (((r49.1.1.1, ()), ()), ())) else (bif decide (a3.1 = 26) then (Option.bind (U4.f k a3.2.2.2.2.2.1 0 (IntKind.wrap .i64 (a1 - 1))) fun r50 => some (((r50.1.1.1, ()), ()), ())) else (bif decide (a3.1 = 23) then (bif decide (a3.2.1 = 8) then (some (((decide (a3.2.2.2.2.2.1 = 0), ()), ()), ())) else (some (((false, ()), ()), ()))) else (some (((decide (a3.2.2.2.2.2.1 = 0), ()), ()), ())))))))) else (bif decide (((List.length a4 : Nat) : Int) < 1) then (bif !decide (a3.2.2.1 = 0) then (some (((false, ()), ()), ())) else (bif decide (((List.length a4 : Nat) : Int) < 2) then (bif !decide (a3.2.2.2.1 = 0) then (some (((false, ()), ()), ())) else (bif decide (((List.length a4 : Nat) : Int) < 3) then (bif !decide (a3.2.2.2.2.1 = 0) then (some (((false, ()), ()), ())) else (bif decide (a3.1 = 21) then (Option.bind (U9.f k a3.2.1 a3.2.2.2.2.2.1) fun r51 => some (((r51.1.1.1, ()), ()), ())) else (bif decide (a3.1 = 26) then (Option.bind (U4.f k a3.2.2.2.2.2.1 0 (IntKind.wrap .i64 (a1 - 1))) fun r52 => some (((r52.1.1.1, ()), ()), ())) else (bif decide (a3.1 = 23) then (bif decide (a3.2.1 = 8) then (some (((decide (a3.2.2.2.2.2.1 = 0), ()), ()), ())) else (some (((false, ()), ()), ()))) else (some (((decide (a3.2.2.2.2.2.1 = 0), ()), ()), ())))))) else (bif decide (a3.1 = 21) then (Option.bind (U9.f k a3.2.1 a3.2.2.2.2.2.1) fun r53 => some (((r53.1.1.1, ()), ()), ())) else (bif decide (a3.1 = 26) then (Option.bind (U4.f k a3.2.2.2.2.2.1 0 (IntKind.wrap .i64 (a1 - 1))) fun r54 => some (((r54.1.1.1, ()), ()), ())) else (bif decide (a3.1 = 23) then (bif decide (a3.2.1 = 8) then (some (((decide (a3.2.2.2.2.2.1 = 0), ()), ()), ())) else (some (((false, ()), ()), ()))) else (some (((decide (a3.2.2.2.2.2.1 = 0), ()), ()), ()))))))) else (bif decide (((List.length a4 : Nat) : Int) < 3) then (bif !decide (a3.2.2.2.2.1 = 0) then (some (((false, ()), ()), ())) else (bif decide (a3.1 = 21) then (Option.bind (U9.f k a3.2.1 a3.2.2.2.2.2.1) fun r55 => some (((r55.1.1.1, ()), ()), ())) else (bif decide (a3.1 = 26) then (Option.bind (U4.f k a3.2.2.2.2.2.1 0 (IntKind.wrap .i64 (a1 - 1))) fun r56 => some (((r56.1.1.1, ()), ()), ())) else (bif decide (a3.1 = 23) then (bif decide (a3.2.1 = 8) then (some (((decide (a3.2.2.2.2.2.1 = 0), ()), ()), ())) else (some (((false, ()), ()), ()))) else (some (((decide (a3.2.2.2.2.2.1 = 0), ()), ()), ())))))) else (bif decide (a3.1 = 21) then (Option.bind (U9.f k a3.2.1 a3.2.2.2.2.2.1) fun r57 => some (((r57.1.1.1, ()), ()), ())) else (bif decide (a3.1 = 26) then (Option.bind (U4.f k a3.2.2.2.2.2.1 0 (IntKind.wrap .i64 (a1 - 1))) fun r58 => some (((r58.1.1.1, ()), ()), ())) else (bif decide (a3.1 = 23) then (bif decide (a3.2.1 = 8) then (some (((decide (a3.2.2.2.2.2.1 = 0), ()), ()), ())) else (some (((false, ()), ()), ()))) else (some (((decide (a3.2.2.2.2.2.1 = 0), ()), ()), ())))))))) else (bif decide (((List.length a4 : Nat) : Int) < 2) then (bif !decide (a3.2.2.2.1 = 0) then (some (((false, ()), ()), ())) else (bif decide (((List.length a4 : Nat) : Int) < 3) then (bif !decide (a3.2.2.2.2.1 = 0) then (some (((false, ()), ()), ())) else (bif decide (a3.1 = 21) then (Option.bind (U9.f k a3.2.1 a3.2.2.2.2.2.1) fun r59 => some (((r59.1.1.1, ()), ()), ())) else (bif decide (a3.1 = 26) then (Option.bind (U4.f k a3.2.2.2.2.2.1 0 (IntKind.wrap .i64 (a1 - 1))) fun r60 => some (((r60.1.1.1, ()), ()), ())) else (bif decide (a3.1 = 23) then (bif decide (a3.2.1 = 8) then (some (((decide (a3.2.2.2.2.2.1 = 0), ()), ()), ())) else (some (((false, ()), ()), ()))) else (some (((decide (a3.2.2.2.2.2.1 = 0), ()), ()), ())))))) else (bif decide (a3.1 = 21) then (Option.bind (U9.f k a3.2.1 a3.2.2.2.2.2.1) fun r61 => some (((r61.1.1.1, ()), ()), ())) else (bif decide (a3.1 = 26) then (Option.bind (U4.f k a3.2.2.2.2.2.1 0 (IntKind.wrap .i64 (a1 - 1))) fun r62 => some (((r62.1.1.1, ()), ()), ())) else (bif decide (a3.1 = 23) then (bif decide (a3.2.1 = 8) then (some (((decide (a3.2.2.2.2.2.1 = 0), ()), ()), ())) else (some (((false, ()), ()), ()))) else (some (((decide (a3.2.2.2.2.2.1 = 0), ()), ()), ()))))))) else (bif decide (((List.length a4 : Nat) : Int) < 3) then (bif !decide (a3.2.2.2.2.1 = 0) then (some (((false, ()), ()), ())) else (bif decide (a3.1 = 21) then (Option.bind (U9.f k a3.2.1 a3.2.2.2.2.2.1) fun r63 => some (((r63.1.1.1, ()), ()), ())) else (bif decide (a3.1 = 26) then (Option.bind (U4.f k a3.2.2.2.2.2.1 0 (IntKind.wrap .i64 (a1 - 1))) fun r64 => some (((r64.1.1.1, ()), ()), ())) else (bif decide (a3.1 = 23) then (bif decide (a3.2.1 = 8) then (some (((decide (a3.2.2.2.2.2.1 = 0), ()), ()), ())) else (some (((false, ()), ()), ()))) else (some (((decide (a3.2.2.2.2.2.1 = 0), ()), ()), ())))))) else (bif decide (a3.1 = 21) then (Option.bind (U9.f k a3.2.1 a3.2.2.2.2.2.1) fun r65 => some (((r65.1.1.1, ()), ()), ())) else (bif decide (a3.1 = 26) then (Option.bind (U4.f k a3.2.2.2.2.2.1 0 (IntKind.wrap .i64 (a1 - 1))) fun r66 => some (((r66.1.1.1, ()), ()), ())) else (bif decide (a3.1 = 23) then (bif decide (a3.2.1 = 8) then (some (((decide (a3.2.2.2.2.2.1 = 0), ()), ()), ())) else (some (((false, ()), ()), ()))) else (some (((decide (a3.2.2.2.2.2.1 = 0), ()), ()), ()))))))))))) else (bif decide (4 < ((List.length a3.2.2.2.2.2.2.1 : Nat) : Int)) then (some (((false, ()), ()), ())) else (bif decide (a3.1 = 26) then (bif decide (0 < 1) then (bif !decide (a3.2.2.1 = 0) then (some (((false, ()), ()), ())) else (bif decide (0 < 2) then (bif !decide (a3.2.2.2.1 = 0) then (some (((false, ()), ()), ())) else (bif decide (0 < 3) then (bif !decide (a3.2.2.2.2.1 = 0) then (some (((false, ()), ()), ())) else (bif decide (a3.1 = 21) then (Option.bind (U9.f k a3.2.1 a3.2.2.2.2.2.1) fun r67 => some (((r67.1.1.1, ()), ()), ())) else (bif decide (a3.1 = 26) then (Option.bind (U4.f k a3.2.2.2.2.2.1 0 (IntKind.wrap .i64 (a1 - 1))) fun r68 => some (((r68.1.1.1, ()), ()), ())) else (bif decide (a3.1 = 23) then (bif decide (a3.2.1 = 8) then (some (((decide (a3.2.2.2.2.2.1 = 0), ()), ()), ())) else (some (((false, ()), ()), ()))) else (some (((decide (a3.2.2.2.2.2.1 = 0), ()), ()), ())))))) else (bif decide (a3.1 = 21) then (Option.bind (U9.f k a3.2.1 a3.2.2.2.2.2.1) fun r69 => some (((r69.1.1.1, ()), ()), ())) else (bif decide (a3.1 = 26) then (Option.bind (U4.f k a3.2.2.2.2.2.1 0 (IntKind.wrap .i64 (a1 - 1))) fun r70 => some (((r70.1.1.1, ()), ()), ())) else (bif decide (a3.1 = 23) then (bif decide (a3.2.1 = 8) then (some (((decide (a3.2.2.2.2.2.1 = 0), ()), ()), ())) else (some (((false, ()), ()), ()))) else (some (((decide (a3.2.2.2.2.2.1 = 0), ()), ()), ()))))))) else (bif decide (0 < 3) then (bif !decide (a3.2.2.2.2.1 = 0) then (some (((false, ()), ()), ())) else (bif decide (a3.1 = 21) then (Option.bind (U9.f k a3.2.1 a3.2.2.2.2.2.1) fun r71 => some (((r71.1.1.1, ()), ()), ())) else (bif decide (a3.1 = 26) then (Option.bind (U4.f k a3.2.2.2.2.2.1 0 (IntKind.wrap .i64 (a1 - 1))) fun r72 => some (((r72.1.1.1, ()), ()), ())) else (bif decide (a3.1 = 23) then (bif decide (a3.2.1 = 8) then (some (((decide (a3.2.2.2.2.2.1 = 0), ()), ()), ())) else (some (((false, ()), ()), ()))) else (some (((decide (a3.2.2.2.2.2.1 = 0), ()), ()), ())))))) else (bif decide (a3.1 = 21) then (Option.bind (U9.f k a3.2.1 a3.2.2.2.2.2.1) fun r73 => some (((r73.1.1.1, ()), ()), ())) else (bif decide (a3.1 = 26) then (Option.bind (U4.f k a3.2.2.2.2.2.1 0 (IntKind.wrap .i64 (a1 - 1))) fun r74 => some (((r74.1.1.1, ()), ()), ())) else (bif decide (a3.1 = 23) then (bif decide (a3.2.1 = 8) then (some (((decide (a3.2.2.2.2.2.1 = 0), ()), ()), ())) else (some (((false, ()), ()), ()))) else (some (((decide (a3.2.2.2.2.2.1 = 0), ()), ()), ())))))))) else (bif decide (0 < 2) then (bif !decide (a3.2.2.2.1 = 0) then (some (((false, ()), ()), ())) else (bif decide (0 < 3) then (bif !decide (a3.2.2.2.2.1 = 0) then (some (((false, ()), ()), ())) else (bif decide (a3.1 = 21) then (Option.bind (U9.f k a3.2.1 a3.2.2.2.2.2.1) fun r75 => some (((r75.1.1.1, ()), ()), ())) else (bif decide (a3.1 = 26) then (Option.bind (U4.f k a3.2.2.2.2.2.1 0 (IntKind.wrap .i64 (a1 - 1))) fun r76 => some (((r76.1.1.1, ()), ()), ())) else (bif decide (a3.1 = 23) then (bif decide (a3.2.1 = 8) then (some (((decide (a3.2.2.2.2.2.1 = 0), ()), ()), ())) else (some (((false, ()), ()), ()))) else (some (((decide (a3.2.2.2.2.2.1 = 0), ()), ()), ())))))) else (bif decide (a3.1 = 21) then (Option.bind (U9.f k a3.2.1 a3.2.2.2.2.2.1) fun r77 => some (((r77.1.1.1, ()), ()), ())) else (bif decide (a3.1 = 26) then (Option.bind (U4.f k a3.2.2.2.2.2.1 0 (IntKind.wrap .i64 (a1 - 1))) fun r78 => some (((r78.1.1.1, ()), ()), ())) else (bif decide (a3.1 = 23) then (bif decide (a3.2.1 = 8) then (some (((decide (a3.2.2.2.2.2.1 = 0), ()), ()), ())) else (some (((false, ()), ()), ()))) else (some (((decide (a3.2.2.2.2.2.1 = 0), ()), ()), ()))))))) else (bif decide (0 < 3) then (bif !decide (a3.2.2.2.2.1 = 0) then (some (((false, ()), ()), ())) else (bif decide (a3.1 = 21) then (Option.bind (U9.f k a3.2.1 a3.2.2.2.2.2.1) fun r79 => some (((r79.1.1.1, ()), ()), ())) else (bif decide (a3.1 = 26) then (Option.bind (U4.f k a3.2.2.2.2.2.1 0 (IntKind.wrap .i64 (a1 - 1))) fun r80 => some (((r80.1.1.1, ()), ()), ())) else (bif decide (a3.1 = 23) then (bif decide (a3.2.1 = 8) then (some (((decide (a3.2.2.2.2.2.1 = 0), ()), ()), ())) else (some (((false, ()), ()), ()))) else (some (((decide (a3.2.2.2.2.2.1 = 0), ()), ()), ())))))) else (bif decide (a3.1 = 21) then (Option.bind (U9.f k a3.2.1 a3.2.2.2.2.2.1) fun r81 => some (((r81.1.1.1, ()), ()), ())) else (bif decide (a3.1 = 26) then (Option.bind (U4.f k a3.2.2.2.2.2.1 0 (IntKind.wrap .i64 (a1 - 1))) fun r82 => some (((r82.1.1.1, ()), ()), ())) else (bif decide (a3.1 = 23) then (bif decide (a3.2.1 = 8) then (some (((decide (a3.2.2.2.2.2.1 = 0), ()), ()), ())) else (some (((false, ()), ()), ()))) else (some (((decide (a3.2.2.2.2.2.1 = 0), ()), ()), ())))))))) else (bif decide (((List.length a4 : Nat) : Int) < 1) then (bif !decide (a3.2.2.1 = 0) then (some (((false, ()), ()), ())) else (bif decide (((List.length a4 : Nat) : Int) < 2) then (bif !decide (a3.2.2.2.1 = 0) then (some (((false, ()), ()), ())) else (bif decide (((List.length a4 : Nat) : Int) < 3) then (bif !decide (a3.2.2.2.2.1 = 0) then (some (((false, ()), ()), ())) else (bif decide (a3.1 = 21) then (Option.bind (U9.f k a3.2.1 a3.2.2.2.2.2.1) fun r83 => some (((r83.1.1.1, ()), ()), ())) else (bif decide (a3.1 = 26) then (Option.bind (U4.f k a3.2.2.2.2.2.1 0 (IntKind.wrap .i64 (a1 - 1))) fun r84 => some (((r84.1.1.1, ()), ()), ())) else (bif decide (a3.1 = 23) then (bif decide (a3.2.1 = 8) then (some (((decide (a3.2.2.2.2.2.1 = 0), ()), ()), ())) else (some (((false, ()), ()), ()))) else (some (((decide (a3.2.2.2.2.2.1 = 0), ()), ()), ())))))) else (bif decide (a3.1 = 21) then (Option.bind (U9.f k a3.2.1 a3.2.2.2.2.2.1) fun r85 => some (((r85.1.1.1, ()), ()), ())) else (bif decide (a3.1 = 26) then (Option.bind (U4.f k a3.2.2.2.2.2.1 0 (IntKind.wrap .i64 (a1 - 1))) fun r86 => some (((r86.1.1.1, ()), ()), ())) else (bif decide (a3.1 = 23) then (bif decide (a3.2.1 = 8) then (some (((decide (a3.2.2.2.2.2.1 = 0), ()), ()), ())) else (some (((false, ()), ()), ()))) else (some (((decide (a3.2.2.2.2.2.1 = 0), ()), ()), ()))))))) else (bif decide (((List.length a4 : Nat) : Int) < 3) then (bif !decide (a3.2.2.2.2.1 = 0) then (some (((false, ()), ()), ())) else (bif decide (a3.1 = 21) then (Option.bind (U9.f k a3.2.1 a3.2.2.2.2.2.1) fun r87 => some (((r87.1.1.1, ()), ()), ())) else (bif decide (a3.1 = 26) then (Option.bind (U4.f k a3.2.2.2.2.2.1 0 (IntKind.wrap .i64 (a1 - 1))) fun r88 => some (((r88.1.1.1, ()), ()), ())) else (bif decide (a3.1 = 23) then (bif decide (a3.2.1 = 8) then (some (((decide (a3.2.2.2.2.2.1 = 0), ()), ()), ())) else (some (((false, ()), ()), ()))) else (some (((decide (a3.2.2.2.2.2.1 = 0), ()), ()), ())))))) else (bif decide (a3.1 = 21) then (Option.bind (U9.f k a3.2.1 a3.2.2.2.2.2.1) fun r89 => some (((r89.1.1.1, ()), ()), ())) else (bif decide (a3.1 = 26) then (Option.bind (U4.f k a3.2.2.2.2.2.1 0 (IntKind.wrap .i64 (a1 - 1))) fun r90 => some (((r90.1.1.1, ()), ()), ())) else (bif decide (a3.1 = 23) then (bif decide (a3.2.1 = 8) then (some (((decide (a3.2.2.2.2.2.1 = 0), ()), ()), ())) else (some (((false, ()), ()), ()))) else (some (((decide (a3.2.2.2.2.2.1 = 0), ()), ()), ())))))))) else (bif decide (((List.length a4 : Nat) : Int) < 2) then (bif !decide (a3.2.2.2.1 = 0) then (some (((false, ()), ()), ())) else (bif decide (((List.length a4 : Nat) : Int) < 3) then (bif !decide (a3.2.2.2.2.1 = 0) then (some (((false, ()), ()), ())) else (bif decide (a3.1 = 21) then (Option.bind (U9.f k a3.2.1 a3.2.2.2.2.2.1) fun r91 => some (((r91.1.1.1, ()), ()), ())) else (bif decide (a3.1 = 26) then (Option.bind (U4.f k a3.2.2.2.2.2.1 0 (IntKind.wrap .i64 (a1 - 1))) fun r92 => some (((r92.1.1.1, ()), ()), ())) else (bif decide (a3.1 = 23) then (bif decide (a3.2.1 = 8) then (some (((decide (a3.2.2.2.2.2.1 = 0), ()), ()), ())) else (some (((false, ()), ()), ()))) else (some (((decide (a3.2.2.2.2.2.1 = 0), ()), ()), ())))))) else (bif decide (a3.1 = 21) then (Option.bind (U9.f k a3.2.1 a3.2.2.2.2.2.1) fun r93 => some (((r93.1.1.1, ()), ()), ())) else (bif decide (a3.1 = 26) then (Option.bind (U4.f k a3.2.2.2.2.2.1 0 (IntKind.wrap .i64 (a1 - 1))) fun r94 => some (((r94.1.1.1, ()), ()), ())) else (bif decide (a3.1 = 23) then (bif decide (a3.2.1 = 8) then (some (((decide (a3.2.2.2.2.2.1 = 0), ()), ()), ())) else (some (((false, ()), ()), ()))) else (some (((decide (a3.2.2.2.2.2.1 = 0), ()), ()), ()))))))) else (bif decide (((List.length a4 : Nat) : Int) < 3) then (bif !decide (a3.2.2.2.2.1 = 0) then (some (((false, ()), ()), ())) else (bif decide (a3.1 = 21) then (Option.bind (U9.f k a3.2.1 a3.2.2.2.2.2.1) fun r95 => some (((r95.1.1.1, ()), ()), ())) else (bif decide (a3.1 = 26) then (Option.bind (U4.f k a3.2.2.2.2.2.1 0 (IntKind.wrap .i64 (a1 - 1))) fun r96 => some (((r96.1.1.1, ()), ()), ())) else (bif decide (a3.1 = 23) then (bif decide (a3.2.1 = 8) then (some (((decide (a3.2.2.2.2.2.1 = 0), ()), ()), ())) else (some (((false, ()), ()), ()))) else (some (((decide (a3.2.2.2.2.2.1 = 0), ()), ()), ())))))) else (bif decide (a3.1 = 21) then (Option.bind (U9.f k a3.2.1 a3.2.2.2.2.2.1) fun r97 => some (((r97.1.1.1, ()), ()), ())) else (bif decide (a3.1 = 26) then (Option.bind (U4.f k a3.2.2.2.2.2.1 0 (IntKind.wrap .i64 (a1 - 1))) fun r98 => some (((r98.1.1.1, ()), ()), ())) else (bif decide (a3.1 = 23) then (bif decide (a3.2.1 = 8) then (some (((decide (a3.2.2.2.2.2.1 = 0), ()), ()), ())) else (some (((false, ()), ()), ()))) else (some (((decide (a3.2.2.2.2.2.1 = 0), ()), ()), ())))))))))))))
def all : Nat → (T0) × Unit
 | 0 => (fun _ _ _ _ _ => none, ())
 | k + 1 => (l0_ k (all k).1, ())
def l0 (k : Nat) : T0 := (all k).1
def f (k : Nat) (a0 : tInstD) (a1 : Int) (a2 : Int) : Option R := Option.bind (U4.f k a0.1 1 27) fun r1 => bif !r1.1.1.1 then (some (((false, ()), ()), ())) else (bif !decide (a0.1 = 26) then (bif decide (0 < ((List.length a0.2.2.2.2.2.2.1 : Nat) : Int)) then (some (((false, ()), ()), ())) else (Option.bind (U6.f k a0) fun r2 => l0 k a1 a2 0 a0 r2.2.1)) else (Option.bind (U6.f k a0) fun r3 => l0 k a1 a2 0 a0 r3.2.1))
abbrev S : ShapeParts := ⟨[⟨true, [.int .i64, .int .i64, .int .i64, .int .i64, .int .i64, .int .i64, .lst (.int .i64)]⟩, ⟨false, [.int .i64]⟩, ⟨false, [.int .i64]⟩], [], false, [⟨false, [.bool]⟩], [], []⟩
def s (k : Nat) : FS := S.fs fun x => f k x.1.1 x.1.2.1.1 x.1.2.2.1.1
def E (k : Nat) : Ents := [(⟨48, []⟩, U4.s k), (⟨34, []⟩, U6.s k), (⟨50, []⟩, U9.s k), (⟨49, []⟩, U7.s k)]
def L0 (l : T0) : LS R := ⟨[], [(1, ⟨false, [.int .i64]⟩), (2, ⟨false, [.int .i64]⟩), (3, ⟨false, [.ptr 100000 0]⟩), (7, ⟨false, [.own 100001]⟩), (8, ⟨false, [.int .i64]⟩)], [(100000, .box [.int .i64, .int .i64, .int .i64, .int .i64, .int .i64, .int .i64, .lst (.int .i64)]), (100001, .row true (.int .i64))], fun x => l x.1.1.1 x.1.2.1.1 x.1.2.2.2.2.1.1 x.2.1 x.2.2.1⟩
def L (l0 : T0) : List (LS R) := [L0 l0]
def c : Code := Tryd.f31.body.getD .skip
theorem eq (k : Nat) (x) : (s k).pf x = execF tab (E k) Tryd.f31 c (s k) (L (l0 k)) x := by kernel_rfl
theorem r0 (l0 : T0) (k : Nat) (x) : (L0 (l0_ k l0)).l x = roundOf tab (E k) (L l0) c (fin tab Tryd.f31 (s k)) 0 (L0 l0) x := by kernel_rfl
theorem sound : ∀ k, Sound Tryd.prog 31 (s k) := snd S (fun k => (s k).pf) E (fun k => (EntsOK.cons (U4.sound k) (EntsOK.cons (U6.sound k) (EntsOK.cons (U9.sound k) (EntsOK.cons (U7.sound k) EntsOK.nil))))) (fun k => L (l0 k)) (fun k => ⟨⟨(L0 (l0 (k + 1))).l, rfl, fun x => r0 (l0 k) k x⟩, trivial⟩) eq
end U10
namespace U11
abbrev R := (((Bool × Unit) × Unit) × Unit)
def f (k : Nat) (a0 : tInstD) : Option R := Option.bind (U10.f k a0 60 3) fun r1 => some (((r1.1.1.1, ()), ()), ())
abbrev S : ShapeParts := ⟨[⟨true, [.int .i64, .int .i64, .int .i64, .int .i64, .int .i64, .int .i64, .lst (.int .i64)]⟩], [], false, [⟨false, [.bool]⟩], [], []⟩
def s (k : Nat) : FS := S.fs fun x => f k x.1.1
def E (k : Nat) : Ents := [(⟨31, []⟩, U10.s k)]
def L : List (LS R) := []
def c : Code := Tryd.f15.body.getD .skip
theorem eq (k : Nat) (x) : (s k).pf x = execF tab (E k) Tryd.f15 c (s k) L x := by kernel_rfl
theorem sound : ∀ k, Sound Tryd.prog 15 (s k) := snd S (fun k => (s k).pf) E (fun k => (EntsOK.cons (U10.sound k) EntsOK.nil)) (fun k => L) (fun k => trivial) eq
end U11
namespace U12
abbrev R := (((Unit × Unit) × Unit) × ((List ByteArray) × Unit))
def f (k : Nat) : Option R := some ((((), ()), ()), ([ByteArray.empty, (ByteArray.mk #[97, 100, 100]), (ByteArray.mk #[115, 117, 98]), (ByteArray.mk #[109, 117, 108]), (ByteArray.mk #[117, 100, 105, 118]), (ByteArray.mk #[115, 100, 105, 118]), (ByteArray.mk #[117, 114, 101, 109]), (ByteArray.mk #[115, 114, 101, 109]), (ByteArray.mk #[97, 110, 100]), (ByteArray.mk #[111, 114]), (ByteArray.mk #[120, 111, 114]), (ByteArray.mk #[115, 104, 108]), (ByteArray.mk #[108, 115, 104, 114]), (ByteArray.mk #[97, 115, 104, 114]), (ByteArray.mk #[101, 113]), (ByteArray.mk #[110, 101]), (ByteArray.mk #[117, 108, 116]), (ByteArray.mk #[115, 108, 116]), (ByteArray.mk #[122, 101, 120, 116]), (ByteArray.mk #[115, 101, 120, 116]), (ByteArray.mk #[116, 114, 117, 110, 99]), (ByteArray.mk #[99, 111, 110, 115, 116]), (ByteArray.mk #[115, 101, 108, 101, 99, 116]), (ByteArray.mk #[108, 111, 97, 100]), (ByteArray.mk #[115, 116, 111, 114, 101]), (ByteArray.mk #[112, 114, 105, 110, 116]), (ByteArray.mk #[99, 97, 108, 108]), (ByteArray.mk #[99, 111, 112, 121])], ()))
abbrev S : ShapeParts := ⟨[], [], false, [⟨false, [.own 100]⟩], [(100, .row true .str)], []⟩
def s (k : Nat) : FS := S.fs fun x => f k
def E (k : Nat) : Ents := []
def L : List (LS R) := []
def c : Code := Tryd.f22.body.getD .skip
theorem eq (k : Nat) (x) : (s k).pf x = execF tab (E k) Tryd.f22 c (s k) L x := by kernel_rfl
theorem sound : ∀ k, Sound Tryd.prog 22 (s k) := snd S (fun k => (s k).pf) E (fun k => EntsOK.nil) (fun k => L) (fun k => trivial) eq
end U12
namespace U13
abbrev R := (((ByteArray × Unit) × Unit) × Unit)
def l0_ (k : Nat) (l0 : Int → ByteArray → Option R) (a0 : Int) (a1 : ByteArray) : Option R := bif decide (10 ≤ a0) then (bif !decide (10 = 0) then (bif decide (ByteArray.size (strOf [IntKind.wrap .u8 (IntKind.wrap .i64 (48 + (Int.tmod a0 10)))]) + ByteArray.size a1 ≤ big) then (bif !decide (10 = 0) then (l0 (IntKind.wrap .i64 (Int.tdiv a0 10)) ((strOf [IntKind.wrap .u8 (IntKind.wrap .i64 (48 + (Int.tmod a0 10)))]) ++ a1)) else none) else none) else none) else (bif decide (ByteArray.size (strOf [IntKind.wrap .u8 (IntKind.wrap .i64 (48 + a0))]) + ByteArray.size a1 ≤ big) then (some ((((strOf [IntKind.wrap .u8 (IntKind.wrap .i64 (48 + a0))]) ++ a1, ()), ()), ())) else none)
def all : Nat → (Int → ByteArray → Option R) × Unit
 | 0 => (fun _ _ => none, ())
 | k + 1 => (l0_ k (all k).1, ())
def l0 (k : Nat) : Int → ByteArray → Option R := (all k).1
def f (k : Nat) (a0 : Int) : Option R := bif decide (a0 < 0) then none else (l0 k a0 ByteArray.empty)
abbrev S : ShapeParts := ⟨[⟨false, [.int .i64]⟩], [], false, [⟨false, [.str]⟩], [], []⟩
def s (k : Nat) : FS := S.fs fun x => f k x.1.1.1
def E (k : Nat) : Ents := []
def L0 (l : Int → ByteArray → Option R) : LS R := ⟨[], [(0, ⟨false, [.int .i64]⟩), (3, ⟨false, [.str]⟩)], [], fun x => l x.1.1.1 x.1.2.1.1⟩
def L (l0 : Int → ByteArray → Option R) : List (LS R) := [L0 l0]
def c : Code := Tryd.f32.body.getD .skip
theorem eq (k : Nat) (x) : (s k).pf x = execF tab (E k) Tryd.f32 c (s k) (L (l0 k)) x := by kernel_rfl
theorem r0 (l0 : Int → ByteArray → Option R) (k : Nat) (x) : (L0 (l0_ k l0)).l x = roundOf tab (E k) (L l0) c (fin tab Tryd.f32 (s k)) 0 (L0 l0) x := by kernel_rfl
theorem sound : ∀ k, Sound Tryd.prog 32 (s k) := snd S (fun k => (s k).pf) E (fun k => EntsOK.nil) (fun k => L (l0 k)) (fun k => ⟨⟨(L0 (l0 (k + 1))).l, rfl, fun x => r0 (l0 k) k x⟩, trivial⟩) eq
end U13
namespace U14
abbrev R := (((ByteArray × Unit) × Unit) × Unit)
abbrev T0 : Type := (List Int) → ByteArray → Int → Option R
def l0_ (k : Nat) (l0 : T0) (a0 : List Int) (a1 : ByteArray) (a2 : Int) : Option R := bif decide (a2 < ((List.length a0 : Nat) : Int)) then (bif decide (ByteArray.size a1 + ByteArray.size (ByteArray.mk #[32]) ≤ big) then (bif (decide (0 ≤ a2)) && (decide (a2 < ((List.length a0 : Nat) : Int))) then (Option.bind (U13.f k (List.getD a0 (Int.toNat a2) 0)) fun r1 => bif decide (ByteArray.size (a1 ++ (ByteArray.mk #[32])) + ByteArray.size r1.1.1.1 ≤ big) then (l0 a0 ((a1 ++ (ByteArray.mk #[32])) ++ r1.1.1.1) (IntKind.wrap .i64 (a2 + 1))) else none) else none) else none) else (some (((a1, ()), ()), ()))
def all : Nat → (T0) × Unit
 | 0 => (fun _ _ _ => none, ())
 | k + 1 => (l0_ k (all k).1, ())
def l0 (k : Nat) : T0 := (all k).1
def f (k : Nat) (a0 : List Int) : Option R := l0 k a0 ByteArray.empty 0
abbrev S : ShapeParts := ⟨[⟨false, [.lst (.int .i64)]⟩], [], false, [⟨false, [.str]⟩], [], []⟩
def s (k : Nat) : FS := S.fs fun x => f k x.1.1.1
def E (k : Nat) : Ents := [(⟨32, []⟩, U13.s k)]
def L0 (l : T0) : LS R := ⟨[], [(0, ⟨false, [.lst (.int .i64)]⟩), (3, ⟨false, [.str]⟩), (4, ⟨false, [.int .i64]⟩)], [], fun x => l x.1.1.1 x.1.2.1.1 x.1.2.2.1.1⟩
def L (l0 : T0) : List (LS R) := [L0 l0]
def c : Code := Tryd.f33.body.getD .skip
theorem eq (k : Nat) (x) : (s k).pf x = execF tab (E k) Tryd.f33 c (s k) (L (l0 k)) x := by kernel_rfl
theorem r0 (l0 : T0) (k : Nat) (x) : (L0 (l0_ k l0)).l x = roundOf tab (E k) (L l0) c (fin tab Tryd.f33 (s k)) 0 (L0 l0) x := by kernel_rfl
theorem sound : ∀ k, Sound Tryd.prog 33 (s k) := snd S (fun k => (s k).pf) E (fun k => (EntsOK.cons (U13.sound k) EntsOK.nil)) (fun k => L (l0 k)) (fun k => ⟨⟨(L0 (l0 (k + 1))).l, rfl, fun x => r0 (l0 k) k x⟩, trivial⟩) eq
end U14
namespace U15
abbrev R := (((ByteArray × Unit) × Unit) × Unit)
def f (k : Nat) (a0 : tInstD) : Option R := Option.bind (U12.f k) fun r1 => bif (decide (0 ≤ a0.1)) && (decide (a0.1 < ((List.length r1.2.1 : Nat) : Int))) then (bif decide (ByteArray.size (List.getD r1.2.1 (Int.toNat a0.1) ByteArray.empty) + ByteArray.size (ByteArray.mk #[32]) ≤ big) then (Option.bind (U13.f k a0.2.1) fun r2 => bif decide (ByteArray.size ((List.getD r1.2.1 (Int.toNat a0.1) ByteArray.empty) ++ (ByteArray.mk #[32])) + ByteArray.size r2.1.1.1 ≤ big) then (bif decide (a0.1 = 21) then (bif decide (ByteArray.size (((List.getD r1.2.1 (Int.toNat a0.1) ByteArray.empty) ++ (ByteArray.mk #[32])) ++ r2.1.1.1) + ByteArray.size (ByteArray.mk #[32]) ≤ big) then (Option.bind (U13.f k a0.2.2.2.2.2.1) fun r3 => bif decide (ByteArray.size ((((List.getD r1.2.1 (Int.toNat a0.1) ByteArray.empty) ++ (ByteArray.mk #[32])) ++ r2.1.1.1) ++ (ByteArray.mk #[32])) + ByteArray.size r3.1.1.1 ≤ big) then (Option.bind (U6.f k a0) fun r4 => Option.bind (U14.f k r4.2.1) fun r5 => bif decide (ByteArray.size (((((List.getD r1.2.1 (Int.toNat a0.1) ByteArray.empty) ++ (ByteArray.mk #[32])) ++ r2.1.1.1) ++ (ByteArray.mk #[32])) ++ r3.1.1.1) + ByteArray.size r5.1.1.1 ≤ big) then (some ((((((((List.getD r1.2.1 (Int.toNat a0.1) ByteArray.empty) ++ (ByteArray.mk #[32])) ++ r2.1.1.1) ++ (ByteArray.mk #[32])) ++ r3.1.1.1) ++ r5.1.1.1, ()), ()), ())) else none) else none) else none) else (bif decide (a0.1 = 26) then (bif decide (ByteArray.size (((List.getD r1.2.1 (Int.toNat a0.1) ByteArray.empty) ++ (ByteArray.mk #[32])) ++ r2.1.1.1) + ByteArray.size (ByteArray.mk #[32]) ≤ big) then (Option.bind (U13.f k a0.2.2.2.2.2.1) fun r6 => bif decide (ByteArray.size ((((List.getD r1.2.1 (Int.toNat a0.1) ByteArray.empty) ++ (ByteArray.mk #[32])) ++ r2.1.1.1) ++ (ByteArray.mk #[32])) + ByteArray.size r6.1.1.1 ≤ big) then (Option.bind (U6.f k a0) fun r7 => Option.bind (U14.f k r7.2.1) fun r8 => bif decide (ByteArray.size (((((List.getD r1.2.1 (Int.toNat a0.1) ByteArray.empty) ++ (ByteArray.mk #[32])) ++ r2.1.1.1) ++ (ByteArray.mk #[32])) ++ r6.1.1.1) + ByteArray.size r8.1.1.1 ≤ big) then (some ((((((((List.getD r1.2.1 (Int.toNat a0.1) ByteArray.empty) ++ (ByteArray.mk #[32])) ++ r2.1.1.1) ++ (ByteArray.mk #[32])) ++ r6.1.1.1) ++ r8.1.1.1, ()), ()), ())) else none) else none) else none) else (Option.bind (U6.f k a0) fun r9 => Option.bind (U14.f k r9.2.1) fun r10 => bif decide (ByteArray.size (((List.getD r1.2.1 (Int.toNat a0.1) ByteArray.empty) ++ (ByteArray.mk #[32])) ++ r2.1.1.1) + ByteArray.size r10.1.1.1 ≤ big) then (some ((((((List.getD r1.2.1 (Int.toNat a0.1) ByteArray.empty) ++ (ByteArray.mk #[32])) ++ r2.1.1.1) ++ r10.1.1.1, ()), ()), ())) else none))) else none) else none) else none
abbrev S : ShapeParts := ⟨[⟨true, [.int .i64, .int .i64, .int .i64, .int .i64, .int .i64, .int .i64, .lst (.int .i64)]⟩], [], false, [⟨false, [.str]⟩], [], []⟩
def s (k : Nat) : FS := S.fs fun x => f k x.1.1
def E (k : Nat) : Ents := [(⟨22, []⟩, U12.s k), (⟨32, []⟩, U13.s k), (⟨34, []⟩, U6.s k), (⟨33, []⟩, U14.s k)]
def L : List (LS R) := []
def c : Code := Tryd.f16.body.getD .skip
theorem eq (k : Nat) (x) : (s k).pf x = execF tab (E k) Tryd.f16 c (s k) L x := by kernel_rfl
theorem sound : ∀ k, Sound Tryd.prog 16 (s k) := snd S (fun k => (s k).pf) E (fun k => (EntsOK.cons (U12.sound k) (EntsOK.cons (U13.sound k) (EntsOK.cons (U6.sound k) (EntsOK.cons (U14.sound k) EntsOK.nil))))) (fun k => L) (fun k => trivial) eq
end U15
namespace U16
abbrev R := (((ByteArray × Unit) × Unit) × Unit)
def f (k : Nat) (a0 : tInstD) : Option R := Option.bind (U11.f k a0) fun r1 => bif !r1.1.1.1 then (some (((ByteArray.empty, ()), ()), ())) else (Option.bind (U15.f k a0) fun r2 => some (((r2.1.1.1, ()), ()), ()))
abbrev S : ShapeParts := ⟨[⟨true, [.int .i64, .int .i64, .int .i64, .int .i64, .int .i64, .int .i64, .lst (.int .i64)]⟩], [], false, [⟨false, [.str]⟩], [], []⟩
def s (k : Nat) : FS := S.fs fun x => f k x.1.1
def E (k : Nat) : Ents := [(⟨15, []⟩, U11.s k), (⟨16, []⟩, U15.s k)]
def L : List (LS R) := []
def c : Code := Tryd.f6.body.getD .skip
theorem eq (k : Nat) (x) : (s k).pf x = execF tab (E k) Tryd.f6 c (s k) L x := by kernel_rfl
theorem sound : ∀ k, Sound Tryd.prog 6 (s k) := snd S (fun k => (s k).pf) E (fun k => (EntsOK.cons (U11.sound k) (EntsOK.cons (U15.sound k) EntsOK.nil))) (fun k => L) (fun k => trivial) eq
end U16
namespace U17
abbrev R := (((Bool × Unit) × Unit) × Unit)
def f (k : Nat) (a0 : Int) (a1 : Int) (a2 : Int) : Option R := bif decide (a1 ≤ a0) then (some (((decide (a0 ≤ a2), ()), ()), ())) else (some (((false, ()), ()), ()))
abbrev S : ShapeParts := ⟨[⟨false, [.int .i64]⟩, ⟨false, [.int .i64]⟩, ⟨false, [.int .i64]⟩], [], false, [⟨false, [.bool]⟩], [], []⟩
def s (k : Nat) : FS := S.fs fun x => f k x.1.1.1 x.1.2.1.1 x.1.2.2.1.1
def E (k : Nat) : Ents := []
def L : List (LS R) := []
def c : Code := Tryd.f35.body.getD .skip
theorem eq (k : Nat) (x) : (s k).pf x = execF tab (E k) Tryd.f35 c (s k) L x := by kernel_rfl
theorem sound : ∀ k, Sound Tryd.prog 35 (s k) := snd S (fun k => (s k).pf) E (fun k => EntsOK.nil) (fun k => L) (fun k => trivial) eq
end U17
namespace U18
abbrev R := (((Bool × Unit) × Unit) × Unit)
def f (k : Nat) (a0 : Int) : Option R := Option.bind (U17.f k a0 1 17) fun r1 => some (((r1.1.1.1, ()), ()), ())
abbrev S : ShapeParts := ⟨[⟨false, [.int .i64]⟩], [], false, [⟨false, [.bool]⟩], [], []⟩
def s (k : Nat) : FS := S.fs fun x => f k x.1.1.1
def E (k : Nat) : Ents := [(⟨35, []⟩, U17.s k)]
def L : List (LS R) := []
def c : Code := Tryd.f52.body.getD .skip
theorem eq (k : Nat) (x) : (s k).pf x = execF tab (E k) Tryd.f52 c (s k) L x := by kernel_rfl
theorem sound : ∀ k, Sound Tryd.prog 52 (s k) := snd S (fun k => (s k).pf) E (fun k => (EntsOK.cons (U17.sound k) EntsOK.nil)) (fun k => L) (fun k => trivial) eq
end U18
namespace U19
abbrev R := (((Bool × Unit) × Unit) × Unit)
def f (k : Nat) (a0 : Int) : Option R := Option.bind (U17.f k a0 18 20) fun r1 => some (((r1.1.1.1, ()), ()), ())
abbrev S : ShapeParts := ⟨[⟨false, [.int .i64]⟩], [], false, [⟨false, [.bool]⟩], [], []⟩
def s (k : Nat) : FS := S.fs fun x => f k x.1.1.1
def E (k : Nat) : Ents := [(⟨35, []⟩, U17.s k)]
def L : List (LS R) := []
def c : Code := Tryd.f53.body.getD .skip
theorem eq (k : Nat) (x) : (s k).pf x = execF tab (E k) Tryd.f53 c (s k) L x := by kernel_rfl
theorem sound : ∀ k, Sound Tryd.prog 53 (s k) := snd S (fun k => (s k).pf) E (fun k => (EntsOK.cons (U17.sound k) EntsOK.nil)) (fun k => L) (fun k => trivial) eq
end U19
namespace U20
abbrev R := (((Unit × Unit) × Unit) × ((List Int) × Unit))
def f (k : Nat) (a0 : tInstD) : Option R := Option.bind (U18.f k a0.1) fun r1 => bif r1.1.1.1 then (some ((((), ()), ()), ([a0.2.2.1, a0.2.2.2.1], ()))) else (bif decide (a0.1 = 24) then (some ((((), ()), ()), ([a0.2.2.1, a0.2.2.2.1], ()))) else (Option.bind (U19.f k a0.1) fun r2 => bif r2.1.1.1 then (some ((((), ()), ()), ([a0.2.2.1], ()))) else (bif decide (a0.1 = 23) then (some ((((), ()), ()), ([a0.2.2.1], ()))) else (bif decide (a0.1 = 25) then (some ((((), ()), ()), ([a0.2.2.1], ()))) else (bif decide (a0.1 = 27) then (some ((((), ()), ()), ([a0.2.2.1], ()))) else (bif decide (a0.1 = 22) then (some ((((), ()), ()), ([a0.2.2.1, a0.2.2.2.1, a0.2.2.2.2.1], ()))) else (bif decide (a0.1 = 26) then (Option.bind (slices_Clone_int64_int64.f k a0.2.2.2.2.2.2.1) fun r3 => some ((((), ()), ()), (r3.2.1, ()))) else (some ((((), ()), ()), (([] : List Int), ()))))))))))
abbrev S : ShapeParts := ⟨[⟨true, [.int .i64, .int .i64, .int .i64, .int .i64, .int .i64, .int .i64, .lst (.int .i64)]⟩], [], false, [⟨false, [.own 100]⟩], [(100, .row true (.int .i64))], []⟩
def s (k : Nat) : FS := S.fs fun x => f k x.1.1
def E (k : Nat) : Ents := [(⟨52, []⟩, U18.s k), (⟨53, []⟩, U19.s k), (⟨47, []⟩, slices_Clone_int64_int64.s k)]
def L : List (LS R) := []
def c : Code := Tryd.f36.body.getD .skip
theorem eq (k : Nat) (x) : (s k).pf x = execF tab (E k) Tryd.f36 c (s k) L x := by kernel_rfl
theorem sound : ∀ k, Sound Tryd.prog 36 (s k) := snd S (fun k => (s k).pf) E (fun k => (EntsOK.cons (U18.sound k) (EntsOK.cons (U19.sound k) (EntsOK.cons (slices_Clone_int64_int64.sound k) EntsOK.nil)))) (fun k => L) (fun k => trivial) eq
end U20
namespace U21
abbrev R := (((Bool × Unit) × Unit) × Unit)
def f (k : Nat) (a0 : Int) (a1 : Int) : Option R := Option.bind (U17.f k a0 0 (IntKind.wrap .i64 (a1 - 1))) fun r1 => some (((!r1.1.1.1, ()), ()), ())
abbrev S : ShapeParts := ⟨[⟨false, [.int .i64]⟩, ⟨false, [.ptr 0 0]⟩], [(0, .cbox [.int .i64])], false, [⟨false, [.bool]⟩], [], []⟩
def s (k : Nat) : FS := S.fs fun x => f k x.1.1.1 x.2.1.1
def E (k : Nat) : Ents := [(⟨35, []⟩, U17.s k)]
def L : List (LS R) := []
def c : Code := Tryd.f38.body.getD .skip
theorem eq (k : Nat) (x) : (s k).pf x = execF tab (E k) Tryd.f38 c (s k) L x := by kernel_rfl
theorem sound : ∀ k, Sound Tryd.prog 38 (s k) := snd S (fun k => (s k).pf) E (fun k => (EntsOK.cons (U17.sound k) EntsOK.nil)) (fun k => L) (fun k => trivial) eq
end U21
namespace U22
abbrev R := (((Int × Unit) × Unit) × Unit)
abbrev T0 : Type := (List Int) → Int → Int → Int → Option R
def l0_ (k : Nat) (l0 : T0) (a0 : List Int) (a1 : Int) (a2 : Int) (a3 : Int) : Option R := bif decide (a2 < a1) then (bif (decide (0 ≤ a2)) && (decide (a2 < ((List.length a0 : Nat) : Int))) then (Option.bind (U21.f k (List.getD a0 (Int.toNat a2) 0) a3) fun r1 => bif r1.1.1.1 then (some (((a2, ()), ()), ())) else (l0 a0 a1 (IntKind.wrap .i64 (a2 + 1)) a3)) else none) else (some (((-1, ()), ()), ()))
def all : Nat → (T0) × Unit
 | 0 => (fun _ _ _ _ => none, ())
 | k + 1 => (l0_ k (all k).1, ())
def l0 (k : Nat) : T0 := (all k).1
def f (k : Nat) (a0 : List Int) (a1 : Int) : Option R := l0 k a0 ((List.length a0 : Nat) : Int) 0 a1
abbrev S : ShapeParts := ⟨[⟨false, [.lst (.int .i64)]⟩, ⟨false, [.fn 38 [(0, 0)]]⟩], [(0, .cbox [.int .i64])], false, [⟨false, [.int .i64]⟩], [], []⟩
def s (k : Nat) : FS := S.fs fun x => f k x.1.1.1 x.2.1.1
def E (k : Nat) : Ents := [(⟨38, []⟩, U21.s k)]
def L0 (l : T0) : LS R := ⟨[], [(0, ⟨false, [.lst (.int .i64)]⟩), (1, ⟨false, [.fn 38 [(0, 0)]]⟩), (7, ⟨false, [.int .i64]⟩), (8, ⟨false, [.int .i64]⟩)], [(0, .cbox [.int .i64])], fun x => l x.1.1.1 x.1.2.2.1.1 x.1.2.2.2.1.1 x.2.1.1⟩
def L (l0 : T0) : List (LS R) := [L0 l0]
def c : Code := Tryd.f54.body.getD .skip
theorem eq (k : Nat) (x) : (s k).pf x = execF tab (E k) Tryd.f54 c (s k) (L (l0 k)) x := by kernel_rfl
theorem r0 (l0 : T0) (k : Nat) (x) : (L0 (l0_ k l0)).l x = roundOf tab (E k) (L l0) c (fin tab Tryd.f54 (s k)) 0 (L0 l0) x := by kernel_rfl
theorem sound : ∀ k, Sound Tryd.prog 54 (s k) := snd S (fun k => (s k).pf) E (fun k => (EntsOK.cons (U21.sound k) EntsOK.nil)) (fun k => L (l0 k)) (fun k => ⟨⟨(L0 (l0 (k + 1))).l, rfl, fun x => r0 (l0 k) k x⟩, trivial⟩) eq
end U22
namespace U23
abbrev R := (((Bool × Unit) × Unit) × Unit)
def f (k : Nat) (a0 : List Int) (a1 : Int) : Option R := Option.bind (U22.f k a0 a1) fun r1 => some (((decide (0 ≤ r1.1.1.1), ()), ()), ())
abbrev S : ShapeParts := ⟨[⟨false, [.lst (.int .i64)]⟩, ⟨false, [.fn 38 [(0, 0)]]⟩], [(0, .cbox [.int .i64])], false, [⟨false, [.bool]⟩], [], []⟩
def s (k : Nat) : FS := S.fs fun x => f k x.1.1.1 x.2.1.1
def E (k : Nat) : Ents := [(⟨54, [38]⟩, U22.s k)]
def L : List (LS R) := []
def c : Code := Tryd.f37.body.getD .skip
theorem eq (k : Nat) (x) : (s k).pf x = execF tab (E k) Tryd.f37 c (s k) L x := by kernel_rfl
theorem sound : ∀ k, Sound Tryd.prog 37 (s k) := snd S (fun k => (s k).pf) E (fun k => (EntsOK.cons (U22.sound k) EntsOK.nil)) (fun k => L) (fun k => trivial) eq
end U23
namespace U24
abbrev R := (((Bool × Unit) × Unit) × Unit)
def f (k : Nat) (a0 : Int) : Option R := some (((!decide (a0 = 0), ()), ()), ())
abbrev S : ShapeParts := ⟨[⟨false, [.int .i64]⟩], [], false, [⟨false, [.bool]⟩], [], []⟩
def s (k : Nat) : FS := S.fs fun x => f k x.1.1.1
def E (k : Nat) : Ents := []
def L : List (LS R) := []
def c : Code := Tryd.f39.body.getD .skip
theorem eq (k : Nat) (x) : (s k).pf x = execF tab (E k) Tryd.f39 c (s k) L x := by kernel_rfl
theorem sound : ∀ k, Sound Tryd.prog 39 (s k) := snd S (fun k => (s k).pf) E (fun k => EntsOK.nil) (fun k => L) (fun k => trivial) eq
end U24
namespace U25
abbrev R := (((Int × Unit) × Unit) × Unit)
abbrev T0 : Type := (List Int) → Int → Int → Option R
def l0_ (k : Nat) (l0 : T0) (a0 : List Int) (a1 : Int) (a2 : Int) : Option R := bif decide (a2 < a1) then (bif (decide (0 ≤ a2)) && (decide (a2 < ((List.length a0 : Nat) : Int))) then (Option.bind (U24.f k (List.getD a0 (Int.toNat a2) 0)) fun r1 => bif r1.1.1.1 then (some (((a2, ()), ()), ())) else (l0 a0 a1 (IntKind.wrap .i64 (a2 + 1)))) else none) else (some (((-1, ()), ()), ()))
def all : Nat → (T0) × Unit
 | 0 => (fun _ _ _ => none, ())
 | k + 1 => (l0_ k (all k).1, ())
def l0 (k : Nat) : T0 := (all k).1
def f (k : Nat) (a0 : List Int) : Option R := l0 k a0 ((List.length a0 : Nat) : Int) 0
abbrev S : ShapeParts := ⟨[⟨false, [.lst (.int .i64)]⟩, ⟨false, [.fn 39 []]⟩], [], false, [⟨false, [.int .i64]⟩], [], []⟩
def s (k : Nat) : FS := S.fs fun x => f k x.1.1.1
def E (k : Nat) : Ents := [(⟨39, []⟩, U24.s k)]
def L0 (l : T0) : LS R := ⟨[], [(0, ⟨false, [.lst (.int .i64)]⟩), (1, ⟨false, [.fn 39 []]⟩), (7, ⟨false, [.int .i64]⟩), (8, ⟨false, [.int .i64]⟩)], [], fun x => l x.1.1.1 x.1.2.2.1.1 x.1.2.2.2.1.1⟩
def L (l0 : T0) : List (LS R) := [L0 l0]
def c : Code := Tryd.f54.body.getD .skip
theorem eq (k : Nat) (x) : (s k).pf x = execF tab (E k) Tryd.f54 c (s k) (L (l0 k)) x := by kernel_rfl
theorem r0 (l0 : T0) (k : Nat) (x) : (L0 (l0_ k l0)).l x = roundOf tab (E k) (L l0) c (fin tab Tryd.f54 (s k)) 0 (L0 l0) x := by kernel_rfl
theorem sound : ∀ k, Sound Tryd.prog 54 (s k) := snd S (fun k => (s k).pf) E (fun k => (EntsOK.cons (U24.sound k) EntsOK.nil)) (fun k => L (l0 k)) (fun k => ⟨⟨(L0 (l0 (k + 1))).l, rfl, fun x => r0 (l0 k) k x⟩, trivial⟩) eq
end U25
namespace U26
abbrev R := (((Bool × Unit) × Unit) × Unit)
def f (k : Nat) (a0 : List Int) : Option R := Option.bind (U25.f k a0) fun r1 => some (((decide (0 ≤ r1.1.1.1), ()), ()), ())
abbrev S : ShapeParts := ⟨[⟨false, [.lst (.int .i64)]⟩, ⟨false, [.fn 39 []]⟩], [], false, [⟨false, [.bool]⟩], [], []⟩
def s (k : Nat) : FS := S.fs fun x => f k x.1.1.1
def E (k : Nat) : Ents := [(⟨54, [39]⟩, U25.s k)]
def L : List (LS R) := []
def c : Code := Tryd.f37.body.getD .skip
theorem eq (k : Nat) (x) : (s k).pf x = execF tab (E k) Tryd.f37 c (s k) L x := by kernel_rfl
theorem sound : ∀ k, Sound Tryd.prog 37 (s k) := snd S (fun k => (s k).pf) E (fun k => (EntsOK.cons (U25.sound k) EntsOK.nil)) (fun k => L) (fun k => trivial) eq
end U26
namespace U27
abbrev R := (((Bool × Unit) × Unit) × Unit)
def f (k : Nat) (a0 : Int) : Option R := bif decide (a0 = 1) then (some (((true, ()), ()), ())) else (bif decide (a0 = 8) then (some (((true, ()), ()), ())) else (bif decide (a0 = 16) then (some (((true, ()), ()), ())) else (some (((decide (a0 = 32), ()), ()), ()))))
abbrev S : ShapeParts := ⟨[⟨false, [.int .i64]⟩], [], false, [⟨false, [.bool]⟩], [], []⟩
def s (k : Nat) : FS := S.fs fun x => f k x.1.1.1
def E (k : Nat) : Ents := []
def L : List (LS R) := []
def c : Code := Tryd.f55.body.getD .skip
theorem eq (k : Nat) (x) : (s k).pf x = execF tab (E k) Tryd.f55 c (s k) L x := by kernel_rfl
theorem sound : ∀ k, Sound Tryd.prog 55 (s k) := snd S (fun k => (s k).pf) E (fun k => EntsOK.nil) (fun k => L) (fun k => trivial) eq
end U27
namespace U28
abbrev R := (((Bool × Unit) × Unit) × Unit)
def f (k : Nat) (a0 : tInstD) : Option R := bif decide (a0.1 = 24) then (bif decide (a0.1 = 24) then (some (((decide (a0.2.1 = 0), ()), ()), ())) else (bif decide (a0.1 = 23) then (some (((decide (a0.2.1 = 8), ()), ()), ())) else (Option.bind (U27.f k a0.2.1) fun r1 => some (((r1.1.1.1, ()), ()), ())))) else (bif decide (a0.1 = 25) then (some (((decide (a0.2.1 = 0), ()), ()), ())) else (bif decide (a0.1 = 23) then (some (((decide (a0.2.1 = 8), ()), ()), ())) else (Option.bind (U27.f k a0.2.1) fun r2 => some (((r2.1.1.1, ()), ()), ()))))
abbrev S : ShapeParts := ⟨[⟨true, [.int .i64, .int .i64, .int .i64, .int .i64, .int .i64, .int .i64, .lst (.int .i64)]⟩], [], false, [⟨false, [.bool]⟩], [], []⟩
def s (k : Nat) : FS := S.fs fun x => f k x.1.1
def E (k : Nat) : Ents := [(⟨55, []⟩, U27.s k)]
def L : List (LS R) := []
def c : Code := Tryd.f40.body.getD .skip
theorem eq (k : Nat) (x) : (s k).pf x = execF tab (E k) Tryd.f40 c (s k) L x := by kernel_rfl
theorem sound : ∀ k, Sound Tryd.prog 40 (s k) := snd S (fun k => (s k).pf) E (fun k => (EntsOK.cons (U27.sound k) EntsOK.nil)) (fun k => L) (fun k => trivial) eq
end U28
namespace U29
abbrev R := (((Int × Unit) × Unit) × Unit)
def f (k : Nat) (a0 : Int) : Option R := bif decide (0 ≤ a0) then (some (((IntKind.wrap .i64 ((V.shl .i64 1 a0) - 1), ()), ()), ())) else none
abbrev S : ShapeParts := ⟨[⟨false, [.int .i64]⟩], [], false, [⟨false, [.int .i64]⟩], [], []⟩
def s (k : Nat) : FS := S.fs fun x => f k x.1.1.1
def E (k : Nat) : Ents := []
def L : List (LS R) := []
def c : Code := Tryd.f62.body.getD .skip
theorem eq (k : Nat) (x) : (s k).pf x = execF tab (E k) Tryd.f62 c (s k) L x := by kernel_rfl
theorem sound : ∀ k, Sound Tryd.prog 62 (s k) := snd S (fun k => (s k).pf) E (fun k => EntsOK.nil) (fun k => L) (fun k => trivial) eq
end U29
namespace U30
abbrev R := (((Bool × Unit) × Unit) × Unit)
def f (k : Nat) (a0 : Int) (a1 : Int) : Option R := Option.bind (U27.f k a0) fun r1 => bif r1.1.1.1 then (Option.bind (U29.f k a0) fun r2 => Option.bind (U17.f k a1 0 r2.1.1.1) fun r3 => some (((r3.1.1.1, ()), ()), ())) else (some (((false, ()), ()), ()))
abbrev S : ShapeParts := ⟨[⟨false, [.int .i64]⟩, ⟨false, [.int .i64]⟩], [], false, [⟨false, [.bool]⟩], [], []⟩
def s (k : Nat) : FS := S.fs fun x => f k x.1.1.1 x.1.2.1.1
def E (k : Nat) : Ents := [(⟨55, []⟩, U27.s k), (⟨62, []⟩, U29.s k), (⟨35, []⟩, U17.s k)]
def L : List (LS R) := []
def c : Code := Tryd.f56.body.getD .skip
theorem eq (k : Nat) (x) : (s k).pf x = execF tab (E k) Tryd.f56 c (s k) L x := by kernel_rfl
theorem sound : ∀ k, Sound Tryd.prog 56 (s k) := snd S (fun k => (s k).pf) E (fun k => (EntsOK.cons (U27.sound k) (EntsOK.cons (U29.sound k) (EntsOK.cons (U17.sound k) EntsOK.nil)))) (fun k => L) (fun k => trivial) eq
end U30
namespace U31
abbrev R := (((Bool × Unit) × Unit) × Unit)
def f (k : Nat) (a0 : tInstD) (a1 : Int) : Option R := bif decide (a0.1 = 21) then (Option.bind (U30.f k a0.2.1 a0.2.2.2.2.2.1) fun r1 => some (((r1.1.1.1, ()), ()), ())) else (bif decide (a0.1 = 26) then (Option.bind (U17.f k a0.2.2.2.2.2.1 0 (IntKind.wrap .i64 (a1 - 1))) fun r2 => some (((r2.1.1.1, ()), ()), ())) else (some (((decide (a0.2.2.2.2.2.1 = 0), ()), ()), ())))
abbrev S : ShapeParts := ⟨[⟨true, [.int .i64, .int .i64, .int .i64, .int .i64, .int .i64, .int .i64, .lst (.int .i64)]⟩, ⟨false, [.int .i64]⟩], [], false, [⟨false, [.bool]⟩], [], []⟩
def s (k : Nat) : FS := S.fs fun x => f k x.1.1 x.1.2.1.1
def E (k : Nat) : Ents := [(⟨56, []⟩, U30.s k), (⟨35, []⟩, U17.s k)]
def L : List (LS R) := []
def c : Code := Tryd.f41.body.getD .skip
theorem eq (k : Nat) (x) : (s k).pf x = execF tab (E k) Tryd.f41 c (s k) L x := by kernel_rfl
theorem sound : ∀ k, Sound Tryd.prog 41 (s k) := snd S (fun k => (s k).pf) E (fun k => (EntsOK.cons (U30.sound k) (EntsOK.cons (U17.sound k) EntsOK.nil))) (fun k => L) (fun k => trivial) eq
end U31
namespace U32
abbrev R := (((Bool × Unit) × Unit) × Unit)
def f (k : Nat) (a0 : tInstD) (a1 : Int) (a2 : Int) : Option R := Option.bind (U17.f k a0.1 1 27) fun r1 => bif !r1.1.1.1 then (some (((false, ()), ()), ())) else (bif decide (4 < ((List.length a0.2.2.2.2.2.2.1 : Nat) : Int)) then (some (((false, ()), ()), ())) else (bif decide (0 < ((List.length a0.2.2.2.2.2.2.1 : Nat) : Int)) then (bif !decide (a0.1 = 26) then (some (((false, ()), ()), ())) else (Option.bind (U20.f k a0) fun r2 => Option.bind (U23.f k r2.2.1 a1) fun r3 => bif r3.1.1.1 then (some (((false, ()), ()), ())) else (bif decide (a0.1 = 26) then (bif (decide (0 ≤ 0)) && (decide (0 ≤ ((List.length [a0.2.2.1, a0.2.2.2.1, a0.2.2.2.2.1] : Nat) : Int))) then (Option.bind (U26.f k [a0.2.2.1, a0.2.2.2.1, a0.2.2.2.2.1]) fun r4 => bif r4.1.1.1 then (some (((false, ()), ()), ())) else (Option.bind (U28.f k a0) fun r5 => bif r5.1.1.1 then (Option.bind (U31.f k a0 a2) fun r6 => some (((r6.1.1.1, ()), ()), ())) else (some (((false, ()), ()), ())))) else none) else (bif (decide (0 ≤ ((List.length r2.2.1 : Nat) : Int))) && (decide (((List.length r2.2.1 : Nat) : Int) ≤ ((List.length [a0.2.2.1, a0.2.2.2.1, a0.2.2.2.2.1] : Nat) : Int))) then (Option.bind (U26.f k (List.drop (Int.toNat ((List.length r2.2.1 : Nat) : Int)) [a0.2.2.1, a0.2.2.2.1, a0.2.2.2.2.1])) fun r7 => bif r7.1.1.1 then (some (((false, ()), ()), ())) else (Option.bind (U28.f k a0) fun r8 => bif r8.1.1.1 then (Option.bind (U31.f k a0 a2) fun r9 => some (((r9.1.1.1, ()), ()), ())) else (some (((false, ()), ()), ())))) else none)))) else (Option.bind (U20.f k a0) fun r10 => Option.bind (U23.f k r10.2.1 a1) fun r11 => bif r11.1.1.1 then (some (((false, ()), ()), ())) else (bif decide (a0.1 = 26) then (bif (decide (0 ≤ 0)) && (decide (0 ≤ ((List.length [a0.2.2.1, a0.2.2.2.1, a0.2.2.2.2.1] : Nat) : Int))) then (Option.bind (U26.f k [a0.2.2.1, a0.2.2.2.1, a0.2.2.2.2.1]) fun r12 => bif r12.1.1.1 then (some (((false, ()), ()), ())) else (Option.bind (U28.f k a0) fun r13 => bif r13.1.1.1 then (Option.bind (U31.f k a0 a2) fun r14 => some (((r14.1.1.1, ()), ()), ())) else (some (((false, ()), ()), ())))) else none) else (bif (decide (0 ≤ ((List.length r10.2.1 : Nat) : Int))) && (decide (((List.length r10.2.1 : Nat) : Int) ≤ ((List.length [a0.2.2.1, a0.2.2.2.1, a0.2.2.2.2.1] : Nat) : Int))) then (Option.bind (U26.f k (List.drop (Int.toNat ((List.length r10.2.1 : Nat) : Int)) [a0.2.2.1, a0.2.2.2.1, a0.2.2.2.2.1])) fun r15 => bif r15.1.1.1 then (some (((false, ()), ()), ())) else (Option.bind (U28.f k a0) fun r16 => bif r16.1.1.1 then (Option.bind (U31.f k a0 a2) fun r17 => some (((r17.1.1.1, ()), ()), ())) else (some (((false, ()), ()), ())))) else none)))))
abbrev S : ShapeParts := ⟨[⟨true, [.int .i64, .int .i64, .int .i64, .int .i64, .int .i64, .int .i64, .lst (.int .i64)]⟩, ⟨false, [.int .i64]⟩, ⟨false, [.int .i64]⟩], [], false, [⟨false, [.bool]⟩], [], []⟩
def s (k : Nat) : FS := S.fs fun x => f k x.1.1 x.1.2.1.1 x.1.2.2.1.1
def E (k : Nat) : Ents := [(⟨35, []⟩, U17.s k), (⟨36, []⟩, U20.s k), (⟨37, [38]⟩, U23.s k), (⟨37, [39]⟩, U26.s k), (⟨40, []⟩, U28.s k), (⟨41, []⟩, U31.s k)]
def L : List (LS R) := []
def c : Code := Tryd.f18.body.getD .skip
theorem eq (k : Nat) (x) : (s k).pf x = execF tab (E k) Tryd.f18 c (s k) L x := by kernel_rfl
theorem sound : ∀ k, Sound Tryd.prog 18 (s k) := snd S (fun k => (s k).pf) E (fun k => (EntsOK.cons (U17.sound k) (EntsOK.cons (U20.sound k) (EntsOK.cons (U23.sound k) (EntsOK.cons (U26.sound k) (EntsOK.cons (U28.sound k) (EntsOK.cons (U31.sound k) EntsOK.nil))))))) (fun k => L) (fun k => trivial) eq
end U32
namespace U33
abbrev R := (((Unit × Unit) × Unit) × ((List ByteArray) × Unit))
set_option maxRecDepth 100000 in
def f (k : Nat) : Option R := Option.bind (strings_Split.f k (ByteArray.mk #[97, 100, 100, 32, 115, 117, 98, 32, 109, 117, 108, 32, 117, 100, 105, 118, 32, 115, 100, 105, 118, 32, 117, 114, 101, 109, 32, 115, 114, 101, 109, 32, 97, 110, 100, 32, 111, 114, 32, 120, 111, 114, 32, 115, 104, 108, 32, 108, 115, 104, 114, 32, 97, 115, 104, 114, 32, 101, 113, 32, 110, 101, 32, 117, 108, 116, 32, 115, 108, 116, 32, 122, 101, 120, 116, 32, 115, 101, 120, 116, 32, 116, 114, 117, 110, 99, 32, 99, 111, 110, 115, 116, 32, 115, 101, 108, 101, 99, 116, 32, 108, 111, 97, 100, 32, 115, 116, 111, 114, 101, 32, 112, 114, 105, 110, 116, 32, 99, 97, 108, 108, 32, 99, 111, 112, 121]) (ByteArray.mk #[32])) fun r1 => some ((((), ()), ()), (r1.2.1, ()))
abbrev S : ShapeParts := ⟨[], [], false, [⟨false, [.own 100]⟩], [(100, .row true .str)], []⟩
def s (k : Nat) : FS := S.fs fun x => f k
def E (k : Nat) : Ents := [(⟨45, []⟩, strings_Split.s k)]
def L : List (LS R) := []
def c : Code := Tryd.f26.body.getD .skip
set_option maxRecDepth 100000 in
theorem eq (k : Nat) (x) : (s k).pf x = execF tab (E k) Tryd.f26 c (s k) L x := by kernel_rfl
set_option maxRecDepth 100000 in
theorem sound : ∀ k, Sound Tryd.prog 26 (s k) := snd S (fun k => (s k).pf) E (fun k => (EntsOK.cons (strings_Split.sound k) EntsOK.nil)) (fun k => L) (fun k => trivial) eq
end U33
namespace U34
abbrev R := (((ByteArray × Unit) × Unit) × Unit)
abbrev T0 : Type := ByteArray → (List Int) → Int → Int → Option R
def l0_ (k : Nat) (l0 : T0) (a0 : ByteArray) (a1 : List Int) (a2 : Int) (a3 : Int) : Option R := bif decide (a3 < a2) then (bif (decide (0 ≤ a3)) && (decide (a3 < ((List.length a1 : Nat) : Int))) then (Option.bind (strconv_FormatInt.f k (List.getD a1 (Int.toNat a3) 0) 10) fun r1 => bif decide (ByteArray.size (ByteArray.mk #[32]) + ByteArray.size r1.1.1.1 ≤ big) then (bif decide (ByteArray.size a0 + ByteArray.size ((ByteArray.mk #[32]) ++ r1.1.1.1) ≤ big) then (l0 (a0 ++ ((ByteArray.mk #[32]) ++ r1.1.1.1)) a1 a2 (IntKind.wrap .i64 (a3 + 1))) else none) else none) else none) else (some (((a0, ()), ()), ()))
def all : Nat → (T0) × Unit
 | 0 => (fun _ _ _ _ => none, ())
 | k + 1 => (l0_ k (all k).1, ())
def l0 (k : Nat) : T0 := (all k).1
def f (k : Nat) (a0 : ByteArray) (a1 : List Int) : Option R := l0 k a0 a1 ((List.length a1 : Nat) : Int) 0
abbrev S : ShapeParts := ⟨[⟨false, [.str]⟩, ⟨false, [.lst (.int .i64)]⟩], [], false, [⟨false, [.str]⟩], [], []⟩
def s (k : Nat) : FS := S.fs fun x => f k x.1.1.1 x.1.2.1.1
def E (k : Nat) : Ents := [(⟨57, []⟩, strconv_FormatInt.s k)]
def L0 (l : T0) : LS R := ⟨[], [(0, ⟨false, [.str]⟩), (7, ⟨false, [.lst (.int .i64)]⟩), (8, ⟨false, [.int .i64]⟩), (9, ⟨false, [.int .i64]⟩)], [], fun x => l x.1.1.1 x.1.2.1.1 x.1.2.2.1.1 x.1.2.2.2.1.1⟩
def L (l0 : T0) : List (LS R) := [L0 l0]
def c : Code := Tryd.f42.body.getD .skip
theorem eq (k : Nat) (x) : (s k).pf x = execF tab (E k) Tryd.f42 c (s k) (L (l0 k)) x := by kernel_rfl
theorem r0 (l0 : T0) (k : Nat) (x) : (L0 (l0_ k l0)).l x = roundOf tab (E k) (L l0) c (fin tab Tryd.f42 (s k)) 0 (L0 l0) x := by kernel_rfl
theorem sound : ∀ k, Sound Tryd.prog 42 (s k) := snd S (fun k => (s k).pf) E (fun k => (EntsOK.cons (strconv_FormatInt.sound k) EntsOK.nil)) (fun k => L (l0 k)) (fun k => ⟨⟨(L0 (l0 (k + 1))).l, rfl, fun x => r0 (l0 k) k x⟩, trivial⟩) eq
end U34
namespace U35
abbrev R := (((Bool × Unit) × Unit) × Unit)
def f (k : Nat) (a0 : Int) : Option R := bif decide (a0 = 21) then (some (((true, ()), ()), ())) else (some (((decide (a0 = 26), ()), ()), ()))
abbrev S : ShapeParts := ⟨[⟨false, [.int .i64]⟩], [], false, [⟨false, [.bool]⟩], [], []⟩
def s (k : Nat) : FS := S.fs fun x => f k x.1.1.1
def E (k : Nat) : Ents := []
def L : List (LS R) := []
def c : Code := Tryd.f27.body.getD .skip
theorem eq (k : Nat) (x) : (s k).pf x = execF tab (E k) Tryd.f27 c (s k) L x := by kernel_rfl
theorem sound : ∀ k, Sound Tryd.prog 27 (s k) := snd S (fun k => (s k).pf) E (fun k => EntsOK.nil) (fun k => L) (fun k => trivial) eq
end U35
namespace U36
abbrev R := (((ByteArray × Unit) × Unit) × Unit)
set_option maxRecDepth 100000 in
def f (k : Nat) (a0 : tInstD) : Option R := Option.bind (U33.f k) fun r1 => bif (decide (0 ≤ IntKind.wrap .i64 (a0.1 - 1))) && (decide (IntKind.wrap .i64 (a0.1 - 1) < ((List.length r1.2.1 : Nat) : Int))) then (Option.bind (U34.f k (List.getD r1.2.1 (Int.toNat (IntKind.wrap .i64 (a0.1 - 1))) ByteArray.empty) [a0.2.1]) fun r2 => Option.bind (U35.f k a0.1) fun r3 => bif r3.1.1.1 then (Option.bind (U34.f k r2.1.1.1 [a0.2.2.2.2.2.1]) fun r4 => Option.bind (U20.f k a0) fun r5 => Option.bind (U34.f k r4.1.1.1 r5.2.1) fun r6 => some (((r6.1.1.1, ()), ()), ())) else (Option.bind (U20.f k a0) fun r7 => Option.bind (U34.f k r2.1.1.1 r7.2.1) fun r8 => some (((r8.1.1.1, ()), ()), ()))) else none
abbrev S : ShapeParts := ⟨[⟨true, [.int .i64, .int .i64, .int .i64, .int .i64, .int .i64, .int .i64, .lst (.int .i64)]⟩], [], false, [⟨false, [.str]⟩], [], []⟩
def s (k : Nat) : FS := S.fs fun x => f k x.1.1
def E (k : Nat) : Ents := [(⟨26, []⟩, U33.s k), (⟨42, []⟩, U34.s k), (⟨27, []⟩, U35.s k), (⟨36, []⟩, U20.s k)]
def L : List (LS R) := []
def c : Code := Tryd.f19.body.getD .skip
set_option maxRecDepth 100000 in
theorem eq (k : Nat) (x) : (s k).pf x = execF tab (E k) Tryd.f19 c (s k) L x := by kernel_rfl
set_option maxRecDepth 100000 in
theorem sound : ∀ k, Sound Tryd.prog 19 (s k) := snd S (fun k => (s k).pf) E (fun k => (EntsOK.cons (U33.sound k) (EntsOK.cons (U34.sound k) (EntsOK.cons (U35.sound k) (EntsOK.cons (U20.sound k) EntsOK.nil))))) (fun k => L) (fun k => trivial) eq
end U36
namespace U37
abbrev R := (((ByteArray × Unit) × Unit) × Unit)
set_option maxRecDepth 100000 in
def f (k : Nat) (a0 : tInstD) : Option R := Option.bind (U32.f k a0 60 3) fun r1 => bif !r1.1.1.1 then (some (((ByteArray.empty, ()), ()), ())) else (Option.bind (U36.f k a0) fun r2 => some (((r2.1.1.1, ()), ()), ()))
abbrev S : ShapeParts := ⟨[⟨true, [.int .i64, .int .i64, .int .i64, .int .i64, .int .i64, .int .i64, .lst (.int .i64)]⟩], [], false, [⟨false, [.str]⟩], [], []⟩
def s (k : Nat) : FS := S.fs fun x => f k x.1.1
def E (k : Nat) : Ents := [(⟨18, []⟩, U32.s k), (⟨19, []⟩, U36.s k)]
def L : List (LS R) := []
def c : Code := Tryd.f8.body.getD .skip
set_option maxRecDepth 100000 in
theorem eq (k : Nat) (x) : (s k).pf x = execF tab (E k) Tryd.f8 c (s k) L x := by kernel_rfl
set_option maxRecDepth 100000 in
theorem sound : ∀ k, Sound Tryd.prog 8 (s k) := snd S (fun k => (s k).pf) E (fun k => (EntsOK.cons (U32.sound k) (EntsOK.cons (U36.sound k) EntsOK.nil))) (fun k => L) (fun k => trivial) eq
end U37
namespace U38
abbrev R := (((Bool × Unit) × Unit) × Unit)
abbrev T0 : Type := (List Int) → (List Int) → Int → Option R
def l0_ (k : Nat) (l0 : T0) (a0 : List Int) (a1 : List Int) (a2 : Int) : Option R := bif decide (a2 < ((List.length a0 : Nat) : Int)) then (bif (decide (0 ≤ a2)) && (decide (a2 < ((List.length a0 : Nat) : Int))) then (bif (decide (0 ≤ a2)) && (decide (a2 < ((List.length a1 : Nat) : Int))) then (bif !decide (List.getD a0 (Int.toNat a2) 0 = List.getD a1 (Int.toNat a2) 0) then (some (((false, ()), ()), ())) else (l0 a0 a1 (IntKind.wrap .i64 (a2 + 1)))) else none) else none) else (some (((true, ()), ()), ()))
def all : Nat → (T0) × Unit
 | 0 => (fun _ _ _ => none, ())
 | k + 1 => (l0_ k (all k).1, ())
def l0 (k : Nat) : T0 := (all k).1
def f (k : Nat) (a0 : List Int) (a1 : List Int) : Option R := bif !decide (((List.length a0 : Nat) : Int) = ((List.length a1 : Nat) : Int)) then (some (((false, ()), ()), ())) else (l0 k a0 a1 0)
abbrev S : ShapeParts := ⟨[⟨false, [.lst (.int .i64)]⟩, ⟨false, [.lst (.int .i64)]⟩], [], false, [⟨false, [.bool]⟩], [], []⟩
def s (k : Nat) : FS := S.fs fun x => f k x.1.1.1 x.1.2.1.1
def E (k : Nat) : Ents := []
def L0 (l : T0) : LS R := ⟨[], [(0, ⟨false, [.lst (.int .i64)]⟩), (1, ⟨false, [.lst (.int .i64)]⟩), (5, ⟨false, [.int .i64]⟩)], [], fun x => l x.1.1.1 x.1.2.1.1 x.1.2.2.1.1⟩
def L (l0 : T0) : List (LS R) := [L0 l0]
def c : Code := Tryd.f20.body.getD .skip
theorem eq (k : Nat) (x) : (s k).pf x = execF tab (E k) Tryd.f20 c (s k) (L (l0 k)) x := by kernel_rfl
theorem r0 (l0 : T0) (k : Nat) (x) : (L0 (l0_ k l0)).l x = roundOf tab (E k) (L l0) c (fin tab Tryd.f20 (s k)) 0 (L0 l0) x := by kernel_rfl
theorem sound : ∀ k, Sound Tryd.prog 20 (s k) := snd S (fun k => (s k).pf) E (fun k => EntsOK.nil) (fun k => L (l0 k)) (fun k => ⟨⟨(L0 (l0 (k + 1))).l, rfl, fun x => r0 (l0 k) k x⟩, trivial⟩) eq
end U38
namespace U39
abbrev R := (((Bool × Unit) × Unit) × Unit)
def f (k : Nat) (a0 : tInstD) (a1 : tInstD) : Option R := bif !decide (a0.1 = a1.1) then (some (((false, ()), ()), ())) else (bif !decide (a0.2.1 = a1.2.1) then (some (((false, ()), ()), ())) else (bif !decide (a0.2.2.1 = a1.2.2.1) then (some (((false, ()), ()), ())) else (bif !decide (a0.2.2.2.1 = a1.2.2.2.1) then (some (((false, ()), ()), ())) else (bif !decide (a0.2.2.2.2.1 = a1.2.2.2.2.1) then (some (((false, ()), ()), ())) else (bif !decide (a0.2.2.2.2.2.1 = a1.2.2.2.2.2.1) then (some (((false, ()), ()), ())) else (Option.bind (U38.f k a0.2.2.2.2.2.2.1 a1.2.2.2.2.2.2.1) fun r1 => bif !r1.1.1.1 then (some (((false, ()), ()), ())) else (some (((true, ()), ()), ()))))))))
abbrev S : ShapeParts := ⟨[⟨true, [.int .i64, .int .i64, .int .i64, .int .i64, .int .i64, .int .i64, .lst (.int .i64)]⟩, ⟨true, [.int .i64, .int .i64, .int .i64, .int .i64, .int .i64, .int .i64, .lst (.int .i64)]⟩], [], false, [⟨false, [.bool]⟩], [], []⟩
def s (k : Nat) : FS := S.fs fun x => f k x.1.1 x.1.2.1
def E (k : Nat) : Ents := [(⟨20, []⟩, U38.s k)]
def L : List (LS R) := []
def c : Code := Tryd.f9.body.getD .skip
theorem eq (k : Nat) (x) : (s k).pf x = execF tab (E k) Tryd.f9 c (s k) L x := by kernel_rfl
theorem sound : ∀ k, Sound Tryd.prog 9 (s k) := snd S (fun k => (s k).pf) E (fun k => (EntsOK.cons (U38.sound k) EntsOK.nil)) (fun k => L) (fun k => trivial) eq
end U39
namespace laws_FnExactInstText
abbrev R := (((Bool × Unit) × Unit) × Unit)
set_option maxRecDepth 100000 in
def f (k : Nat) (a0 : tInstD) : Option R := Option.bind (U1.f k a0 1048576) fun r1 => bif decide (r1.1.1.1 < 0) then (some (((true, ()), ()), ())) else (Option.bind (U3.f k a0) fun r2 => Option.bind (U16.f k (r2.1.1.1, r2.1.1.2.1, r2.1.1.2.2.1, r2.1.1.2.2.2.1, r2.1.1.2.2.2.2.1, r2.1.1.2.2.2.2.2.1, r2.2.1, ())) fun r3 => Option.bind (U3.f k a0) fun r4 => Option.bind (U37.f k (r4.1.1.1, r4.1.1.2.1, r4.1.1.2.2.1, r4.1.1.2.2.2.1, r4.1.1.2.2.2.2.1, r4.1.1.2.2.2.2.2.1, r4.2.1, ())) fun r5 => bif !strEq r5.1.1.1 r3.1.1.1 then (some (((false, ()), ()), ())) else (Option.bind (U3.f k a0) fun r6 => Option.bind (U39.f k (r4.1.1.1, r4.1.1.2.1, r4.1.1.2.2.1, r4.1.1.2.2.2.1, r4.1.1.2.2.2.2.1, r4.1.1.2.2.2.2.2.1, r4.2.1, ()) (r6.1.1.1, r6.1.1.2.1, r6.1.1.2.2.1, r6.1.1.2.2.2.1, r6.1.1.2.2.2.2.1, r6.1.1.2.2.2.2.2.1, r6.2.1, ())) fun r7 => bif !r7.1.1.1 then (some (((false, ()), ()), ())) else (some (((true, ()), ()), ()))))
abbrev S : ShapeParts := ⟨[⟨true, [.int .i64, .int .i64, .int .i64, .int .i64, .int .i64, .int .i64, .lst (.int .i64)]⟩], [], false, [⟨false, [.bool]⟩], [], []⟩
def s (k : Nat) : FS := S.fs fun x => f k x.1.1
def E (k : Nat) : Ents := [(⟨5, []⟩, U1.s k), (⟨7, []⟩, U3.s k), (⟨6, []⟩, U16.s k), (⟨8, []⟩, U37.s k), (⟨9, []⟩, U39.s k)]
def L : List (LS R) := []
def c : Code := Tryd.f3.body.getD .skip
set_option maxRecDepth 100000 in
theorem eq (k : Nat) (x) : (s k).pf x = execF tab (E k) Tryd.f3 c (s k) L x := by kernel_rfl
set_option maxRecDepth 100000 in
theorem sound : ∀ k, Sound Tryd.prog 3 (s k) := snd S (fun k => (s k).pf) E (fun k => (EntsOK.cons (U1.sound k) (EntsOK.cons (U3.sound k) (EntsOK.cons (U16.sound k) (EntsOK.cons (U37.sound k) (EntsOK.cons (U39.sound k) EntsOK.nil)))))) (fun k => L) (fun k => trivial) eq
end laws_FnExactInstText
section
open Go Go.Deep Go.RowKit
/-- What is known of a datum that was read. -/
def Wf : (t : T) → t.Den → Prop
 | .int k, n => (Lit.int k n).wf = true
 | .bool, _ => True
 | .str, s => ByteArray.size s ≤ 9223372036854775807
 | .list t, xs => List.length (α := t.Den) xs ≤ 9223372036854775807 ∧ ∀ x : t.Den, List.Mem (α := t.Den) x xs → Wf t x
 | .pair a b, x => Wf a (Prod.fst (α := a.Den) (β := b.Den) x) ∧ Wf b (Prod.snd (α := a.Den) (β := b.Den) x)
 | .unit, _ => True
def OpensC (P : Program) (ty : TypeId) (t r : T) : Prop :=
 ∀ (H : Type) (enc : TypeId × Value → H) (w : World) (base : Nat) (spare : Nat → Bool) (held : Bool) (fuel : Nat) (cs : List Value) (x : DataW H × List MemPlace), DataW.trod enc P w base spare held fuel ty cs = some x →
  ∀ (y : r.Den) (us : List Value), Rd (fun b => b < w.heap.size) w r y us → Wf r y → ∃ a : t.Den, Rd (fun b => b < w.heap.size) w t a (cs ++ us) ∧ Wf t a
def Opens (P : Program) (ty : TypeId) (t : T) : Prop :=
 ∀ (H : Type) (enc : TypeId × Value → H) (w : World) (base : Nat) (spare : Nat → Bool) (held : Bool) (fuel : Nat) (cs : List Value) (x : DataW H × List MemPlace), DataW.trod enc P w base spare held fuel ty cs = some x →
  ∃ a : t.Den, Rd (fun b => b < w.heap.size) w t a cs ∧ Wf t a
theorem OpensC.whole {P : Program} {ty : TypeId} {t : T} (h : OpensC P ty t .unit) : Opens P ty t := by
 intro H enc w base spare held fuel cs x hx
 obtain ⟨a, h1, h2⟩ := h H enc w base spare held fuel cs x hx () [] rfl trivial
 rw [List.append_nil] at h1
 exact ⟨a, h1, h2⟩
theorem OpensC.one {P : Program} {ty : TypeId} {e : T} (h : OpensC P ty (.pair e .unit) .unit) : Opens P ty e := by
 intro H enc w base spare held fuel cs x hx
 obtain ⟨a, ⟨us, ws, h0, h1, h2⟩, h3⟩ := h H enc w base spare held fuel cs x hx () [] rfl trivial
 simp only [Rd] at h2
 subst h2
 simp only [List.append_nil] at h0
 subst h0
 exact ⟨_, h1, h3.1⟩
theorem OpensC.leaf {P : Program} {ty : TypeId} {e r : T} (h : Opens P ty e) : OpensC P ty (.pair e r) r := by
 intro H enc w base spare held fuel cs x hx y us hy hw
 obtain ⟨a, h1, h2⟩ := h H enc w base spare held fuel cs x hx
 exact ⟨(a, y), ⟨cs, us, rfl, h1, hy⟩, h2, hw⟩
theorem opens_list {P : Program} {ty el : TypeId} {e : T} (hu : P.underlying ty = some (.slice el)) (hc : P.cellsOf el = e.sz) (h1 : 1 ≤ e.sz) (h : Opens P el e) : Opens P ty (.list e) := by
 intro H enc w base spare held fuel cs x hx
 rcases open_slice hu hx with ⟨rfl, -⟩ | ⟨a, len, cap, m, n, D, Pl, rfl, hb, hl, hm, hmm, -, hel⟩
 ·exact ⟨([] : List e.Den), ⟨none, 0, rfl, Nat.le_refl _, fun h => absurd rfl h⟩, Nat.zero_le _, fun _ h => (List.not_mem_nil h).elim⟩
 ·have hlm : len ≤ m := by rw [hmm]; split <;> omega
  have hspot : len ≠ 0 → a.spot = none ∧ a.block < w.heap.size := by
   intro hn
   obtain ⟨cs', c1, c2⟩ := hel 0 (by omega)
   obtain ⟨-, l1, l2⟩ := World.cells?_some c1
   rw [hc] at l1 l2
   have h0 := l2 0 (by omega)
   simp only [Nat.zero_mul, Addr.add, if_true] at h0
   rw [List.getElem?_eq_getElem (by omega)] at h0
   unfold World.cell? at h0
   split at h0
   ·rename_i hh
    refine ⟨?_, (Array.getElem?_eq_some_iff.1 hh).1⟩
    split at h0
    ·cases h0
    ·rename_i hs
     simpa using hs
   ·cases h0
  have hadd : len ≠ 0 → ∀ n, a.add n = ⟨a.block, a.off + n, none⟩ := by
   intro hn n
   have hs := (hspot hn).1
   unfold Addr.add
   split
   ·rename_i h0
    subst h0
    cases a
    simp only at hs
    subst hs
    rfl
   ·rfl
  have each : ∀ n, n ≤ len → ∃ (xs : List e.Den) (us : List Value), xs.length = n ∧ (∀ x ∈ xs, Wf e x) ∧ At w a.block a.off us ∧ ELs (Rd (fun b => b < w.heap.size) w e) e.sz xs us := by
   intro n
   induction n with
   | zero => exact fun _ => ⟨[], [], rfl, fun _ h => (List.not_mem_nil h).elim, fun j v hj => by simp at hj, rfl⟩
   | succ n ih =>
    intro hn
    obtain ⟨xs, us, i1, i2, i4, i5⟩ := ih (by omega)
    obtain ⟨cs', c1, c2⟩ := hel n (by omega)
    obtain ⟨y, y1, y2⟩ := h H enc w base spare held _ cs' _ c2
    obtain ⟨-, l1, l2⟩ := World.cells?_some c1
    rw [hc] at l1 l2
    have hcell : ∀ j, j < e.sz → w.cell? ⟨a.block, a.off + (n * e.sz + j), none⟩ = cs'[j]? := by
     intro j hj
     have := l2 j hj
     rw [Deep.add_add, hadd (by omega)] at this
     exact this
    refine ⟨xs ++ [y], us ++ cs', by simp [i1], fun x hx => ?_, fun j v hj => ?_, ?_⟩
    ·rcases List.mem_append.1 hx with hx | hx
     ·exact i2 x hx
     ·simp only [List.mem_singleton] at hx; subst hx; exact y2
    ·have hul : us.length = n * e.sz := by have := i5.length; rw [i1] at this; exact this
     rcases Nat.lt_or_ge j us.length with hlt | hge
     ·rw [List.getElem?_append_left hlt] at hj
      exact i4 j v hj
     ·rw [List.getElem?_append_right hge] at hj
      have hlt := (List.getElem?_eq_some_iff.1 hj).1
      have := hcell (j - us.length) (by omega)
      rw [hj, show a.off + (n * e.sz + (j - us.length)) = a.off + j by omega] at this
      exact this
    ·refine i5.app ⟨cs', [], by simp, l1, y1, rfl⟩
  obtain ⟨xs, us, i1, i2, i4, i5⟩ := each len (Nat.le_refl _)
  refine ⟨xs, ⟨some a, cap, by rw [i1], by omega, fun hne => ?_⟩, ?_, i2⟩
  ·have hn : len ≠ 0 := fun h0 => hne (List.length_eq_zero_iff.1 (by omega))
   obtain ⟨s1, s2⟩ := hspot hn
   refine ⟨a.block, a.off, us, ?_, s2, i4, i5⟩
   cases a
   simp only at s1
   subst s1
   rfl
  ·have : cap ≤ maxLen := hm
   unfold maxLen at this
   show xs.length ≤ _
   omega
theorem opens_int {P : Program} {t : TypeId} {k : IntKind} (hu : P.underlying t = some (.int k)) : Opens P t (.int k) := by
 intro H enc w base spare held fuel cs x h
 obtain ⟨n, rfl, -, hw⟩ := DataW.trod_int hu h
 exact ⟨n, rfl, hw⟩
/-- Fields from place o on, of m cells. -/
def OpensF (P : Program) (o m : Nat) (fs : List Field) (t r : T) : Prop :=
 ∀ (H : Type) (enc : TypeId × Value → H) (w : World) (base : Nat) (spare : Nat → Bool) (held : Bool) (fuel : Nat) (cs : List Value),
  (∀ f ∈ fs, ∃ x, DataW.trod enc P w base spare held fuel f.type ((cs.drop f.offset).take (P.cellsOf f.type)) = some x) → cs.length = o + m →
  ∀ (y : r.Den) (us : List Value), Rd (fun b => b < w.heap.size) w r y us → Wf r y → ∃ a : t.Den, Rd (fun b => b < w.heap.size) w t a (cs.drop o ++ us) ∧ Wf t a
theorem opensF_nil {P : Program} {o : Nat} {t : T} : OpensF P o 0 [] t t := by
 intro H enc w base spare held fuel cs h hl y us hy hw
 refine ⟨y, ?_, hw⟩
 rw [List.drop_eq_nil_of_le (by omega), List.nil_append]
 exact hy
theorem opensF_cons {P : Program} {o m n : Nat} {f : Field} {fs : List Field} {t t1 r : T} (ho : f.offset = o) (hc : P.cellsOf f.type = m) (hd : OpensC P f.type t t1) (hs : OpensF P (o + m) n fs t1 r) : OpensF P o (m + n) (f :: fs) t r := by
 intro H enc w base spare held fuel cs h hl y us hy hw
 obtain ⟨x, hx⟩ := h f (by simp)
 obtain ⟨a1, q1, q2⟩ := hs H enc w base spare held fuel cs (fun f hf => h f (by simp [hf])) (by omega) y us hy hw
 rw [ho, hc] at hx
 obtain ⟨a, q3, q4⟩ := hd H enc w base spare held fuel _ _ hx a1 _ q1 q2
 refine ⟨a, ?_, q4⟩
 rw [← List.append_assoc, ← List.drop_drop, List.take_append_drop] at q3
 exact q3
theorem opensC_struct {P : Program} {ty : TypeId} {fs : Array Field} {m : Nat} {t r : T} (hu : P.underlying ty = some (.struct fs)) (hc : P.cellsOf ty = m) (hd : OpensF P 0 m fs.toList t r) : OpensC P ty t r := by
 intro H enc w base spare held fuel cs x h y us hy hw
 obtain ⟨xs, n, -, -, hl, hxs, hf⟩ := DataW.trod_struct hu h
 have := hd H enc w base spare held n cs (fun f hm => by
  obtain ⟨i, hi, rfl⟩ := List.getElem_of_mem hm
  have hi' : i < fs.size := by simpa using hi
  have := hf i fs[i] (by simp [hi'])
  rw [List.getElem?_eq_getElem (by omega)] at this
  exact ⟨_, by simpa using this⟩) (by rw [hl, hc, Nat.zero_add]) y us hy hw
 simpa using this
def gh0 (W : World) : Gh := ⟨fun _ => none, fun _ => none, fun b => b < W.heap.size⟩
theorem rval_struct {W : World} {t : T} {a : t.Den} {cs : Array Value} (h : Rd (fun b => b < W.heap.size) W t a cs.toList) : RVal (gh0 W) [] W true (cellsOf t a) (.agg cs) :=
 ⟨cs, rfl, rcs_cells (g := gh0 W) h⟩
theorem law_calls {P : Program} {f : FuncId} {ins : List VS} {pf : DenV ins × DenO [] → Option (DenV [⟨false, [.bool]⟩] × DenO [])} (hs : Sound P f ⟨ins, [], false, [⟨false, [.bool]⟩], [], [], pf⟩) {x : DenV ins} (hx : pf (x, ()) = some (((true, ()), ()), ())) {W : World} {args : Array Value}
  (hlx : LX (gh0 W).F W) (h : RVals (gh0 W) [] W (instV ins x) args.toList) : Calls P f args W fun e W' => e = .returned (.bool true) ∧ Below W.heap.size W W' := by
 have hG : RelG (gh0 W) [] W := ⟨fun o ob h => (by cases h), fun b o h => (by cases h), fun b h => h, hlx⟩
 refine (hs.2 (x, ()) (((true, ()), ()), ()) hx (gh0 W) W args hG h).mono fun e W' he => ?_
 cases e with
 | returned v =>
  obtain ⟨g', O⟩ := he
  have hv : RVal g' [] W' false [.bool true] v := O.val
  obtain ⟨u, us, e, h1, h2⟩ := hv
  obtain ⟨rfl, rfl⟩ : u = v ∧ us = [] := by simpa using e.symm
  have h3 : u = .bool true := h1.2
  refine ⟨by rw [h3], O.ext.os, O.ext.tape, O.ext.output, O.ext.size, fun k hk => O.ext.block k hk (by simp [gh0])⟩
 | panicked c => exact he.elim
 | outgrown => exact he.elim
end
theorem opensC24 (r : T) : OpensC Tryd.prog 24 (.pair (.int .i64) (.pair (.int .i64) (.pair (.int .i64) (.pair (.int .i64) (.pair (.int .i64) (.pair (.int .i64) (.pair (.list (.int .i64)) r))))))) r := opensC_struct Tryd.underlying24 (by kernel_rfl) (opensF_cons (o := 0) (m := 1) (n := 6) rfl (by kernel_rfl) (OpensC.leaf (opens_int Tryd.underlying2)) (opensF_cons (o := 1) (m := 1) (n := 5) rfl (by kernel_rfl) (OpensC.leaf (opens_int Tryd.underlying2)) (opensF_cons (o := 2) (m := 1) (n := 4) rfl (by kernel_rfl) (OpensC.leaf (opens_int Tryd.underlying2)) (opensF_cons (o := 3) (m := 1) (n := 3) rfl (by kernel_rfl) (OpensC.leaf (opens_int Tryd.underlying2)) (opensF_cons (o := 4) (m := 1) (n := 2) rfl (by kernel_rfl) (OpensC.leaf (opens_int Tryd.underlying2)) (opensF_cons (o := 5) (m := 1) (n := 1) rfl (by kernel_rfl) (OpensC.leaf (opens_int Tryd.underlying2)) (opensF_cons (o := 6) (m := 1) (n := 0) rfl (by kernel_rfl) (OpensC.leaf (opens_list Tryd.underlying22 (by kernel_rfl) (by decide) (opens_int Tryd.underlying2))) opensF_nil)))))))
def Ev {R : Type} (g : Nat → Option R) (r : R) : Prop := ∃ n, ∀ k, n ≤ k → g k = some r
abbrev one {α : Type} (x : α) : ((α × Unit) × Unit) × Unit := (((x, ()), ()), ())
abbrev rowR {α : Type} (xs : α) : ((Unit × Unit) × Unit) × (α × Unit) := ((((), ()), ()), (xs, ()))
section
variable {R S : Type}
theorem Ev.cst {o : Option R} {r : R} (h : o = some r) : Ev (fun _ => o) r := ⟨0, fun _ _ => h⟩
theorem Ev.all {g : Nat → Option R} {r : R} (h : ∀ k, g k = some r) : Ev g r := ⟨0, fun k _ => h k⟩
theorem Ev.congr {g g' : Nat → Option R} {r : R} (h : Ev g' r) (e : ∀ k, g k = g' k) : Ev g r := by
 obtain ⟨n, h⟩ := h
 exact ⟨n, fun k hk => by rw [e, h k hk]⟩
theorem Ev.step {g g' : Nat → Option R} {r : R} (h : Ev g' r) (e : ∀ k, g (k + 1) = g' k) : Ev g r := by
 obtain ⟨n, h⟩ := h
 refine ⟨n + 1, fun k hk => ?_⟩
 obtain ⟨k, rfl⟩ : ∃ j, k = j + 1 := ⟨k - 1, by omega⟩
 rw [e, h k (by omega)]
theorem Ev.bind {g : Nat → Option S} {f : Nat → S → Option R} {a : S} {r : R} (h : Ev g a) (k : Ev (fun n => f n a) r) : Ev (fun n => Option.bind (g n) (f n)) r := by
 obtain ⟨n, h⟩ := h
 obtain ⟨m, k⟩ := k
 exact ⟨max n m, fun j hj => by show Option.bind (g j) (f j) = some r; rw [h j (by omega), Option.bind_some]; exact k j (by omega)⟩
theorem Ev.rw {g : Nat → Option R} {r s : R} (h : Ev g r) (e : r = s) : Ev g s := e ▸ h
theorem Ev.pos {c : Bool} {f g : Nat → Option R} {r : R} (hc : c = true) (h : Ev f r) : Ev (fun k => bif c then f k else g k) r := h.congr fun k => by rw [hc]; rfl
theorem Ev.neg {c : Bool} {f g : Nat → Option R} {r : R} (hc : c = false) (h : Ev g r) : Ev (fun k => bif c then f k else g k) r := h.congr fun k => by rw [hc]; rfl
theorem Ev.ex {g : Nat → Option R} {r : R} (h : Ev g r) : ∃ k, g k = some r := by
 obtain ⟨n, h⟩ := h
 exact ⟨n, h n (Nat.le_refl _)⟩
end
def W (x : Int) : Int := IntKind.wrap .i64 x
theorem wrap_id {x : Int} (h0 : -9223372036854775808 ≤ x) (h1 : x ≤ 9223372036854775807) : IntKind.wrap .i64 x = x := by
 have e : IntKind.wrap .i64 x = if (true && decide (x % 18446744073709551616 ≥ 9223372036854775808)) = true then x % 18446744073709551616 - 18446744073709551616 else x % 18446744073709551616 := rfl
 rw [e]
 simp only [Bool.true_and, decide_eq_true_eq]
 split <;> omega
theorem wrap_nat {i : Nat} (h : i < 9223372036854775807) : IntKind.wrap .i64 ((i : Int) + 1) = ((i + 1 : Nat) : Int) := by
 rw [wrap_id (by omega) (by omega)]; omega
theorem getD_at {α : Type} (l : List α) (z : α) (j : Nat) (h : j < l.length) : l.getD j z = l[j] := by simp [List.getD, List.getElem?_eq_getElem h]
theorem dpos {c : Prop} [Decidable c] (h : c) : decide c = true := by simp [h]
theorem dneg {c : Prop} [Decidable c] (h : ¬ c) : decide c = false := by simp [h]
theorem Ev.dp {R : Type} {p : Prop} [Decidable p] {f g : Nat → Option R} {r : R} (h : p) (e : Ev f r) : Ev (fun k => bif decide p then f k else g k) r := Ev.pos (dpos h) e
theorem Ev.dn {R : Type} {p : Prop} [Decidable p] {f g : Nat → Option R} {r : R} (h : ¬ p) (e : Ev g r) : Ev (fun k => bif decide p then f k else g k) r := Ev.neg (dneg h) e
theorem Ev.dd {R : Type} {p q : Prop} [Decidable p] [Decidable q] {f g : Nat → Option R} {r : R} (h : p) (h' : q) (e : Ev f r) : Ev (fun k => bif decide p && decide q then f k else g k) r := Ev.pos (by rw [dpos h, dpos h']; rfl) e
theorem Ev.succ {R : Type} {g : Nat → Option R} {r : R} (h : Ev (fun k => g (k + 1)) r) : Ev g r := Ev.step h fun _ => rfl
/-- A loop over places 0 .. n, backwards. -/
theorem Ev.down {R : Type} {G : Nat → Nat → Option R} {V : Nat → R} (n : Nat) (hend : Ev (G n) (V n)) (hstep : ∀ i, i < n → Ev (G (i + 1)) (V (i + 1)) → Ev (G i) (V i)) : ∀ i, i ≤ n → Ev (G i) (V i) := by
 intro i hi
 obtain ⟨d, rfl⟩ : ∃ d, i = n - d := ⟨n - i, by omega⟩
 clear hi
 induction d with
 | zero => exact hend
 | succ d ih =>
  by_cases h : d < n
  ·have e : n - (d + 1) + 1 = n - d := by omega
   exact hstep (n - (d + 1)) (by omega) (by rw [e]; exact ih)
  ·have e : n - (d + 1) = n - d := by omega
   rw [e]; exact ih
section
variable {α R : Type} {z : α} {l : List α}
/-- What a loop's head asks: is the place one of the list? -/
theorem head_in {i : Nat} (h : i < l.length) : (decide ((i : Int) < (l.length : Int))) = true := dpos (by omega)
theorem head_0 {i : Nat} : (decide (0 ≤ (i : Int))) = true := dpos (by omega)
theorem head_end : (decide ((l.length : Int) < (l.length : Int))) = false := dneg (by omega)
theorem get_in {i : Nat} (h : i < l.length) : l.getD (Int.toNat (i : Int)) z = l[i] := by rw [Int.toNat_natCast]; exact getD_at l z i h
/-- The loops that ask something of each element. -/
theorem each_ev {L : Nat → Int → Option R} {q : Nat → α → (Nat → Option R) → Option R} {tail : Nat → Option R} {V : List α → R} (hlen : l.length ≤ 9223372036854775807)
  (hL : ∀ k a, L (k + 1) a = bif decide (a < (l.length : Int)) then (bif decide (0 ≤ a) && decide (a < (l.length : Int)) then q k (l.getD a.toNat z) (fun j => L j (IntKind.wrap .i64 (a + 1))) else none) else tail k)
  (hend : Ev tail (V [])) (hstep : ∀ x m (g : Nat → Option R), x ∈ l → Ev g (V m) → Ev (fun k => q k x g) (V (x :: m))) : Ev (fun k => L k 0) (V l) := by
 have := Ev.down (G := fun i k => L k (i : Int)) (V := fun i => V (l.drop i)) l.length ?_ ?_ 0 (Nat.zero_le _)
 ·exact this
 ·rw [List.drop_length]
  refine hend.step fun k => ?_
  rw [hL, head_end]; rfl
 ·intro i hi ih
  rw [List.drop_eq_getElem_cons hi]
  refine (hstep l[i] (l.drop (i + 1)) (fun j => L j (((i + 1 : Nat)) : Int)) (List.getElem_mem hi) ih).step fun k => ?_
  show L (k + 1) (i : Int) = _
  rw [hL]
  simp only [head_in hi, head_0, Bool.and_self, cond_true, get_in hi, wrap_nat (show i < 9223372036854775807 by omega)]
/-- slices.IndexFunc. -/
def ixF (p : α → Bool) : List α → Nat → Int
 | [], _ => -1
 | x :: l, i => bif p x then (i : Int) else ixF p l (i + 1)
theorem ixF_any (p : α → Bool) : ∀ (l : List α) (i : Nat), decide (0 ≤ ixF p l i) = l.any p
 | [], i => by simp [ixF]
 | x :: l, i => by
  have ih := ixF_any p l (i + 1)
  rw [List.any_cons]
  unfold ixF
  rcases Bool.eq_false_or_eq_true (p x) with h | h
  ·simp only [h, cond_true, Bool.true_or]; exact dpos (by omega)
  ·simp only [h, cond_false, Bool.false_or]; exact ih
theorem index_ev {p : α → Bool} {q : Nat → α → Option (((Bool × Unit) × Unit) × Unit)} {L : Nat → Int → Int → Option (((Int × Unit) × Unit) × Unit)} (hlen : l.length ≤ 9223372036854775807)
  (hL : ∀ k b a, L (k + 1) b a = bif decide (a < b) then (bif decide (0 ≤ a) && decide (a < (l.length : Int)) then (Option.bind (q k (l.getD a.toNat z)) fun r1 => bif r1.1.1.1 then some (((a, ()), ()), ()) else L k b (IntKind.wrap .i64 (a + 1))) else none) else some (((-1, ()), ()), ()))
  (hq : ∀ x ∈ l, Ev (fun k => q k x) (one (p x))) : Ev (fun k => Option.bind (L k (l.length : Int) 0) fun r1 => some (((decide (0 ≤ r1.1.1.1), ()), ()), ())) (one (l.any p)) := by
 have := Ev.down (G := fun i k => L k (l.length : Int) (i : Int)) (V := fun i => one (ixF p (l.drop i) i)) l.length ?_ ?_ 0 (Nat.zero_le _)
 ·refine (Ev.bind (f := fun _ r1 => some (((decide (0 ≤ r1.1.1.1), ()), ()), ())) this (Ev.cst rfl)).rw ?_
  show one (decide (0 ≤ ixF p l 0)) = _
  rw [ixF_any]
 ·rw [List.drop_length]
  refine Ev.step (g' := fun _ => some (((-1, ()), ()), ())) (Ev.cst rfl) fun k => ?_
  show L (k + 1) _ _ = _
  rw [hL, head_end]; rfl
 ·intro i hi ih
  rw [List.drop_eq_getElem_cons hi]
  have h1 := hq l[i] (List.getElem_mem hi)
  refine Ev.step (g' := fun k => Option.bind (q k l[i]) fun r1 => bif r1.1.1.1 then some ((((i : Int), ()), ()), ()) else L k (l.length : Int) ((i + 1 : Nat) : Int)) ?_ fun k => ?_
  ·refine Ev.bind h1 ?_
   simp only [ixF]
   cases p l[i] with
   | true => exact Ev.cst rfl
   | false => exact ih
  ·show L (k + 1) _ _ = _
   rw [hL]
   simp only [head_in hi, head_0, Bool.and_self, cond_true, get_in hi, wrap_nat (show i < 9223372036854775807 by omega)]
end
/-- All lists are short. -/
def Small : (t : T) → t.Den → Prop
 | .list t, xs => List.length (α := t.Den) xs ≤ 1048576 ∧ ∀ x : t.Den, List.Mem (α := t.Den) x xs → Small t x
 | .pair a b, x => Small a (Prod.fst (α := a.Den) (β := b.Den) x) ∧ Small b (Prod.snd (α := a.Den) (β := b.Den) x)
 | _, _ => True
abbrev IR := (((Int × Unit) × Unit) × Unit)
abbrev BR := (((Bool × Unit) × Unit) × Unit)
def SzP {α : Type} (wf small : α → Prop) (f : Nat → α → Int → Option IR) : Prop := ∀ (x : α), wf x → ∀ n : Int, 0 ≤ n → n ≤ 1048576 → ∃ s, Ev (fun k => f k x n) (one s) ∧ -1 ≤ s ∧ s ≤ n ∧ (0 ≤ s → small x)
abbrev SzOK (t : T) (f : Nat → t.Den → Int → Option IR) : Prop := SzP (Wf t) (Small t) f
/-- A copy, element by element. -/
theorem to_list {α R : Type} {z : α} {L : Nat → List α → Int → List α → Option (((Unit × Unit) × Unit) × (List α × Unit))} {q : Nat → α → (α → Option (((Unit × Unit) × Unit) × (List α × Unit))) → Option (((Unit × Unit) × Unit) × (List α × Unit))} {F : Nat → List α → Option (((Unit × Unit) × Unit) × (List α × Unit))} {b : Int}
  (hL : ∀ k l a1 a2, L (k + 1) l a1 a2 = bif decide (a1 < (l.length : Int)) then (bif decide (0 ≤ a1) && decide (a1 < (l.length : Int)) then q k (l.getD a1.toNat z) (fun y => bif decide (0 ≤ a1) && decide (a1 < (a2.length : Int)) then L k l (IntKind.wrap .i64 (a1 + 1)) (a2.set a1.toNat y) else none) else none) else some ((((), ()), ()), (a2, ())))
  (hF : ∀ k l, F k l = bif decide ((l.length : Int) = (l.length : Int)) && decide (0 ≤ (l.length : Int)) && decide ((l.length : Int) * b ≤ 281474976710656) then L k l 0 (List.replicate (Int.toNat (l.length : Int)) z) else none)
  {l : List α} (hlen : l.length ≤ 1048576) (hb0 : 0 ≤ b) (hb : b ≤ 1000) (hq : ∀ x ∈ l, ∀ (h : Nat → α → Option (((Unit × Unit) × Unit) × (List α × Unit))) r, Ev (fun k => h k x) r → Ev (fun k => q k x (h k)) r) : Ev (fun k => F k l) (rowR l) := by
 have h1 := Ev.down (G := fun i k => L k l (i : Int) (l.take i ++ List.replicate (l.length - i) z)) (V := fun _ => rowR l) l.length ?_ ?_ 0 (Nat.zero_le _)
 ·refine h1.congr fun k => ?_
  have hsz : (l.length : Int) * b ≤ 281474976710656 := by
   have : (l.length : Int) * b ≤ 1048576 * 1000 := Int.mul_le_mul (by omega) hb hb0 (by omega)
   omega
  rw [hF, dpos rfl, dpos (show 0 ≤ (l.length : Int) by omega), dpos hsz]
  simp
 ·refine Ev.step (g' := fun _ => some (rowR l)) (Ev.cst rfl) fun k => ?_
  show L (k + 1) l _ _ = _
  rw [hL, head_end]
  simp
 ·intro i hi ih
  refine Ev.step (g' := fun k => q k l[i] (fun y => bif decide (0 ≤ (i : Int)) && decide ((i : Int) < (((l.take i ++ List.replicate (l.length - i) z).length : Nat) : Int)) then L k l ((i + 1 : Nat) : Int) ((l.take i ++ List.replicate (l.length - i) z).set i y) else none)) (hq _ (List.getElem_mem hi) (fun k y => bif decide (0 ≤ (i : Int)) && decide ((i : Int) < (((l.take i ++ List.replicate (l.length - i) z).length : Nat) : Int)) then L k l ((i + 1 : Nat) : Int) ((l.take i ++ List.replicate (l.length - i) z).set i y) else none) _ ?_) fun k => ?_
  ·refine Ev.pos ?_ (ih.congr fun k => ?_)
   ·rw [dpos (by omega), dpos (by simp; omega)]; rfl
   ·congr 1
    rw [List.set_append_right _ _ (by simp; omega)]
    have e1 : i - (l.take i).length = 0 := by simp; omega
    have e2 : l.length - i = (l.length - (i + 1)) + 1 := by omega
    rw [e1, e2, List.replicate_succ, List.set_cons_zero, List.take_succ_eq_append_getElem hi, List.append_assoc]
    rfl
  ·show L (k + 1) l _ _ = _
   rw [hL]
   simp only [head_in hi, head_0, Bool.and_self, cond_true, get_in hi, wrap_nat (show i < 9223372036854775807 by omega), Int.toNat_natCast]
   rw [getD_at l z i hi]
/-- A list compared with itself. -/
theorem eq_list {α : Type} {z : α} {L : Nat → List α → List α → Int → Option BR} {q : Nat → α → α → Option BR → Option BR} {F : Nat → List α → List α → Option BR}
  (hL : ∀ k l m a, L (k + 1) l m a = bif decide (a < (l.length : Int)) then (bif decide (0 ≤ a) && decide (a < (l.length : Int)) then (bif decide (0 ≤ a) && decide (a < (m.length : Int)) then q k (l.getD a.toNat z) (m.getD a.toNat z) (L k l m (IntKind.wrap .i64 (a + 1))) else none) else none) else some (((true, ()), ()), ()))
  (hF : ∀ k l m, F k l m = bif !decide ((l.length : Int) = (m.length : Int)) then some (((false, ()), ()), ()) else L k l m 0)
  {l : List α} (hlen : l.length ≤ 1048576) (hq : ∀ x ∈ l, ∀ (g : Nat → Option BR) r, Ev g r → Ev (fun k => q k x x (g k)) r) : Ev (fun k => F k l l) (one true) := by
 have h1 := Ev.down (G := fun i k => L k l l (i : Int)) (V := fun _ => one true) l.length ?_ ?_ 0 (Nat.zero_le _)
 ·refine h1.congr fun k => ?_
  rw [hF, dpos rfl]; rfl
 ·refine Ev.step (g' := fun _ => some (one true)) (Ev.cst rfl) fun k => ?_
  show L (k + 1) l l _ = _
  rw [hL, head_end]; rfl
 ·intro i hi ih
  refine Ev.step (hq _ (List.getElem_mem hi) (fun k => L k l l ((i + 1 : Nat) : Int)) _ ih) fun k => ?_
  show L (k + 1) l l _ = _
  rw [hL]
  simp only [head_in hi, head_0, Bool.and_self, cond_true, get_in hi, wrap_nat (show i < 9223372036854775807 by omega)]
theorem sz_then {n s : Int} {g : Nat → Option IR} (h : Ev g (one s)) : Ev (fun k => Option.bind (g k) fun r1 => bif decide (r1.1.1.1 < 0) then some (((-1, ()), ()), ()) else some (((r1.1.1.1, ()), ()), ())) (one (if s < 0 then -1 else s)) := by
 refine Ev.bind h ?_
 by_cases hs : s < 0
 ·rw [if_pos hs]; exact Ev.pos (dpos hs) (Ev.cst rfl)
 ·rw [if_neg hs]; exact Ev.neg (dneg hs) (Ev.cst rfl)
theorem szInts : SzOK (.list (.int .i64)) U0.f := by
 intro l hw n h0 h1
 have hlen : List.length (α := Int) l ≤ 9223372036854775807 := hw.1
 have hwr : IntKind.wrap .i64 (n - (List.length (α := Int) l : Int)) = n - (List.length (α := Int) l : Int) := wrap_id (by omega) (by omega)
 have he : ∀ k, U0.f k l n = bif decide (n - (List.length (α := Int) l : Int) < 0) then some (one (-1)) else some (one (n - (List.length (α := Int) l : Int))) := fun k => by
  show (bif decide (IntKind.wrap .i64 (n - (List.length (α := Int) l : Int)) < 0) then _ else _) = _
  rw [hwr]
 by_cases hs : n - (List.length (α := Int) l : Int) < 0
 ·exact ⟨-1, Ev.all fun k => by rw [he, dpos hs]; rfl, by omega, by omega, fun h => by omega⟩
 ·exact ⟨_, Ev.all fun k => by rw [he, dneg hs]; rfl, by omega, by omega, fun h => ⟨by show List.length (α := Int) l ≤ _; omega, fun _ _ => trivial⟩⟩
theorem szInst : SzOK tInst U1.f := by
 intro x hw n h0 h1
 obtain ⟨s, e, a, b, c⟩ := szInts _ hw.2.2.2.2.2.2.1 n h0 h1
 exact ⟨_, sz_then (n := n) e, by split <;> omega, by split <;> omega, fun h => ⟨trivial, trivial, trivial, trivial, trivial, trivial, c (by split at h <;> omega), trivial⟩⟩
theorem toInts {l : List Int} (h : Small (.list (.int .i64)) l) : Ev (fun k => U2.f k l) (rowR l) :=
 to_list (z := 0) (L := U2.l0) (q := fun k x h => h x) (b := 8) (R := Unit) (fun k l a b => rfl) (fun k l => rfl) h.1 (by omega) (by omega) fun x _ h r hh => hh
theorem toInst {x : tInstD} (h : Small tInst x) : Ev (fun k => U3.f k x) (((x.1, x.2.1, x.2.2.1, x.2.2.2.1, x.2.2.2.2.1, x.2.2.2.2.2.1, (), ()), ()), (x.2.2.2.2.2.2.1, ())) := Ev.bind (toInts h.2.2.2.2.2.2.1) (Ev.cst rfl)
theorem eqInts {l : List Int} (h : Small (.list (.int .i64)) l) : Ev (fun k => U38.f k l l) (one true) :=
 eq_list (z := 0) (L := U38.l0) (q := fun k x y g => bif !decide (x = y) then some (((false, ()), ()), ()) else g) (fun k l m a => rfl) (fun k l m => rfl) h.1 fun x _ g r hh => Ev.neg (by rw [dpos rfl]; rfl) hh
theorem Ev.skip {R : Type} {n : Int} {o : Option R} {g : Nat → Option R} {r : R} (h : Ev g r) : Ev (fun k => bif !decide (n = n) then o else g k) r := Ev.neg (by rw [dpos rfl]; rfl) h
theorem Ev.yes {g : Nat → Option BR} {f : Nat → Option BR} {o : Option BR} {r : BR} (h : Ev g (one true)) (hf : Ev f r) : Ev (fun k => Option.bind (g k) fun r1 => bif !r1.1.1.1 then o else f k) r := Ev.bind h (Ev.neg rfl hf)
theorem eqInst {x : tInstD} (h : Small tInst x) : Ev (fun k => U39.f k x x) (one true) := Ev.skip (Ev.skip (Ev.skip (Ev.skip (Ev.skip (Ev.skip (Ev.yes (eqInts h.2.2.2.2.2.2.1) (Ev.cst rfl)))))))
def inB (lo hi x : Int) : Bool := decide (lo ≤ x) && decide (x ≤ hi)
def wOk (w : Int) : Bool := decide (w = 1) || decide (w = 8) || decide (w = 16) || decide (w = 32)
def opsB (i : tInstD) : List Int :=
 bif inB 1 17 i.1 then [i.2.2.1, i.2.2.2.1] else bif decide (i.1 = 24) then [i.2.2.1, i.2.2.2.1] else bif inB 18 20 i.1 then [i.2.2.1] else bif decide (i.1 = 23) then [i.2.2.1] else bif decide (i.1 = 25) then [i.2.2.1] else bif decide (i.1 = 27) then [i.2.2.1] else
 bif decide (i.1 = 22) then [i.2.2.1, i.2.2.2.1, i.2.2.2.2.1] else bif decide (i.1 = 26) then i.2.2.2.2.2.2.1 else []
theorem specIn (k : Nat) (a lo hi : Int) : U4.f k a lo hi = some (one (inB lo hi a)) := by
 unfold U4.f inB
 cases decide (lo ≤ a) <;> rfl
theorem implIn (k : Nat) (a lo hi : Int) : U17.f k a lo hi = some (one (inB lo hi a)) := by
 unfold U17.f inB
 cases decide (lo ≤ a) <;> rfl
theorem specW (k : Nat) (a : Int) : U7.f k a = some (one (wOk a)) := by
 unfold U7.f wOk
 cases decide (a = 1) <;> cases decide (a = 8) <;> cases decide (a = 16) <;> rfl
theorem implW (k : Nat) (a : Int) : U27.f k a = some (one (wOk a)) := by
 unfold U27.f wOk
 cases decide (a = 1) <;> cases decide (a = 8) <;> cases decide (a = 16) <;> rfl
theorem specCopy (k : Nat) {l : List Int} (h : l.length ≤ 1048576) : U5.f k l = some (rowR l) := by
 unfold U5.f
 rw [dpos (by simp; omega)]; rfl
theorem implClone (k : Nat) {l : List Int} (h : l.length ≤ 1048576) : slices_Clone_int64_int64.f k l = some (rowR l) := by
 unfold slices_Clone_int64_int64.f cloneF
 rw [dpos (by omega)]; rfl
theorem specOps (k : Nat) {i : tInstD} (h : i.2.2.2.2.2.2.1.length ≤ 1048576) : U6.f k i = some (rowR (opsB i)) := by
 unfold U6.f opsB
 simp only [specIn, specCopy k h, Option.bind_some]
 cases inB 1 17 i.1
 ·cases decide (i.1 = 24)
  ·cases inB 18 20 i.1
   ·cases decide (i.1 = 23)
    ·cases decide (i.1 = 25)
     ·cases decide (i.1 = 27)
      ·cases decide (i.1 = 22)
       ·cases decide (i.1 = 26) <;> rfl
       ·rfl
      ·rfl
     ·rfl
    ·rfl
   ·rfl
  ·rfl
 ·rfl
theorem implBin (k : Nat) (a : Int) : U18.f k a = some (one (inB 1 17 a)) := by
 unfold U18.f
 rw [implIn]; rfl
theorem implCast (k : Nat) (a : Int) : U19.f k a = some (one (inB 18 20 a)) := by
 unfold U19.f
 rw [implIn]; rfl
theorem implOps (k : Nat) {i : tInstD} (h : i.2.2.2.2.2.2.1.length ≤ 1048576) : U20.f k i = some (rowR (opsB i)) := by
 unfold U20.f opsB
 simp only [implBin, implCast, implClone k h, Option.bind_some]
 cases inB 1 17 i.1
 ·cases decide (i.1 = 24)
  ·cases inB 18 20 i.1
   ·cases decide (i.1 = 23)
    ·cases decide (i.1 = 25)
     ·cases decide (i.1 = 27)
      ·cases decide (i.1 = 22)
       ·cases decide (i.1 = 26) <;> rfl
       ·rfl
      ·rfl
     ·rfl
    ·rfl
   ·rfl
  ·rfl
 ·rfl
def topOf (w : Int) : Int := bif decide (w = 1) then 1 else bif decide (w = 8) then 255 else bif decide (w = 16) then 65535 else 4294967295
def valB (w x : Int) : Bool := wOk w && inB 0 (topOf w) x
theorem wOk_cases {w : Int} (h : wOk w = true) : w = 1 ∨ w = 8 ∨ w = 16 ∨ w = 32 := by
 simp only [wOk, Bool.or_eq_true, decide_eq_true_eq] at h
 omega
theorem specVal (k : Nat) (w x : Int) : U9.f k w x = some (one (valB w x)) := by
 unfold U9.f valB
 simp only [specW, Option.bind_some]
 cases h : wOk w with
 | false => rfl
 | true => rcases wOk_cases h with rfl | rfl | rfl | rfl <;> (unfold U8.f; simp only [specIn]; rfl)
theorem implVal (k : Nat) (w x : Int) : U30.f k w x = some (one (valB w x)) := by
 unfold U30.f valB
 simp only [implW, Option.bind_some]
 cases h : wOk w with
 | false => rfl
 | true => rcases wOk_cases h with rfl | rfl | rfl | rfl <;> (unfold U29.f; simp only [implIn]; rfl)
def widB (i : tInstD) : Bool := bif decide (i.1 = 24) || decide (i.1 = 25) then decide (i.2.1 = 0) else bif decide (i.1 = 23) then decide (i.2.1 = 8) else wOk i.2.1
def immB (i : tInstD) (funcs : Int) : Bool := bif decide (i.1 = 21) then valB i.2.1 i.2.2.2.2.2.1 else bif decide (i.1 = 26) then inB 0 (funcs - 1) i.2.2.2.2.2.1 else decide (i.2.2.2.2.2.1 = 0)
def named (i : tInstD) : Nat := bif decide (i.1 = 26) then 0 else (opsB i).length
def zerosB (i : tInstD) : Bool := ([i.2.2.1, i.2.2.2.1, i.2.2.2.2.1].drop (named i)).all fun n => decide (n = 0)
def instB (count funcs : Int) (i : tInstD) : Bool :=
 inB 1 27 i.1 && decide (i.2.2.2.2.2.2.1.length ≤ 4) && (decide (i.2.2.2.2.2.2.1.length = 0) || decide (i.1 = 26)) && (opsB i).all (inB 0 (count - 1)) && zerosB i && widB i && immB i funcs
theorem implWid (k : Nat) (i : tInstD) : U28.f k i = some (one (widB i)) := by
 unfold U28.f widB
 simp only [implW, Option.bind_some]
 by_cases h : i.1 = 24
 ·simp [h]
 ·by_cases h2 : i.1 = 25
  ·simp [h2]
  ·simp only [dneg h, dneg h2, cond_false, Bool.or_self]
   cases decide (i.1 = 23) <;> rfl
theorem implImm (k : Nat) (i : tInstD) {funcs : Int} (h0 : 0 ≤ funcs) (h1 : funcs ≤ 9223372036854775807) : U31.f k i funcs = some (one (immB i funcs)) := by
 unfold U31.f immB
 simp only [implVal, implIn, Option.bind_some, wrap_id (show -9223372036854775808 ≤ funcs - 1 by omega) (show funcs - 1 ≤ 9223372036854775807 by omega)]
 cases decide (i.1 = 21) <;> cases decide (i.1 = 26) <;> rfl
theorem any_not {α : Type} {p : α → Bool} : ∀ {l : List α}, (l.any fun x => !p x) = !l.all p
 | [] => rfl
 | x :: l => by simp only [List.any_cons, List.all_cons, any_not (l := l), Bool.not_and]
theorem implIn1 {l : List Int} (h : l.length ≤ 1048576) {count : Int} (h0 : 0 ≤ count) (h1 : count ≤ 9223372036854775807) : Ev (fun k => U23.f k l count) (one (!l.all (inB 0 (count - 1)))) := by
 rw [← any_not]
 exact index_ev (z := 0) (L := fun k b a => U22.l0 k l b a count) (q := fun k x => U21.f k x count) (by omega) (fun k b a => rfl) fun x _ => Ev.all fun k => by
  unfold U21.f
  rw [implIn, wrap_id (by omega) (by omega)]; rfl
theorem implZero {l : List Int} (h : l.length ≤ 1048576) : Ev (fun k => U26.f k l) (one (!l.all fun n => decide (n = 0))) := by
 rw [← any_not]
 exact index_ev (z := 0) (L := fun k b a => U25.l0 k l b a) (q := fun k x => U24.f k x) (by omega) (fun k b a => rfl) fun x _ => Ev.all fun k => rfl
theorem opsB_len {i : tInstD} (h : i.2.2.2.2.2.2.1.length ≤ 1048576) : (opsB i).length ≤ 1048576 := by
 unfold opsB
 cases inB 1 17 i.1 <;> cases decide (i.1 = 24) <;> cases inB 18 20 i.1 <;> cases decide (i.1 = 23) <;> cases decide (i.1 = 25) <;> cases decide (i.1 = 27) <;> cases decide (i.1 = 22) <;> cases decide (i.1 = 26) <;> simp only [cond_true, cond_false, List.length_cons, List.length_nil] <;> omega
theorem opsB_few {i : tInstD} (h : i.1 ≠ 26) : (opsB i).length ≤ 3 := by
 unfold opsB
 rw [dneg h]
 cases inB 1 17 i.1 <;> cases decide (i.1 = 24) <;> cases inB 18 20 i.1 <;> cases decide (i.1 = 23) <;> cases decide (i.1 = 25) <;> cases decide (i.1 = 27) <;> cases decide (i.1 = 22) <;> simp
theorem ev_and {g : Nat → Option BR} {b c : Bool} (h : Ev g (one c)) : Ev (fun k => bif !b then some (one false) else g k) (one (b && c)) := by
 cases b with
 | true => exact Ev.neg rfl h
 | false => exact Ev.pos rfl (Ev.cst rfl)
/-- What comes behind the operands, in the program. -/
theorem implTail {i : tInstD} {l : List Int} (hl : l.length ≤ 1048576) {funcs : Int} (h0 : 0 ≤ funcs) (h1 : funcs ≤ 9223372036854775807) : Ev (fun k => Option.bind (U26.f k l) fun r4 => bif r4.1.1.1 then some (((false, ()), ()), ()) else Option.bind (U28.f k i) fun r5 => bif r5.1.1.1 then Option.bind (U31.f k i funcs) fun r6 => some (((r6.1.1.1, ()), ()), ()) else some (((false, ()), ()), ())) (one ((l.all fun n => decide (n = 0)) && widB i && immB i funcs)) := by
 refine Ev.bind (implZero hl) ?_
 cases l.all fun n => decide (n = 0) with
 | false => exact Ev.cst rfl
 | true =>
  refine Ev.all fun k => ?_
  simp only [implWid, implImm k i h0 h1, Option.bind_some]
  cases widB i <;> cases immB i funcs <;> rfl
theorem implInst {i : tInstD} (hs : i.2.2.2.2.2.2.1.length ≤ 1048576) {count funcs : Int} (h0 : 0 ≤ count) (h1 : count ≤ 9223372036854775807) (h2 : 0 ≤ funcs) (h3 : funcs ≤ 9223372036854775807) : Ev (fun k => U32.f k i count funcs) (one (instB count funcs i)) := by
 have rest : i.1 = 26 ∨ i.1 ≠ 26 → Ev (fun k => Option.bind (U20.f k i) fun r2 => Option.bind (U23.f k r2.2.1 count) fun r3 => bif r3.1.1.1 then some (((false, ()), ()), ()) else
   bif decide (i.1 = 26) then (bif (decide ((0 : Int) ≤ 0)) && (decide ((0 : Int) ≤ ((List.length [i.2.2.1, i.2.2.2.1, i.2.2.2.2.1] : Nat) : Int))) then (Option.bind (U26.f k [i.2.2.1, i.2.2.2.1, i.2.2.2.2.1]) fun r4 => bif r4.1.1.1 then some (((false, ()), ()), ()) else Option.bind (U28.f k i) fun r5 => bif r5.1.1.1 then Option.bind (U31.f k i funcs) fun r6 => some (((r6.1.1.1, ()), ()), ()) else some (((false, ()), ()), ())) else none)
   else (bif (decide (0 ≤ ((List.length r2.2.1 : Nat) : Int))) && (decide (((List.length r2.2.1 : Nat) : Int) ≤ ((List.length [i.2.2.1, i.2.2.2.1, i.2.2.2.2.1] : Nat) : Int))) then (Option.bind (U26.f k (List.drop (Int.toNat ((List.length r2.2.1 : Nat) : Int)) [i.2.2.1, i.2.2.2.1, i.2.2.2.2.1])) fun r4 => bif r4.1.1.1 then some (((false, ()), ()), ()) else Option.bind (U28.f k i) fun r5 => bif r5.1.1.1 then Option.bind (U31.f k i funcs) fun r6 => some (((r6.1.1.1, ()), ()), ()) else some (((false, ()), ()), ())) else none))
   (one ((opsB i).all (inB 0 (count - 1)) && (zerosB i && widB i && immB i funcs))) := by
  intro hd
  refine Ev.bind (Ev.all fun k => implOps k hs) (Ev.bind (implIn1 (opsB_len hs) h0 h1) ?_)
  cases (opsB i).all (inB 0 (count - 1)) with
  | false => exact Ev.cst rfl
  | true =>
   rcases hd with hd | hd
   ·refine Ev.neg rfl (Ev.pos (dpos hd) (Ev.pos rfl ?_))
    have := implTail (i := i) (l := [i.2.2.1, i.2.2.2.1, i.2.2.2.2.1]) (by simp) h2 h3
    refine this.rw ?_
    unfold zerosB named
    rw [dpos hd]; rfl
   ·refine Ev.neg rfl (Ev.neg (dneg hd) (Ev.pos ?_ ?_))
    ·have := opsB_few hd
     show (decide (0 ≤ ((opsB i).length : Int)) && decide (((opsB i).length : Int) ≤ 3)) = true
     rw [dpos (by omega), dpos (by omega)]; rfl
    ·have := implTail (i := i) (l := List.drop (opsB i).length [i.2.2.1, i.2.2.2.1, i.2.2.2.2.1]) (by simp; omega) h2 h3
     refine this.rw ?_
     unfold zerosB named
     rw [dneg hd]; rfl
 have rest := rest (Decidable.em _)
 unfold U32.f
 refine Ev.bind (Ev.all fun k => implIn k _ _ _) ?_
 unfold instB
 generalize hz : ((opsB i).all (inB 0 (count - 1)) && (zerosB i && widB i && immB i funcs)) = zz at rest
 have hzz : ∀ b c d : Bool, (b && c && d && (opsB i).all (inB 0 (count - 1)) && zerosB i && widB i && immB i funcs) = (b && c && d && zz) := fun b c d => by rw [← hz]; simp only [Bool.and_assoc]
 rw [hzz]
 cases inB 1 27 i.1 with
 | false => exact Ev.pos rfl (Ev.cst rfl)
 | true =>
  refine Ev.neg rfl ?_
  by_cases h4 : 4 < ((i.2.2.2.2.2.2.1.length : Nat) : Int)
  ·refine Ev.pos (dpos h4) (Ev.cst ?_)
   rw [dneg (show ¬ i.2.2.2.2.2.2.1.length ≤ 4 by omega)]; rfl
  ·refine Ev.neg (dneg h4) ?_
   rw [dpos (show i.2.2.2.2.2.2.1.length ≤ 4 by omega)]
   by_cases h5 : 0 < ((i.2.2.2.2.2.2.1.length : Nat) : Int)
   ·refine Ev.pos (dpos h5) ?_
    rw [dneg (show ¬ i.2.2.2.2.2.2.1.length = 0 by omega)]
    by_cases h6 : i.1 = 26
    ·exact Ev.neg (by rw [dpos h6]; rfl) (rest.rw (by rw [dpos h6]; rfl))
    ·exact Ev.pos (by rw [dneg h6]; rfl) (Ev.cst (by rw [dneg h6]; rfl))
   ·refine Ev.neg (dneg h5) (rest.rw ?_)
    rw [dpos (show i.2.2.2.2.2.2.1.length = 0 by omega)]; rfl
theorem zeros_at {a b c : Int} : ∀ n : Nat, ([a, b, c].drop n).all (fun n => decide (n = 0)) = ((bif decide ((n : Int) < 1) then decide (a = 0) else true) && (bif decide ((n : Int) < 2) then decide (b = 0) else true) && (bif decide ((n : Int) < 3) then decide (c = 0) else true))
 | 0 => by simp [Bool.and_assoc]
 | 1 => by simp
 | 2 => by simp
 | n + 3 => by
  rw [dneg (show ¬ (((n + 3 : Nat) : Int) < 1) by omega), dneg (show ¬ (((n + 3 : Nat) : Int) < 2) by omega), dneg (show ¬ (((n + 3 : Nat) : Int) < 3) by omega)]
  simp
set_option synthInstance.maxHeartbeats 400000 in
set_option synthInstance.maxSize 100000 in
theorem specInst0 {i : tInstD} {ids : List Int} (hl : ids.length ≤ 1048576) {count funcs : Int} (h0 : 0 ≤ count) (h1 : count ≤ 9223372036854775807) (h2 : 0 ≤ funcs) (h3 : funcs ≤ 9223372036854775807) (hn : named i = bif decide (i.1 = 26) then 0 else ids.length) :
  Ev (fun k => U10.l0 k count funcs 0 i ids) (one (ids.all (inB 0 (count - 1)) && (decide (i.2.2.2.2.2.2.1.length ≤ 4) && zerosB i && widB i && immB i funcs))) := by
 refine each_ev (z := 0) (L := fun k a => U10.l0 k count funcs a i ids) (V := fun m => one (m.all (inB 0 (count - 1)) && (decide (i.2.2.2.2.2.2.1.length ≤ 4) && zerosB i && widB i && immB i funcs))) (q := fun k x g => Option.bind (U4.f k x 0 (IntKind.wrap .i64 (count - 1))) fun r1 => bif !r1.1.1.1 then some (((false, ()), ()), ()) else g k) (by omega) (fun k a => rfl) ?_ ?_
 ·refine Ev.all fun k => ?_
  have hz : zerosB i = ((bif decide (((named i : Nat) : Int) < 1) then decide (i.2.2.1 = 0) else true) && (bif decide (((named i : Nat) : Int) < 2) then decide (i.2.2.2.1 = 0) else true) && (bif decide (((named i : Nat) : Int) < 3) then decide (i.2.2.2.2.1 = 0) else true)) := zeros_at _
  rw [hz, hn]
  simp only [specVal, specIn, specW, Option.bind_some, wrap_id (show -9223372036854775808 ≤ funcs - 1 by omega) (show funcs - 1 ≤ 9223372036854775807 by omega), List.all_nil, Bool.true_and]
  have h4 : decide (i.2.2.2.2.2.2.1.length ≤ 4) = !decide (4 < ((List.length i.2.2.2.2.2.2.1 : Nat) : Int)) := by
   by_cases h : 4 < ((List.length i.2.2.2.2.2.2.1 : Nat) : Int)
   ·rw [dpos h, dneg (by omega)]; rfl
   ·rw [dneg h, dpos (by omega)]; rfl
  rw [h4]
  unfold widB immB
  have fin : ∀ (o24 o25 o26 o21 o23 w0 w8 wk : Bool), decide (i.1 = 24) = o24 → decide (i.1 = 25) = o25 → decide (i.1 = 26) = o26 → decide (i.1 = 21) = o21 → decide (i.1 = 23) = o23 → decide (i.2.1 = 0) = w0 → decide (i.2.1 = 8) = w8 → wOk i.2.1 = wk →
    (o24 = true ∧ o25 = false ∧ o26 = false ∧ o21 = false ∧ o23 = false ∨ o24 = false ∧ o25 = true ∧ o26 = false ∧ o21 = false ∧ o23 = false ∨ o24 = false ∧ o25 = false ∧ o26 = true ∧ o21 = false ∧ o23 = false ∨ o24 = false ∧ o25 = false ∧ o26 = false ∧ o21 = true ∧ o23 = false ∨ o24 = false ∧ o25 = false ∧ o26 = false ∧ o21 = false ∧ o23 = true ∨ o24 = false ∧ o25 = false ∧ o26 = false ∧ o21 = false ∧ o23 = false) ∧
    (w0 = true ∧ w8 = false ∧ wk = false ∨ w0 = false ∧ w8 = true ∧ wk = true ∨ w0 = false ∧ w8 = false) := by
   rintro _ _ _ _ _ _ _ _ rfl rfl rfl rfl rfl rfl rfl rfl
   simp only [decide_eq_true_eq, decide_eq_false_iff_not]
   refine ⟨by omega, ?_⟩
   by_cases h : i.2.1 = 0
   ·exact .inl ⟨h, by omega, by rw [h]; rfl⟩
   ·by_cases h' : i.2.1 = 8
    ·exact .inr (.inl ⟨h, h', by rw [h']; rfl⟩)
    ·exact .inr (.inr ⟨h, h'⟩)
  have fin := fin _ _ _ _ _ _ _ _ rfl rfl rfl rfl rfl rfl rfl rfl
  clear hz h4 hn
  generalize decide (i.1 = 24) = o24 at fin ⊢
  generalize decide (i.1 = 25) = o25 at fin ⊢
  generalize decide (i.1 = 26) = o26 at fin ⊢
  generalize decide (i.1 = 21) = o21 at fin ⊢
  generalize decide (i.1 = 23) = o23 at fin ⊢
  generalize decide (i.2.1 = 0) = w0 at fin ⊢
  generalize decide (i.2.1 = 8) = w8 at fin ⊢
  generalize wOk i.2.1 = wk at fin ⊢
  have z1 : decide (((0 : Nat) : Int) < 1) = true := rfl
  have z2 : decide (((0 : Nat) : Int) < 2) = true := rfl
  have z3 : decide (((0 : Nat) : Int) < 3) = true := rfl
  have y1 : decide ((0 : Int) < 1) = true := rfl
  have y2 : decide ((0 : Int) < 2) = true := rfl
  have y3 : decide ((0 : Int) < 3) = true := rfl
  obtain ⟨f1, f2⟩ := fin
  rcases f1 with ⟨rfl, rfl, rfl, rfl, rfl⟩ | ⟨rfl, rfl, rfl, rfl, rfl⟩ | ⟨rfl, rfl, rfl, rfl, rfl⟩ | ⟨rfl, rfl, rfl, rfl, rfl⟩ | ⟨rfl, rfl, rfl, rfl, rfl⟩ | ⟨rfl, rfl, rfl, rfl, rfl⟩ <;> rcases f2 with ⟨rfl, rfl, rfl⟩ | ⟨rfl, rfl, rfl⟩ | ⟨rfl, rfl⟩ <;>
   simp only [cond_true, cond_false, z1, z2, z3, y1, y2, y3, beq_self_eq_true, Bool.not_true, Bool.not_false, Bool.or_true, Bool.or_false, Bool.and_false, Bool.false_and, Bool.true_and, Bool.and_true, show (true == false) = false from rfl, show (false == true) = false from rfl, Int.reduceLT, decide_true, decide_false] <;>
   generalize decide (4 < ((List.length i.2.2.2.2.2.2.1 : Nat) : Int)) = l4 <;>
   generalize decide (((ids.length : Nat) : Int) < 1) = n1 <;> generalize decide (((ids.length : Nat) : Int) < 2) = n2 <;> generalize decide (((ids.length : Nat) : Int) < 3) = n3 <;>
   generalize decide (i.2.2.1 = 0) = a <;> generalize decide (i.2.2.2.1 = 0) = b <;> generalize decide (i.2.2.2.2.1 = 0) = c <;> generalize decide (i.2.2.2.2.2.1 = 0) = m <;>
   generalize valB i.2.1 i.2.2.2.2.2.1 = va <;> generalize inB 0 (funcs - 1) i.2.2.2.2.2.1 = vb <;> revert l4 n1 n2 n3 a b c m va vb <;> (try revert wk) <;> decide +kernel
 ·intro x m g hx hg
  refine Ev.bind (Ev.all fun k => specIn k _ _ _) ?_
  rw [wrap_id (by omega) (by omega), List.all_cons, Bool.and_assoc]
  exact ev_and hg
theorem specInst {i : tInstD} (hs : i.2.2.2.2.2.2.1.length ≤ 1048576) {count funcs : Int} (h0 : 0 ≤ count) (h1 : count ≤ 9223372036854775807) (h2 : 0 ≤ funcs) (h3 : funcs ≤ 9223372036854775807) : Ev (fun k => U10.f k i count funcs) (one (instB count funcs i)) := by
 have hn : named i = bif decide (i.1 = 26) then 0 else (opsB i).length := rfl
 have l0 := specInst0 (opsB_len hs) h0 h1 h2 h3 hn
 unfold U10.f
 refine Ev.bind (Ev.all fun k => specIn k _ _ _) ?_
 unfold instB
 generalize hz : ((opsB i).all (inB 0 (count - 1))) = za at l0 ⊢
 cases inB 1 27 i.1 with
 | false => exact Ev.pos rfl (Ev.cst rfl)
 | true =>
  refine Ev.neg rfl ?_
  have done : ∀ b : Bool, b = true → Ev (fun k => Option.bind (U6.f k i) fun r3 => U10.l0 k count funcs 0 i r3.2.1) (one (true && decide (i.2.2.2.2.2.2.1.length ≤ 4) && b && za && zerosB i && widB i && immB i funcs)) := by
   rintro _ rfl
   refine (Ev.bind (f := fun k r3 => U10.l0 k count funcs 0 i r3.2.1) (Ev.all fun k => specOps k hs) l0).rw ?_
   generalize decide (i.2.2.2.2.2.2.1.length ≤ 4) = z4
   generalize zerosB i = z5
   generalize widB i = z6
   generalize immB i funcs = z7
   clear l0 hz
   revert za z4 z5 z6 z7
   decide
  by_cases h6 : i.1 = 26
  ·exact Ev.neg (by rw [dpos h6]; rfl) (done _ (by rw [dpos h6, Bool.or_true]))
  ·refine Ev.pos (by rw [dneg h6]; rfl) ?_
   by_cases h5 : 0 < ((i.2.2.2.2.2.2.1.length : Nat) : Int)
   ·refine Ev.pos (dpos h5) (Ev.cst ?_)
    rw [dneg (show ¬ i.2.2.2.2.2.2.1.length = 0 by omega), dneg h6]
    simp
   ·exact Ev.neg (dneg h5) (done _ (by rw [dpos (show i.2.2.2.2.2.2.1.length = 0 by omega), Bool.true_or]))
theorem Ev.sk1 {R : Type} {g : Nat → Option R} {r : R} (h : Ev (fun k => g (k + 1)) r) : Ev g r := Ev.step h fun _ => rfl
theorem st_loop {σ R : Type} {n0 : Nat} {L : Nat → Int → σ → Option R} {T : Nat → σ → Option R} (S : Nat → σ)
  (hend : ∀ r, Ev (fun k => T k (S n0)) r → Ev (fun k => L k (n0 : Int) (S n0)) r)
  (hstep : ∀ i r, i < n0 → Ev (fun k => L k ((i + 1 : Nat) : Int) (S (i + 1))) r → Ev (fun k => L k (i : Int) (S i)) r) {r : R} (h : Ev (fun k => T k (S n0)) r) : Ev (fun k => L k 0 (S 0)) r :=
 Ev.down (G := fun i k => L k (i : Int) (S i)) (V := fun _ => r) n0 (hend r h) (fun i hi e => hstep i r hi e) 0 (Nat.zero_le _)
/-- A number's text. -/
def decB (n : Int) : ByteArray := ⟨(Lib.itoa n).toArray⟩
theorem ba_ext {a b : ByteArray} (h : a.data = b.data) : a = b := by cases a; cases b; cases h; rfl
theorem digit_str : ∀ r : Nat, r < 10 → strOf [IntKind.wrap .u8 (IntKind.wrap .i64 (48 + (r : Int)))] = ⟨#[UInt8.ofNat (48 + r)]⟩ := by
 intro r h
 have h1 : r = 0 ∨ r = 1 ∨ r = 2 ∨ r = 3 ∨ r = 4 ∨ r = 5 ∨ r = 6 ∨ r = 7 ∨ r = 8 ∨ r = 9 := by omega
 rcases h1 with rfl | rfl | rfl | rfl | rfl | rfl | rfl | rfl | rfl | rfl <;> rfl
theorem nd_le {u : Nat} (h : u < 18446744073709551616) : Lib.nDigits u ≤ 20 := by
 by_cases h0 : u = 0
 ·subst h0; rw [Lib.nDigits_small (by omega)]; omega
 ·have := Lib.numDigits_eq u (by omega) h
  split at this <;> omega
theorem big_eq : big = 9223372036854775807 := rfl
theorem specDec_s {u : Nat} (h10 : u < 10) {t : ByteArray} (ht : t.size + Lib.nDigits u ≤ 1000000) : Ev (fun k => U13.l0 k (u : Int) t) (one ((⟨(Lib.decDigits u).toArray⟩ : ByteArray) ++ t)) := by
 refine Ev.sk1 ?_
 show Ev (fun k => U13.l0_ k (U13.l0 k) (u : Int) t) _
 unfold U13.l0_
 have hd := digit_str u h10
 have hn := Lib.nDigits_small h10
 refine Ev.dn (by omega) ?_
 rw [hd]
 refine Ev.dp (by rw [big_eq]; have : (⟨#[UInt8.ofNat (48 + u)]⟩ : ByteArray).size = 1 := rfl; omega) (Ev.cst ?_)
 rw [Lib.decDigits_one h10]
theorem specDec_l : ∀ (n u : Nat), u ≤ n → u < 4611686018427387904 → ∀ t : ByteArray, t.size + Lib.nDigits u ≤ 1000000 → Ev (fun k => U13.l0 k (u : Int) t) (one ((⟨(Lib.decDigits u).toArray⟩ : ByteArray) ++ t)) := by
 intro n
 induction n with
 | zero =>
  intro u hu h1 t ht
  exact specDec_s (by omega) ht
 | succ n ih =>
  intro u hu h1 t ht
  by_cases h10 : u < 10
  ·exact specDec_s h10 ht
  ·refine Ev.sk1 ?_
   show Ev (fun k => U13.l0_ k (U13.l0 k) (u : Int) t) _
   unfold U13.l0_
   have hm : Int.tmod (u : Int) 10 = ((u % 10 : Nat) : Int) := by rw [Int.tmod_eq_emod_of_nonneg (by omega)]; omega
   have hq : Int.tdiv (u : Int) 10 = ((u / 10 : Nat) : Int) := by rw [Int.tdiv_eq_ediv_of_nonneg (by omega)]; omega
   have hd := digit_str (u % 10) (by omega)
   have hn := Lib.nDigits_big h10
   have hw : IntKind.wrap .i64 ((u / 10 : Nat) : Int) = ((u / 10 : Nat) : Int) := wrap_id (by omega) (by omega)
   have hs1 : (⟨#[UInt8.ofNat (48 + u % 10)]⟩ : ByteArray).size = 1 := rfl
   rw [hm, hq, hd, hw]
   refine Ev.dp (by omega) (Ev.pos (by decide) (Ev.dp (by rw [big_eq]; omega) (Ev.pos (by decide) ?_)))
   refine (ih (u / 10) (by omega) (by omega) _ (by rw [ByteArray.size_append, hs1]; omega)).rw ?_
   have e : Lib.decDigits u = Lib.decDigits (u / 10) ++ [UInt8.ofNat (48 + u % 10)] := by rw [Lib.decDigits, dif_neg h10]
   rw [e]
   have e2 : (⟨(Lib.decDigits (u / 10) ++ [UInt8.ofNat (48 + u % 10)]).toArray⟩ : ByteArray) = (⟨(Lib.decDigits (u / 10)).toArray⟩ : ByteArray) ++ ⟨#[UInt8.ofNat (48 + u % 10)]⟩ := ba_ext (by simp [ByteArray.data_append])
   rw [e2, ByteArray.append_assoc]
theorem decB_nat (u : Nat) : decB (u : Int) = ⟨(Lib.decDigits u).toArray⟩ := by
 unfold decB Lib.itoa
 rw [if_neg (by omega), Int.toNat_natCast]
theorem decB_size {n : Int} (h0 : 0 ≤ n) (h1 : n < 4611686018427387904) : (decB n).size ≤ 20 := by
 obtain ⟨u, rfl⟩ : ∃ u : Nat, n = u := ⟨n.toNat, by omega⟩
 rw [decB_nat]
 show (Lib.decDigits u).toArray.size ≤ 20
 rw [List.size_toArray, Lib.decDigits_length]
 exact nd_le (by omega)
theorem specDec {n : Int} (h0 : 0 ≤ n) (h1 : n < 4611686018427387904) : Ev (fun k => U13.f k n) (one (decB n)) := by
 obtain ⟨u, rfl⟩ : ∃ u : Nat, n = u := ⟨n.toNat, by omega⟩
 unfold U13.f
 refine Ev.dn (by omega) ?_
 have hn := nd_le (u := u) (by omega)
 refine (specDec_l u u (Nat.le_refl _) (by omega) ByteArray.empty (by show 0 + _ ≤ _; omega)).rw ?_
 rw [decB_nat, ByteArray.append_empty]
theorem implDec (k : Nat) {n : Int} (h0 : 0 ≤ n) (h1 : n < 4611686018427387904) : strconv_FormatInt.f k n 10 = some (one (decB n)) := by
 unfold strconv_FormatInt.f fmtF
 rw [dpos rfl, dpos (show -9223372036854775808 ≤ n by omega), dpos (show n ≤ 9223372036854775807 by omega)]
 rfl
def blank : ByteArray := ByteArray.mk #[32]
def numB (n : Int) : ByteArray := blank ++ decB n
def numsB : List Int → ByteArray
 | [] => ByteArray.empty
 | n :: l => numB n ++ numsB l
theorem numsB_app : ∀ a b : List Int, numsB (a ++ b) = numsB a ++ numsB b
 | [], b => by show numsB b = ByteArray.empty ++ numsB b; rw [ByteArray.empty_append]
 | n :: a, b => by show numB n ++ numsB (a ++ b) = (numB n ++ numsB a) ++ numsB b; rw [numsB_app a b, ByteArray.append_assoc]
theorem numsB_push {l : List Int} {i : Nat} (h : i < l.length) : numsB (l.take i) ++ numB l[i] = numsB (l.take (i + 1)) := by
 rw [List.take_succ_eq_append_getElem h, numsB_app]
 show _ = _ ++ (numB l[i] ++ ByteArray.empty)
 rw [ByteArray.append_empty]
def okN (n : Int) : Prop := 0 ≤ n ∧ n < 4611686018427387904
theorem numB_size {n : Int} (h : okN n) : (numB n).size ≤ 21 := by
 unfold numB
 rw [ByteArray.size_append]
 have := decB_size h.1 h.2
 have hb : blank.size = 1 := rfl
 omega
theorem numsB_size : ∀ {l : List Int}, (∀ n ∈ l, okN n) → (numsB l).size ≤ 21 * l.length
 | [], _ => Nat.le_refl _
 | n :: l, h => by
  show (numB n ++ numsB l).size ≤ _
  rw [ByteArray.size_append, List.length_cons]
  have a := numB_size (h n (by simp))
  have b := numsB_size (l := l) fun m hm => h m (by simp [hm])
  omega
theorem take_ok {l : List Int} (h : ∀ n ∈ l, okN n) (i : Nat) : ∀ n ∈ l.take i, okN n := fun n hn => h n (List.mem_of_mem_take hn)
theorem specNums {l : List Int} (hl : l.length ≤ 100) (h : ∀ n ∈ l, okN n) : Ev (fun k => U14.f k l) (one (numsB l)) := by
 unfold U14.f
 refine st_loop (n0 := l.length) (L := fun k a s => U14.l0 k l s a) (T := fun k s => some (one s)) (fun i => numsB (l.take i)) (fun r e => Ev.sk1 ?_) (fun i r hlt e => Ev.sk1 ?_) ?_
 ·show Ev (fun k => U14.l0_ k (U14.l0 k) _ _ _) _
  simp only [U14.l0_, head_end, cond_false]
  exact e
 ·show Ev (fun k => U14.l0_ k (U14.l0 k) _ _ _) _
  have hs := numsB_size (take_ok h i)
  have hlen : (l.take i).length ≤ 100 := by rw [List.length_take]; omega
  have hn := h _ (List.getElem_mem hlt)
  have hd := decB_size hn.1 hn.2
  have hb : (ByteArray.mk #[32]).size = 1 := rfl
  simp only [U14.l0_, head_in hlt, head_0, Bool.and_self, cond_true, Int.toNat_natCast, getD_at _ _ _ hlt, wrap_nat (show i < 9223372036854775807 by omega)]
  refine Ev.dp (by rw [big_eq, hb]; omega) (Ev.bind (specDec hn.1 hn.2) (Ev.dp (by rw [big_eq, ByteArray.size_append, hb]; show _ + (decB l[i]).size ≤ _; omega) ?_))
  simp only [← numsB_push hlt, numB, ← ByteArray.append_assoc] at e
  exact e
 ·simp only [List.take_length]; exact Ev.cst rfl
theorem implLine {w : ByteArray} (hw : w.size ≤ 100000) {l : List Int} (hl : l.length ≤ 100) (h : ∀ n ∈ l, okN n) : Ev (fun k => U34.f k w l) (one (w ++ numsB l)) := by
 unfold U34.f
 have h0 : w = w ++ numsB (l.take 0) := by show w = w ++ ByteArray.empty; rw [ByteArray.append_empty]
 have key := st_loop (n0 := l.length) (L := fun k a s => U34.l0 k s l (l.length : Int) a) (T := fun k s => some (one s)) (fun i => w ++ numsB (l.take i)) (fun r e => Ev.sk1 ?_) (fun i r hlt e => Ev.sk1 ?_) (r := one (w ++ numsB l)) ?_
 ·rw [← h0] at key; exact key
 ·show Ev (fun k => U34.l0_ k (U34.l0 k) _ _ _ _) _
  simp only [U34.l0_, head_end, cond_false]
  exact e
 ·show Ev (fun k => U34.l0_ k (U34.l0 k) _ _ _ _) _
  have hs := numsB_size (take_ok h i)
  have hlen : (l.take i).length ≤ 100 := by rw [List.length_take]; omega
  have hn := h _ (List.getElem_mem hlt)
  have hd := decB_size hn.1 hn.2
  have hb : (ByteArray.mk #[32]).size = 1 := rfl
  simp only [U34.l0_, head_in hlt, head_0, Bool.and_self, cond_true, Int.toNat_natCast, getD_at _ _ _ hlt, wrap_nat (show i < 9223372036854775807 by omega)]
  refine Ev.bind (Ev.all fun k => implDec k hn.1 hn.2) (Ev.dp (by rw [big_eq, hb]; show _ + (decB l[i]).size ≤ _; omega) (Ev.dp (by rw [big_eq, ByteArray.size_append, ByteArray.size_append, hb]; show _ + (_ + (decB l[i]).size) ≤ _; omega) ?_))
  simp only [← numsB_push hlt, numB, ← ByteArray.append_assoc] at e
  simp only [← ByteArray.append_assoc]
  exact e
 ·simp only [List.take_length]; exact Ev.cst rfl
set_option maxRecDepth 100000 in
def opS : ByteArray := (ByteArray.mk #[97, 100, 100, 32, 115, 117, 98, 32, 109, 117, 108, 32, 117, 100, 105, 118, 32, 115, 100, 105, 118, 32, 117, 114, 101, 109, 32, 115, 114, 101, 109, 32, 97, 110, 100, 32, 111, 114, 32, 120, 111, 114, 32, 115, 104, 108, 32, 108, 115, 104, 114, 32, 97, 115, 104, 114, 32, 101, 113, 32, 110, 101, 32, 117, 108, 116, 32, 115, 108, 116, 32, 122, 101, 120, 116, 32, 115, 101, 120, 116, 32, 116, 114, 117, 110, 99, 32, 99, 111, 110, 115, 116, 32, 115, 101, 108, 101, 99, 116, 32, 108, 111, 97, 100, 32, 115, 116, 111, 114, 101, 32, 112, 114, 105, 110, 116, 32, 99, 97, 108, 108, 32, 99, 111, 112, 121])
def wordsL : List ByteArray := Lib.splitB (ByteArray.mk #[32]) 0 (Lib.countB opS (ByteArray.mk #[32])) opS
theorem words_len : wordsL.length = 27 := by kernel_rfl
theorem words_small : (wordsL.all fun w => Nat.ble w.size 10) = true := by kernel_rfl
theorem specWords (k : Nat) : U12.f k = some (rowR (ByteArray.empty :: wordsL)) := by kernel_rfl
theorem implWords (k : Nat) : U33.f k = some (rowR wordsL) := by kernel_rfl
def wordB (op : Int) : ByteArray := wordsL.getD (op - 1).toNat ByteArray.empty
theorem wordB_size (op : Int) : (wordB op).size ≤ 10 := by
 unfold wordB
 by_cases h : (op - 1).toNat < wordsL.length
 ·rw [getD_at _ _ _ h]
  have := List.all_eq_true.1 words_small _ (List.getElem_mem h)
  exact Nat.le_of_ble_eq_true this
 ·rw [List.getD_eq_getElem?_getD, List.getElem?_eq_none (by omega)]
  exact Nat.zero_le _
theorem word_spec {W : List ByteArray} {op : Int} (h : 1 ≤ op) : (ByteArray.empty :: W).getD op.toNat ByteArray.empty = W.getD (op - 1).toNat ByteArray.empty := by
 obtain ⟨n, hn⟩ : ∃ n, op.toNat = n + 1 := ⟨op.toNat - 1, by omega⟩
 rw [hn, show (op - 1).toNat = n by omega]
 rfl
def hasI (i : tInstD) : Bool := decide (i.1 = 21) || decide (i.1 = 26)
def textW (w : ByteArray) (i : tInstD) : ByteArray := bif hasI i then ((w ++ numB i.2.1) ++ numB i.2.2.2.2.2.1) ++ numsB (opsB i) else (w ++ numB i.2.1) ++ numsB (opsB i)
def textI (i : tInstD) : ByteArray := textW (wordB i.1) i
structure Txt (i : tInstD) : Prop where
 op1 : 1 ≤ i.1
 op2 : i.1 ≤ 27
 w : okN i.2.1
 m : okN i.2.2.2.2.2.1
 al : i.2.2.2.2.2.2.1.length ≤ 4
 ol : (opsB i).length ≤ 4
 o : ∀ n ∈ opsB i, okN n
theorem txt_of {i : tInstD} (h : instB 60 3 i = true) : Txt i := by
 simp only [instB, Bool.and_eq_true, decide_eq_true_eq, List.all_eq_true] at h
 obtain ⟨⟨⟨⟨⟨⟨h1, h2⟩, h3⟩, h4⟩, h5⟩, h6⟩, h7⟩ := h
 have ho : 1 ≤ i.1 ∧ i.1 ≤ 27 := by simpa [inB] using h1
 have hw : okN i.2.1 := by
  unfold widB at h6
  by_cases c1 : i.1 = 24
  ·rw [dpos c1] at h6
   have : i.2.1 = 0 := by simpa using h6
   exact ⟨by omega, by omega⟩
  ·by_cases c2 : i.1 = 25
   ·rw [dpos c2, Bool.or_true] at h6
    have : i.2.1 = 0 := by simpa using h6
    exact ⟨by omega, by omega⟩
   ·rw [dneg c1, dneg c2] at h6
    by_cases c3 : i.1 = 23
    ·rw [dpos c3] at h6
     have : i.2.1 = 8 := by simpa using h6
     exact ⟨by omega, by omega⟩
    ·rw [dneg c3] at h6
     rcases wOk_cases (show wOk i.2.1 = true from h6) with e | e | e | e <;> exact ⟨by omega, by omega⟩
 have hm : okN i.2.2.2.2.2.1 := by
  unfold immB at h7
  by_cases c1 : i.1 = 21
  ·rw [dpos c1] at h7
   have h8 : (wOk i.2.1 && inB 0 (topOf i.2.1) i.2.2.2.2.2.1) = true := h7
   rw [Bool.and_eq_true] at h8
   have h9 : 0 ≤ i.2.2.2.2.2.1 ∧ i.2.2.2.2.2.1 ≤ topOf i.2.1 := by simpa [inB] using h8.2
   have ht : topOf i.2.1 ≤ 4294967295 := by
    rcases wOk_cases h8.1 with e | e | e | e <;> rw [e] <;> decide
   exact ⟨h9.1, by omega⟩
  ·rw [dneg c1] at h7
   by_cases c2 : i.1 = 26
   ·rw [dpos c2] at h7
    have h9 : 0 ≤ i.2.2.2.2.2.1 ∧ i.2.2.2.2.2.1 ≤ 3 - 1 := by simpa [inB] using h7
    exact ⟨h9.1, by omega⟩
   ·rw [dneg c2] at h7
    have : i.2.2.2.2.2.1 = 0 := by simpa using h7
    exact ⟨by omega, by omega⟩
 have hol : (opsB i).length ≤ 4 := by
  by_cases h26 : i.1 = 26
  ·have e : opsB i = i.2.2.2.2.2.2.1 := by unfold opsB inB; rw [h26]; rfl
   rw [e]; exact h2
  ·have := opsB_few h26; omega
 refine ⟨ho.1, ho.2, hw, hm, h2, hol, fun n hn => ?_⟩
 have := h4 n hn
 have h9 : 0 ≤ n ∧ n ≤ 60 - 1 := by simpa [inB] using this
 exact ⟨h9.1, by omega⟩
theorem specTextW {i : tInstD} (h : Txt i) {W : List ByteArray} {w : ByteArray} (hk : ∀ k, U12.f k = some (rowR (ByteArray.empty :: W))) (hW : W.length = 27) (hg : W.getD (i.1 - 1).toNat ByteArray.empty = w) (hws : w.size ≤ 10) : Ev (fun k => U15.f k i) (one (textW w i)) := by
 have hd := decB_size h.w.1 h.w.2
 have hdm := decB_size h.m.1 h.m.2
 have hn := numsB_size h.o
 have hol := h.ol
 have hb : (ByteArray.mk #[32]).size = 1 := rfl
 have hal : i.2.2.2.2.2.2.1.length ≤ 1048576 := by have := h.al; omega
 have hlen : ((List.length (ByteArray.empty :: W) : Nat) : Int) = 28 := by rw [List.length_cons, hW]; rfl
 unfold U15.f
 refine Ev.bind (Ev.all hk) ?_
 simp only [word_spec h.op1, hg]
 refine Ev.dd (by have := h.op1; omega) (by show i.1 < ((List.length (ByteArray.empty :: W) : Nat) : Int); rw [hlen]; have := h.op2; omega) (Ev.dp (by rw [big_eq, hb]; omega) (Ev.bind (specDec h.w.1 h.w.2) (Ev.dp (by rw [big_eq, ByteArray.size_append, hb]; show _ + (decB i.2.1).size ≤ _; omega) ?_)))
 have tail : ∀ (t : ByteArray), t.size ≤ 1000 → ∀ r, t ++ numsB (opsB i) = r → Ev (fun k => Option.bind (U6.f k i) fun r9 => Option.bind (U14.f k r9.2.1) fun r10 => bif decide (ByteArray.size t + ByteArray.size r10.1.1.1 ≤ big) then (some (((t ++ r10.1.1.1, ()), ()), ())) else none) (one r) := fun t ht r hr =>
  Ev.bind (Ev.all fun k => specOps k hal) (Ev.bind (specNums (by show (opsB i).length ≤ 100; omega) h.o) (Ev.dp (by rw [big_eq]; show _ + (numsB (opsB i)).size ≤ _; omega) (Ev.cst (by rw [← hr]))))
 by_cases c1 : i.1 = 21
 ·have e : textW w i = ((w ++ numB i.2.1) ++ numB i.2.2.2.2.2.1) ++ numsB (opsB i) := by unfold textW hasI; rw [dpos c1]; rfl
  rw [e]
  refine Ev.dp c1 (Ev.dp (by rw [big_eq, ByteArray.size_append, ByteArray.size_append, hb]; show _ + (decB i.2.1).size + _ ≤ _; omega) (Ev.bind (specDec h.m.1 h.m.2) (Ev.dp (by rw [big_eq, ByteArray.size_append, ByteArray.size_append, ByteArray.size_append, hb]; show _ + (decB i.2.1).size + _ + (decB i.2.2.2.2.2.1).size ≤ _; omega) (tail _ (by rw [ByteArray.size_append, ByteArray.size_append, ByteArray.size_append, ByteArray.size_append, hb]; show _ + (decB i.2.1).size + _ + (decB i.2.2.2.2.2.1).size ≤ _; omega) _ ?_))))
  simp only [numB, blank, one, ← ByteArray.append_assoc]
 ·by_cases c2 : i.1 = 26
  ·have e : textW w i = ((w ++ numB i.2.1) ++ numB i.2.2.2.2.2.1) ++ numsB (opsB i) := by unfold textW hasI; rw [dpos c2, Bool.or_true]; rfl
   rw [e]
   refine Ev.dn c1 (Ev.dp c2 (Ev.dp (by rw [big_eq, ByteArray.size_append, ByteArray.size_append, hb]; show _ + (decB i.2.1).size + _ ≤ _; omega) (Ev.bind (specDec h.m.1 h.m.2) (Ev.dp (by rw [big_eq, ByteArray.size_append, ByteArray.size_append, ByteArray.size_append, hb]; show _ + (decB i.2.1).size + _ + (decB i.2.2.2.2.2.1).size ≤ _; omega) (tail _ (by rw [ByteArray.size_append, ByteArray.size_append, ByteArray.size_append, ByteArray.size_append, hb]; show _ + (decB i.2.1).size + _ + (decB i.2.2.2.2.2.1).size ≤ _; omega) _ ?_)))))
   simp only [numB, blank, one, ← ByteArray.append_assoc]
  ·have e : textW w i = (w ++ numB i.2.1) ++ numsB (opsB i) := by unfold textW hasI; rw [dneg c1, dneg c2]; rfl
   rw [e]
   refine Ev.dn c1 (Ev.dn c2 (tail _ (by rw [ByteArray.size_append, ByteArray.size_append, hb]; show _ + (decB i.2.1).size ≤ _; omega) _ ?_))
   simp only [numB, blank, one, ← ByteArray.append_assoc]
theorem specText {i : tInstD} (h : Txt i) : Ev (fun k => U15.f k i) (one (textI i)) := specTextW h specWords words_len (by unfold wordB; rfl) (wordB_size _)
theorem nums1 (n : Int) : numsB [n] = numB n := by show numB n ++ ByteArray.empty = _; rw [ByteArray.append_empty]
theorem implTextW {i : tInstD} (h : Txt i) {W : List ByteArray} {w : ByteArray} (hk : ∀ k, U33.f k = some (rowR W)) (hW : W.length = 27) (hg : W.getD (i.1 - 1).toNat ByteArray.empty = w) (hws : w.size ≤ 10) : Ev (fun k => U36.f k i) (one (textW w i)) := by
 have hw := numB_size h.w
 have hm := numB_size h.m
 have hal : i.2.2.2.2.2.2.1.length ≤ 1048576 := by have := h.al; omega
 have hol := h.ol
 have hwr : IntKind.wrap .i64 (i.1 - 1) = i.1 - 1 := wrap_id (by have := h.op1; omega) (by have := h.op2; omega)
 unfold U36.f
 rw [hwr]
 refine Ev.bind (Ev.all hk) (Ev.dd (by have := h.op1; omega) (by show i.1 - 1 < ((List.length W : Nat) : Int); rw [hW]; have := h.op2; omega) ?_)
 have l1 := implLine (w := w) (by omega) (l := [i.2.1]) (by simp) (fun n hn => by rw [List.mem_singleton.1 hn]; exact h.w)
 rw [nums1] at l1
 show Ev (fun k => Option.bind (U34.f k (W.getD (i.1 - 1).toNat ByteArray.empty) [i.2.1]) _) _
 rw [hg]
 refine Ev.bind l1 ?_
 unfold U35.f
 cases hi : hasI i with
 | true =>
  have e : textW w i = ((w ++ numB i.2.1) ++ numB i.2.2.2.2.2.1) ++ numsB (opsB i) := by unfold textW; rw [hi]; rfl
  rw [e]
  have l2 := implLine (w := w ++ numB i.2.1) (by rw [ByteArray.size_append]; omega) (l := [i.2.2.2.2.2.1]) (by simp) (fun n hn => by rw [List.mem_singleton.1 hn]; exact h.m)
  rw [nums1] at l2
  refine Ev.bind (a := one true) (Ev.cst (by unfold hasI at hi; cases c1 : decide (i.1 = 21) <;> simp_all)) (Ev.pos rfl (Ev.bind l2 (Ev.bind (Ev.all fun k => implOps k hal) (Ev.bind (implLine (w := (w ++ numB i.2.1) ++ numB i.2.2.2.2.2.1) (by rw [ByteArray.size_append, ByteArray.size_append]; omega) (by show (opsB i).length ≤ 100; omega) h.o) (Ev.cst rfl)))))
 | false =>
  have e : textW w i = (w ++ numB i.2.1) ++ numsB (opsB i) := by unfold textW; rw [hi]; rfl
  rw [e]
  refine Ev.bind (a := one false) (Ev.cst (by unfold hasI at hi; cases c1 : decide (i.1 = 21) <;> simp_all)) (Ev.neg rfl (Ev.bind (Ev.all fun k => implOps k hal) (Ev.bind (implLine (w := w ++ numB i.2.1) (by rw [ByteArray.size_append]; omega) (by show (opsB i).length ≤ 100; omega) h.o) (Ev.cst rfl))))
theorem implText {i : tInstD} (h : Txt i) : Ev (fun k => U36.f k i) (one (textI i)) := implTextW h implWords words_len (by unfold wordB; rfl) (wordB_size _)
def txtF (i : tInstD) : ByteArray := bif instB 60 3 i then textI i else ByteArray.empty
theorem specTxt {i : tInstD} (hs : i.2.2.2.2.2.2.1.length ≤ 1048576) : Ev (fun k => U16.f k i) (one (txtF i)) := by
 unfold U16.f txtF
 refine Ev.bind (a := one (instB 60 3 i)) (Ev.bind (specInst hs (by omega) (by omega) (by omega) (by omega)) (Ev.cst rfl)) ?_
 cases h : instB 60 3 i with
 | false => exact Ev.pos rfl (Ev.cst rfl)
 | true => exact Ev.neg rfl (Ev.bind (specText (txt_of h)) (Ev.cst rfl))
theorem implTxt {i : tInstD} (hs : i.2.2.2.2.2.2.1.length ≤ 1048576) : Ev (fun k => U37.f k i) (one (txtF i)) := by
 unfold U37.f txtF
 refine Ev.bind (implInst hs (by omega) (by omega) (by omega) (by omega)) ?_
 cases h : instB 60 3 i with
 | false => exact Ev.pos rfl (Ev.cst rfl)
 | true => exact Ev.neg rfl (Ev.bind (implText (txt_of h)) (Ev.cst rfl))
end
end Go.Proofs.YtkfehogikjcgkaaDoor.V
