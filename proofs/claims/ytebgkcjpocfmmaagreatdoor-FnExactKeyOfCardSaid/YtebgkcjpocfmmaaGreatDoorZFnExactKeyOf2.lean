/- PROVED HERE: what the functions that the law FnExactKeyOf reaches do in memory, each as a plain Lean function, and what these tell: part 3 of 5 of the proof of that law; no condition beyond those written out at each theorem. -/
import Derived.Lib.SliceRun
import Derived.Shelf.LaysM
import Derived.Shelf.Strconv.Itoa4
import Derived.Shelf.Strings.Split
import Derived.Test.YtebgkcjpocfmmaaGreatDoorProg
import Derived.Test.YtebgkcjpocfmmaaGreatDoorZFnExactKeyOf0
import Derived.Test.YtebgkcjpocfmmaaGreatDoorZFnExactKeyOf1
namespace Go.Proofs.YtebgkcjpocfmmaaGreatDoor.V
open Go
set_option linter.unusedVariables false
set_option linter.unusedSimpArgs false
noncomputable section
section
variable {tab : Tab} {H H' : Heap}
theorem bind_sn {u u' : U} {j : Nat} {x : Option (Nat × Nat)} (h : u.bind j x = some u') : u'.sn = u.sn := by
 unfold U.bind at h
 split at h
 ·obtain ⟨h1, h2⟩ := bif_some h; simp only [Option.some.injEq] at h2; subst h2; rfl
 ·cases h
 ·obtain ⟨h1, h2⟩ := bif_some h; simp only [Option.some.injEq] at h2; subst h2; rfl
 ·simp only [Option.some.injEq] at h; subst h; rfl
theorem caps_sn : ∀ {l l' : List (Nat × Nat)} {u u' : U}, uniCaps u l l' = some u' → u'.sn = u.sn
 | [], [], u, u', h => by simp only [uniCaps, Option.some.injEq] at h; subst h; rfl
 | (j, off) :: l, (o, off') :: l', u, u', h => by
  simp only [uniCaps] at h
  obtain ⟨h1, h2⟩ := bif_some h
  obtain ⟨u1, h3, h4⟩ := Option.bind_eq_some_iff.1 h2
  exact (caps_sn h4).trans (bind_sn h3)
 | [], _ :: _, u, u', h => by simp [uniCaps] at h
 | _ :: _, [], u, u', h => by simp [uniCaps] at h
theorem uniC_sn {u u' : U} {c : CS} {v : C} {x : c.Den} (h : uniC H u c v = some (x, u')) (hr : Rows H u.sn) : Rows H u'.sn := by
 cases c with
 | lst t =>
  simp only [uniC, Option.map_eq_some_iff, Prod.mk.injEq] at h
  obtain ⟨y, hy, _, rfl⟩ := h
  exact (lcO_rows hy).app hr
 | own j =>
  cases v with
  | nil =>
   simp only [uniC, Option.map_eq_some_iff] at h
   obtain ⟨u1, h1, h⟩ := h
   cases h
   rw [bind_sn h1]; exact hr
  | own o e off =>
   simp only [uniC] at h
   split at h
   ·obtain ⟨_, h⟩ := bif_some h
    simp only [Option.map_eq_some_iff] at h
    obtain ⟨u1, h1, h⟩ := h
    cases h
    rw [bind_sn h1]; exact hr
   ·obtain ⟨_, h⟩ := bif_some h
    simp only [Option.map_eq_some_iff] at h
    obtain ⟨u1, h1, h⟩ := h
    cases h
    rw [bind_sn h1]; exact hr
   ·cases h
  | _ => simp [uniC] at h
 | ptr j off =>
  cases v <;> simp only [uniC, reduceCtorEq] at h
  obtain ⟨_, h⟩ := bif_some h
  simp only [Option.map_eq_some_iff] at h
  obtain ⟨u1, h1, h⟩ := h
  cases h
  rw [bind_sn h1]; exact hr
 | fn f caps =>
  cases v <;> simp only [uniC, reduceCtorEq] at h
  obtain ⟨_, h⟩ := bif_some h
  simp only [Option.map_eq_some_iff] at h
  obtain ⟨u1, h1, h⟩ := h
  cases h
  rw [caps_sn h1]; exact hr
 | prs l =>
  cases v <;> simp only [uniC, reduceCtorEq] at h
  simp only [Option.map_eq_some_iff] at h
  obtain ⟨u1, h1, h⟩ := h
  cases h
  rw [caps_sn h1]; exact hr
 | nilc => cases v <;> simp only [uniC, reduceCtorEq, Option.some.injEq, Prod.mk.injEq] at h; obtain ⟨_, rfl⟩ := h; exact hr
 | ownq j =>
  cases v with
  | nil => simp only [uniC, Option.some.injEq, Prod.mk.injEq] at h; obtain ⟨_, rfl⟩ := h; exact hr
  | own o e off =>
   simp only [uniC] at h
   split at h
   ·obtain ⟨_, h⟩ := bif_some h
    simp only [Option.map_eq_some_iff] at h
    obtain ⟨u1, h1, h⟩ := h
    cases h
    rw [bind_sn h1]; exact hr
   ·cases h
  | _ => simp [uniC] at h
 | int k => cases v <;> simp only [uniC, reduceCtorEq] at h; obtain ⟨_, h⟩ := bif_some h; simp only [Option.some.injEq, Prod.mk.injEq] at h; obtain ⟨_, rfl⟩ := h; exact hr
 | bool => cases v <;> simp only [uniC, reduceCtorEq, Option.some.injEq, Prod.mk.injEq] at h; obtain ⟨_, rfl⟩ := h; exact hr
 | str => cases v <;> simp only [uniC, reduceCtorEq, Option.some.injEq, Prod.mk.injEq] at h; obtain ⟨_, rfl⟩ := h; exact hr
 | nilp => cases v <;> simp only [uniC, reduceCtorEq, Option.some.injEq, Prod.mk.injEq] at h; obtain ⟨_, rfl⟩ := h; exact hr
theorem uniL_sn : ∀ {cs : List CS} {vs : List C} {u u' : U} {x : DenL cs}, uniL H cs vs u = some (x, u') → Rows H u.sn → Rows H u'.sn
 | [], [], u, u', x, h, hr => by simp only [uniL, Option.some.injEq, Prod.mk.injEq] at h; obtain ⟨_, rfl⟩ := h; exact hr
 | c :: cs, v :: vs, u, u', x, h, hr => by
  simp only [uniL] at h
  obtain ⟨⟨x1, u1⟩, h1, h2⟩ := Option.bind_eq_some_iff.1 h
  simp only [Option.map_eq_some_iff, Prod.mk.injEq] at h2
  obtain ⟨⟨x2, u2⟩, h3, _, rfl⟩ := h2
  exact uniL_sn h3 (uniC_sn h1 hr)
 | [], _ :: _, u, u', x, h, _ => by simp [uniL] at h
 | _ :: _, [], u, u', x, h, _ => by simp [uniL] at h
theorem uniV_sn : ∀ {vs : List VS} {l : List V} {u u' : U} {x : DenV vs}, uniV H vs l u = some (x, u') → Rows H u.sn → Rows H u'.sn
 | [], [], u, u', x, h, hr => by simp only [uniV, Option.some.injEq, Prod.mk.injEq] at h; obtain ⟨_, rfl⟩ := h; exact hr
 | v :: vs, .val a cs :: l, u, u', x, h, hr => by
  simp only [uniV] at h
  obtain ⟨h0, h⟩ := bif_some h
  obtain ⟨⟨x1, u1⟩, h1, h2⟩ := Option.bind_eq_some_iff.1 h
  simp only [Option.map_eq_some_iff, Prod.mk.injEq] at h2
  obtain ⟨⟨x2, u2⟩, h3, _, rfl⟩ := h2
  exact uniV_sn h3 (uniL_sn h1 hr)
 | [], _ :: _, u, u', x, h, _ => by simp [uniV] at h
 | _ :: _, [], u, u', x, h, _ => by simp [uniV] at h
 | _ :: _, .tup _ :: _, u, u', x, h, _ => by simp [uniV] at h
 | _ :: _, .x :: _, u, u', x, h, _ => by simp [uniV] at h
theorem uniO_sn {u u' : U} {o : OS} {m : Option (Nat × Nat)} {x : o.Den} (h : uniO H u o m = some (x, u')) (hr : Rows H u.sn) : Rows H u'.sn := by
 cases o with
 | row d t =>
  cases m with
  | none => simp only [uniO, Option.some.injEq, Prod.mk.injEq] at h; obtain ⟨_, rfl⟩ := h; exact hr
  | some p =>
   obtain ⟨k, off⟩ := p
   simp only [uniO] at h
   split at h
   ·obtain ⟨_, h⟩ := bif_some h
    simp only [Option.map_eq_some_iff, Prod.mk.injEq] at h
    obtain ⟨_, _, _, rfl⟩ := h
    exact hr
   ·cases h
 | box cs =>
  match m, h with
  | none, h => simp [uniO] at h
  | some (k, n + 1), h => simp [uniO] at h
  | some (k, 0), h =>
   cases hk : H.at k with
   | none => simp [uniO, hk] at h
   | some ob =>
    cases ob with
    | box vs => simp only [uniO, hk] at h; exact uniL_sn (x := x) h hr
    | _ => simp [uniO, hk] at h
 | cbox cs =>
  match m, h with
  | none, h => simp [uniO] at h
  | some (k, n + 1), h => simp [uniO] at h
  | some (k, 0), h =>
   cases hk : H.at k with
   | none => simp [uniO, hk] at h
   | some ob =>
    cases ob with
    | box vs => simp only [uniO, hk] at h; exact uniL_sn (x := x) h hr
    | cbox vs => simp only [uniO, hk] at h; exact uniL_sn (x := x) h hr
    | _ => simp [uniO, hk] at h
 | bld ty el =>
  match m, h with
  | none, h => simp [uniO] at h
  | some (k, n + 1), h => simp [uniO] at h
  | some (k, 0), h =>
   cases hk : H.at k with
   | none => simp [uniO, hk] at h
   | some ob =>
    cases ob with
    | bld ty' el' s =>
     simp only [uniO, hk] at h
     obtain ⟨_, h2⟩ := bif_some h
     simp only [Option.some.injEq, Prod.mk.injEq] at h2
     obtain ⟨_, rfl⟩ := h2
     exact hr
    | _ => simp [uniO, hk] at h
 | orow t cs =>
  match m, h with
  | none, h => simp [uniO] at h
  | some (k, n + 1), h => simp [uniO] at h
  | some (k, 0), h =>
   cases hk : H.at k with
   | none => simp [uniO, hk] at h
   | some ob =>
    cases ob with
    | orow t' e xs i vs =>
     simp only [uniO, hk] at h
     obtain ⟨ys, h1, h2⟩ := Option.bind_eq_some_iff.1 h
     simp only [Option.map_eq_some_iff, Prod.mk.injEq] at h2
     obtain ⟨⟨z, u2⟩, h3, rfl, rfl⟩ := h2
     exact uniL_sn h3 hr
    | _ => simp [uniO, hk] at h
theorem uniOs_sn : ∀ {os : List (Nat × OS)} {u u' : U} {x : DenO os}, uniOs H os u = some (x, u') → Rows H u.sn → Rows H u'.sn
 | [], u, u', x, h, hr => by simp only [uniOs, Option.some.injEq, Prod.mk.injEq] at h; obtain ⟨_, rfl⟩ := h; exact hr
 | (i, o) :: os, u, u', x, h, hr => by
  simp only [uniOs] at h
  split at h
  ·obtain ⟨⟨x1, u1⟩, h1, h2⟩ := Option.bind_eq_some_iff.1 h
   simp only [Option.map_eq_some_iff, Prod.mk.injEq] at h2
   obtain ⟨⟨x2, u2⟩, h3, _, rfl⟩ := h2
   exact uniOs_sn h3 (uniO_sn h1 hr)
  ·cases h
theorem uni_sn {vs : List VS} {os : List (Nat × OS)} {l : List V} {u0 u : U} {x : DenV vs × DenO os} (h : uni H vs os l u0 = some (x, u)) (hr : Rows H u0.sn) : Rows H u.sn := by
 unfold uni at h
 obtain ⟨⟨x1, u1⟩, h1, h2⟩ := Option.bind_eq_some_iff.1 h
 obtain ⟨⟨x2, u2⟩, h3, h4⟩ := Option.bind_eq_some_iff.1 h2
 obtain ⟨h5, h6⟩ := bif_some h4
 simp only [Option.some.injEq, Prod.mk.injEq] at h6
 obtain ⟨_, rfl⟩ := h6
 exact uniOs_sn h3 (uniV_sn h1 hr)
end
section
variable {tab : Tab} {H H' : Heap} {k0 : Nat} {u : U} {keep : List Nat}
theorem epoch_mono (hS : Sub H H') (hm : ∀ j k off, get u.mu j = some (some (k, off)) → ∃ ob, H.at k = some ob) (j : Nat) : backEpoch H' k0 u keep j = backEpoch H k0 u keep j := by
 unfold backEpoch
 cases Nat.ble 100 j with
 | true => rfl
 | false =>
  simp only [cond_false]
  split
  ·rename_i o off hj
   obtain ⟨ob, hk⟩ := hm j o off hj
   simp only [epochAt, hk, hS _ _ hk]
  ·rfl
theorem backC_mono (he : ∀ j, backEpoch H' k0 u keep j = backEpoch H k0 u keep j) : backC H' k0 u keep = backC H k0 u keep := by
 funext c
 cases c <;> simp only [backC, he]
theorem backHeap_mono (he : ∀ j, backEpoch H' k0 u keep j = backEpoch H k0 u keep j) : ∀ (T : Heap), backHeap H' k0 u keep T = backHeap H k0 u keep T
 | [] => rfl
 | (j, none) :: l => by simp only [backHeap]; exact backHeap_mono he l
 | (j, some o) :: l => by
  simp only [backHeap, backHeap_mono he l]
  congr 3
  cases o <;> simp only [backObj, he, backC_mono he]
theorem stop_mono (hS : Sub H H') {k : Nat} {ob : Obj} (h : H.at k = some ob) : stop H' k = stop H k := by
 unfold stop
 rw [h, hS _ _ h]
 cases ob <;> first | rfl | exact freeze_mono hS h
theorem newOk_mono {s : FS} (hfr : ∀ i, i < 16 → fresh H (k0 + i) = true → fresh H' (k0 + i) = true) (h : newOk H k0 u s = true) : newOk H' k0 u s = true := by
 unfold newOk at h ⊢
 simp only [Bool.and_eq_true, List.all_eq_true] at h ⊢
 obtain ⟨⟨h1, h2⟩, h3⟩ := h
 refine ⟨⟨fun o ho => ?_, h2⟩, h3⟩
 obtain ⟨⟨⟨q1, q2⟩, q3⟩, q4⟩ := h1 o ho
 refine ⟨⟨⟨q1, q2⟩, ?_⟩, q4⟩
 cases hn : isNew u o.1 with
 | false => rfl
 | true =>
  simp only [hn, Bool.not_true, Bool.false_or] at q3 ⊢
  have hkey : ∃ i, i < 16 ∧ backKey k0 u o.1 = k0 + i := by
   simp only [labelOk, Bool.or_eq_true, Bool.and_eq_true] at q1
   unfold isNew at hn
   unfold backKey
   cases hb : Nat.ble 100 o.1 with
   | true =>
    rcases q1 with q1 | ⟨_, q1⟩
    ·have := blt_true q1; have := Nat.le_of_ble_eq_true hb; omega
    ·have := blt_true q1
     exact ⟨o.1 - 100, by omega, rfl⟩
   | false =>
    rcases q1 with q1 | ⟨q1, _⟩
    ·have := blt_true q1
     refine ⟨8 + o.1, by omega, ?_⟩
     simp only [hb, Bool.false_or] at hn
     simp only [cond_false]
     split
     ·rename_i o' off hm
      rw [hm] at hn
      cases hn
     ·omega
    ·rw [hb] at q1; cases q1
  obtain ⟨i, hi, he⟩ := hkey
  rw [he] at q3 ⊢
  exact hfr i hi q3
theorem callF_mono {R : Type} {E : Ents} {f : FuncId} {args : List V} {K : V → Heap → Option R} {r : R} (hS : Sub H H') (hfr : ∀ i, i < 16 → fresh H (k0 + i) = true → fresh H' (k0 + i) = true) (h : callF E H k0 f args K = some r) : callF E H' k0 f args K = some r := by
 unfold callF at h ⊢
 split at h
 ·cases h
 ·rename_i s hs
  split at h
  ·cases h
  ·rename_i x u hu
   obtain ⟨m1, m2⟩ := uni_mono hS hu
   obtain ⟨h1, h2⟩ := bif_some h
   simp only [Bool.and_eq_true] at h1
   have he := fun j => epoch_mono (k0 := k0) (keep := s.keep) hS m2 j
   have hsn := uni_sn hu (fun k hk => by simp at hk)
   simp only [m1, h1.1, newOk_mono hfr h1.2, Bool.and_self, cond_true]
   obtain ⟨y, h3, h4⟩ := Option.bind_eq_some_iff.1 h2
   rw [splitQ_eq] at h4
   rw [h3, Option.bind_some, splitQ_eq, backC_mono he, backHeap_mono he]
   have hst : (bif s.shares then (u.sn ++ cboxes s.io u).map fun k => (k, stop H' k) else []) = (bif s.shares then (u.sn ++ cboxes s.io u).map fun k => (k, stop H k) else []) := by
    cases s.shares with
    | false => rfl
    | true =>
     simp only [cond_true]
     refine List.map_congr_left fun k hk => ?_
     simp only [List.mem_append] at hk
     rcases hk with hk | hk
     ·obtain ⟨ob, hk⟩ := hsn.at hk
      rw [stop_mono hS hk]
     ·unfold cboxes at hk
      rw [List.mem_filterMap] at hk
      obtain ⟨⟨j, o⟩, q1, q2⟩ := hk
      obtain ⟨_, q2⟩ := bif_some q2
      split at q2
      ·rename_i k' off hm
       simp only [Option.some.injEq] at q2
       subst q2
       obtain ⟨ob, hk⟩ := m2 _ _ _ hm
       rw [stop_mono hS hk]
      ·cases q2
   rw [hst]
   exact h4
end
section
variable {tab : Tab} {E : Ents} {H H' : Heap} {o : Oper} {ρ ρ' : Operand → Option V}
theorem opv_look {k : Nat} (hk : lookKey ρ o = some k) (hS : ∀ ob, H.at k = some ob → H'.at k = some ob) {y : Bool × V × Heap} (h : opv tab H o ρ = some y) : opv tab H' o ρ = some y := by
 unfold lookKey at hk
 split at hk
 ·rename_i t x hop
  split at hk
  ·rename_i k' off hx
   simp only [Option.some.injEq] at hk
   subst hk
   simp only [opv, hop, hx, Option.bind_some] at h ⊢
   cases hH : H.at k' with
   | none => simp [behind, hH] at h
   | some ob =>
    have hb : behind H' (.ptr k' off) = behind H (.ptr k' off) := by simp only [behind, hH, hS _ hH]
    rw [hb]
    exact h
  ·cases hk
 ·rename_i s x f hop
  split at hk
  ·rename_i k' off hx
   simp only [Option.some.injEq] at hk
   subst hk
   simp only [opv, hop, hx] at h ⊢
   cases hH : H.at k' with
   | none =>
    have : isBoxAt H k' = false := by simp [isBoxAt, hH]
    split at h <;> simp_all
   | some ob =>
    have hb : isBoxAt H' k' = isBoxAt H k' := by simp only [isBoxAt, hH, hS _ hH]
    cases hf : ((get tab s).bind fun i => i.flds[f]?) with
    | none => simp [hf] at h
    | some p =>
     simp only [hf] at h ⊢
     rw [hb]
     exact h
  ·cases hk
 ·cases hk
theorem stepK_mono {R : Type} {K : V → Heap → Option R} {r : R} (hρ : ∀ x ∈ o.op.operands.toList, ρ' x = ρ x) (hH : touches o.op = true → Sub H H' ∨ ∃ k, lookKey ρ o = some k ∧ ∀ ob, H.at k = some ob → H'.at k = some ob) (hfr : ∀ i, i < 16 → fresh H (key0 o + i) = true → fresh H' (key0 o + i) = true) (h : stepK tab E H o ρ K = some r) : stepK tab E H' o ρ' K = some r := by
 unfold stepK at h
 split at h
 ·rename_i f args ts hop
  have hS : Sub H H' := (hH (by rw [hop]; rfl)).resolve_right (by rintro ⟨k, h1, _⟩; simp only [lookKey, hop] at h1; cases h1)
  rw [hop] at hρ
  have hops : (Op.call { callee := .value f, args := args, argTypes := ts }).operands.toList = f :: args.toList := by
   show (#[f] ++ args).toList = _
   simp
  rw [hops] at hρ
  have hf : ρ' f = ρ f := hρ f (by simp)
  have ha : evs ρ' args.toList = evs ρ args.toList := evs_congr fun x hx => hρ x (List.mem_cons_of_mem _ hx)
  split at h
  ·rename_i g caps vs h1 h2
   have e1 : stepK tab E H' o ρ' K = callF E H' (key0 o) g (vs ++ addCaps caps) K := by
    unfold stepK
    rw [hop]
    simp only []
    rw [hf, ha, h1, h2]
   rw [e1]
   exact callF_mono hS hfr h
  ·cases h
 ·rename_i hno
  have hpe : padOf o ρ' = padOf o ρ := by
   cases hop : o.op with
   | load t a =>
    rw [hop] at hρ
    simp only [padOf, hop, hρ a (by simp [Op.operands])]
   | _ => simp only [padOf, hop]
  split at h
  ·rename_i t l i hpad
   unfold stepK
   split
   ·rename_i f args ts hc
    exact (hno f args ts hc).elim
   ·rw [hpe, hpad]; exact h
  rename_i hpad
  split at h
  ·rename_i b v e hop
   have : opv tab H' o ρ = some (b, v, e) := by
    by_cases ht : touches o.op = true
    ·rcases hH ht with hS | ⟨k, hk, hS⟩
     ·exact opv_heap (tab := tab) (ρ := ρ) (hfr 0 (by omega)) (fun _ => hS) hop
     ·exact opv_look hk hS hop
    ·exact opv_heap (tab := tab) (ρ := ρ) (hfr 0 (by omega)) (fun h => (ht h).elim) hop
   rw [← opv_env (H := H') hρ] at this
   unfold stepK
   split
   ·rename_i f args ts hc
    exact (hno f args ts hc).elim
   ·rw [hpe, hpad]
    simp only [this]
    exact h
  ·cases h
end
section
variable {B : Base} {g : Gh} {env env' : Env} {H H' : Heap} {a : Act} {w : World}
/-- Two states in which the same is found. -/
def Same (H H' : Heap) : Prop := (∀ k, H'.at k = H.at k) ∧ ∀ k, known H' k ↔ known H k
theorem ge_same (h : Same H H') : Ge g H w g H' w :=
 ⟨fun o hk => (h.2 o).2 hk, fun o ob' hk ha hb => ⟨⟨ob', (h.1 o).symm.trans ha, hb⟩, rfl⟩, fun o ob' t e n hk ha hs => ⟨ob', (h.1 o).symm.trans ha, .inl ⟨hs, rfl⟩⟩, fun b hb => ⟨hb, rfl⟩, fun b cur e fr hb => ⟨cur, fr, hb, rfl⟩⟩
theorem Rel.congr (R : Rel B g env H a w) (hH : Same H H') (he : ∀ s v, get env' s = some v → get env s = some v) : Rel B g env' H' a w := by
 have G := ge_same (g := g) (w := w) hH
 exact { obj := fun o ob h => G.ro rfl (fun b hb => ⟨hb, rfl⟩) (R.obj o ob ((hH.1 o).symm.trans h)), ow := R.ow, F := R.F, lx := R.lx, env := fun s v h => G.rv (R.env s v (he s v h)), sz := R.sz, df := R.df, fr := R.fr, owB := R.owB, FB := R.FB, BF := R.BF, bs := R.bs,
         kp := fun j hj hlt ob t n h hs => R.kp j hj hlt ob t n ((hH.1 j).symm.trans h) hs, kd := fun j ob hlt h => R.kd j ob hlt ((hH.1 j).symm.trans h) }
end
/-- Record number i, the oldest first. -/
def recAt (recs : List Rec) (i : Nat) : Option Rec := recs.reverse[i]?
theorem recAt_cons (r : Rec) (l : List Rec) (i : Nat) : recAt (r :: l) i = if i = l.length then some r else recAt l i := by
 unfold recAt
 rw [List.reverse_cons]
 by_cases h : i = l.length
 ·subst h
  rw [if_pos rfl, List.getElem?_append_right (by simp)]
  simp
 ·rw [if_neg h]
  rcases Nat.lt_or_ge i l.length with h1 | h1
  ·rw [List.getElem?_append_left (by simpa using h1)]
  ·rw [List.getElem?_eq_none (by simp; omega), List.getElem?_eq_none (by simpa using h1)]
theorem recAt_lt {recs : List Rec} {i : Nat} {r : Rec} (h : recAt recs i = some r) : i < recs.length := by
 unfold recAt at h
 have := (List.getElem?_eq_some_iff.1 h).1
 simpa using this
/-- No two records set one slot. -/
def DstOK (recs : List Rec) : Prop := ∀ i j r s d, recAt recs i = some r → recAt recs j = some s → r.dst = some d → s.dst = some d → i = j
theorem DstOK.tail {r : Rec} {l : List Rec} (h : DstOK (r :: l)) : DstOK l := by
 intro i j a b d ha hb
 refine h i j a b d ?_ ?_
 ·rw [recAt_cons, if_neg (by have := recAt_lt ha; omega)]; exact ha
 ·rw [recAt_cons, if_neg (by have := recAt_lt hb; omega)]; exact hb
theorem envOf_some {env : Env} : ∀ {recs : List Rec} {D s i : Nat} {r : Rec}, DstOK recs → recAt recs i = some r → D.testBit i = true → r.dst = some s → get (envOf recs D env) s = some r.v
 | [], D, s, i, r, _, h, _, _ => by simp [recAt] at h
 | q :: l, D, s, i, r, hD, h, hb, hs => by
  have h0 := h
  rw [recAt_cons] at h
  split at h
  ·rename_i e
   simp only [Option.some.injEq] at h
   subst h; subst e
   unfold envOf
   simp only [hs, hb, cond_true, get_cons, if_true]
  ·rename_i e
   have ih := envOf_some (env := env) (D := D) hD.tail h hb hs
   unfold envOf
   split
   ·rename_i d hd
    cases hb' : D.testBit l.length with
    | true =>
     simp only [cond_true, get_cons]
     rw [if_neg fun e' => e (hD i l.length r q s h0 (by rw [recAt_cons, if_pos rfl]) hs (by rw [hd, e']))]
     exact ih
    | false => exact ih
   ·exact ih
theorem at_app_out {e T : Heap} {k : Nat} (h : ∀ x ∈ e, x.1 ≠ k) : Heap.at (e ++ T) k = T.at k ∧ (known (e ++ T) k ↔ known T k) := by
 induction e with
 | nil => exact ⟨rfl, Iff.rfl⟩
 | cons x e ih =>
  obtain ⟨i, ob⟩ := x
  have hne : i ≠ k := h (i, ob) (by simp)
  obtain ⟨h1, h2⟩ := ih fun y hy => h y (by simp [hy])
  simp only [List.cons_append, at_cons, known_cons]
  rw [if_neg hne]
  exact ⟨h1, by simp [hne, h2]⟩
theorem at_app_in {e T T' : Heap} {k : Nat} (h : ∃ x ∈ e, x.1 = k) : Heap.at (e ++ T) k = Heap.at (e ++ T') k ∧ known (e ++ T) k := by
 induction e with
 | nil => obtain ⟨x, hx, _⟩ := h; simp at hx
 | cons x e ih =>
  obtain ⟨i, ob⟩ := x
  simp only [List.cons_append, at_cons, known_cons]
  by_cases hi : i = k
  ·simp [hi]
  ·rw [if_neg hi, if_neg hi]
   obtain ⟨y, hy, he⟩ := h
   rcases List.mem_cons.1 hy with rfl | hy
   ·exact (hi he).elim
   ·obtain ⟨h1, h2⟩ := ih ⟨y, hy, he⟩
    exact ⟨h1, .inr h2⟩
/-- Two sets of records that differ in none that tells of an object find the same of it. -/
theorem heapOf_congr {H : Heap} {k : Nat} : ∀ {recs : List Rec} {D D' : Nat}, (∀ i r, recAt recs i = some r → (∃ x ∈ r.e, x.1 = k) → D.testBit i = D'.testBit i) → Heap.at (heapOf recs D H) k = Heap.at (heapOf recs D' H) k ∧ (known (heapOf recs D H) k ↔ known (heapOf recs D' H) k)
 | [], D, D', _ => ⟨rfl, Iff.rfl⟩
 | r :: l, D, D', h => by
  obtain ⟨h1, h2⟩ := heapOf_congr (H := H) (k := k) (recs := l) (D := D) (D' := D') fun i q hq hx => h i q (by rw [recAt_cons, if_neg (by have := recAt_lt hq; omega)]; exact hq) hx
  simp only [heapOf]
  by_cases hx : ∃ x ∈ r.e, x.1 = k
  ·have hb := h l.length r (by rw [recAt_cons, if_pos rfl]) hx
   rw [hb]
   cases D'.testBit l.length with
   | true =>
    obtain ⟨m1, m2⟩ := at_app_in (T := heapOf l D H) (T' := heapOf l D' H) hx
    obtain ⟨_, m3⟩ := at_app_in (T := heapOf l D' H) (T' := heapOf l D' H) hx
    exact ⟨m1, by simp [m2, m3]⟩
   | false => exact ⟨h1, h2⟩
  ·have hno : ∀ x ∈ r.e, x.1 ≠ k := fun x hx' he => hx ⟨x, hx', he⟩
   obtain ⟨m1, m2⟩ := at_app_out (T := heapOf l D H) hno
   obtain ⟨m3, m4⟩ := at_app_out (T := heapOf l D' H) hno
   cases D.testBit l.length <;> cases D'.testBit l.length <;> simp only [cond_true, cond_false]
   ·exact ⟨h1, h2⟩
   ·exact ⟨h1.trans m3.symm, h2.trans m4.symm⟩
   ·exact ⟨m1.trans h1, m2.trans h2⟩
   ·exact ⟨m1.trans (h1.trans m3.symm), m2.trans (h2.trans m4.symm)⟩
def addB (D i : Nat) : Nat := D ||| 2 ^ i
theorem addB_self (D i : Nat) : (addB D i).testBit i = true := by simp [addB]
theorem addB_other {D i j : Nat} (h : j ≠ i) : (addB D i).testBit j = D.testBit j := by
 simp only [addB, Nat.testBit_or, Nat.testBit_two_pow]
 simp [Ne.symm h]
theorem heapOf_add {H : Heap} {k : Nat} : ∀ {recs : List Rec} {D i : Nat} {r : Rec}, recAt recs i = some r → (∀ j q, recAt recs j = some q → i < j → D.testBit j = true → ∀ x ∈ q.e, ∀ y ∈ r.e, x.1 ≠ y.1) →
  Heap.at (heapOf recs (addB D i) H) k = Heap.at (r.e ++ heapOf recs D H) k ∧ (known (heapOf recs (addB D i) H) k ↔ known (r.e ++ heapOf recs D H) k)
 | [], D, i, r, h, _ => by simp [recAt] at h
 | q :: l, D, i, r, h, hne => by
  have h0 := h
  rw [recAt_cons] at h
  split at h
  ·rename_i e
   simp only [Option.some.injEq] at h
   subst h; subst e
   have hc := heapOf_congr (H := H) (k := k) (recs := l) (D := addB D l.length) (D' := D) fun j p hp _ => addB_other (by have := recAt_lt hp; omega)
   simp only [heapOf, addB_self, cond_true]
   have happ : ∀ {T T' : Heap}, (T.at k = T'.at k ∧ (known T k ↔ known T' k)) → Heap.at (q.e ++ T) k = Heap.at (q.e ++ T') k ∧ (known (q.e ++ T) k ↔ known (q.e ++ T') k) := by
    intro T T' hT
    by_cases hx : ∃ x ∈ q.e, x.1 = k
    ·obtain ⟨m1, m2⟩ := at_app_in (T := T) (T' := T') hx
     obtain ⟨_, m3⟩ := at_app_in (T := T') (T' := T') hx
     exact ⟨m1, by simp [m2, m3]⟩
    ·have hno : ∀ x ∈ q.e, x.1 ≠ k := fun x hx' he => hx ⟨x, hx', he⟩
     obtain ⟨m1, m2⟩ := at_app_out (T := T) hno
     obtain ⟨m3, m4⟩ := at_app_out (T := T') hno
     exact ⟨m1.trans (hT.1.trans m3.symm), m2.trans (hT.2.trans m4.symm)⟩
   cases hb : D.testBit l.length with
   | false => simp only [cond_false]; exact happ hc
   | true =>
    simp only [cond_true]
    -- told twice
    by_cases hx : ∃ x ∈ q.e, x.1 = k
    ·obtain ⟨m1, m2⟩ := at_app_in (T := heapOf l (addB D l.length) H) (T' := q.e ++ heapOf l D H) hx
     obtain ⟨_, m3⟩ := at_app_in (T := q.e ++ heapOf l D H) (T' := []) hx
     exact ⟨m1, by simp [m2, m3]⟩
    ·have hno : ∀ x ∈ q.e, x.1 ≠ k := fun x hx' he => hx ⟨x, hx', he⟩
     obtain ⟨m1, m2⟩ := at_app_out (T := heapOf l (addB D l.length) H) hno
     obtain ⟨m3, m4⟩ := at_app_out (T := q.e ++ heapOf l D H) hno
     obtain ⟨m5, m6⟩ := at_app_out (T := heapOf l D H) hno
     exact ⟨m1.trans (hc.1.trans (m5.symm.trans m3.symm)), m2.trans (hc.2.trans (m6.symm.trans m4.symm))⟩
  ·rename_i e
   have hi := recAt_lt h
   have ih := heapOf_add (H := H) (k := k) (D := D) h fun j p hp hij hb => hne j p (by rw [recAt_cons, if_neg (by have := recAt_lt hp; omega)]; exact hp) hij hb
   have hbit : (addB D i).testBit l.length = D.testBit l.length := addB_other (Ne.symm e)
   simp only [heapOf, hbit]
   cases hb : D.testBit l.length with
   | false => simp only [cond_false]; exact ih
   | true =>
    simp only [cond_true]
    have hdis := hne l.length q (by rw [recAt_cons, if_pos rfl]) hi hb
    by_cases hx : ∃ x ∈ q.e, x.1 = k
    ·have hno : ∀ y ∈ r.e, y.1 ≠ k := fun y hy he => by
      obtain ⟨x, hx, he'⟩ := hx
      exact hdis x hx y hy (he'.trans he.symm)
     obtain ⟨m1, m2⟩ := at_app_in (T := heapOf l (addB D i) H) (T' := heapOf l D H) hx
     obtain ⟨_, m3⟩ := at_app_in (T := heapOf l D H) (T' := []) hx
     obtain ⟨m4, m5⟩ := at_app_out (T := q.e ++ heapOf l D H) hno
     exact ⟨m1.trans m4.symm, by rw [m5]; simp [m2, m3]⟩
    ·have hno : ∀ x ∈ q.e, x.1 ≠ k := fun x hx' he => hx ⟨x, hx', he⟩
     obtain ⟨m1, m2⟩ := at_app_out (T := heapOf l (addB D i) H) hno
     obtain ⟨m3, m4⟩ := at_app_out (T := heapOf l D H) hno
     by_cases hy : ∃ y ∈ r.e, y.1 = k
     ·obtain ⟨n1, n2⟩ := at_app_in (T := heapOf l D H) (T' := q.e ++ heapOf l D H) hy
      obtain ⟨_, n3⟩ := at_app_in (T := q.e ++ heapOf l D H) (T' := []) hy
      exact ⟨m1.trans (ih.1.trans n1), m2.trans (ih.2.trans (by simp [n2, n3]))⟩
     ·have hno' : ∀ y ∈ r.e, y.1 ≠ k := fun y hy' he => hy ⟨y, hy', he⟩
      obtain ⟨n1, n2⟩ := at_app_out (T := heapOf l D H) hno'
      obtain ⟨n3, n4⟩ := at_app_out (T := q.e ++ heapOf l D H) hno'
      exact ⟨m1.trans (ih.1.trans (n1.trans (m3.symm.trans n3.symm))), m2.trans (ih.2.trans (n2.trans (m4.symm.trans n4.symm)))⟩
theorem rev_cons {α : Type} (r : α) (l : List α) (i : Nat) : (r :: l).reverse[i]? = if i = l.length then some r else l.reverse[i]? := by
 rw [List.reverse_cons]
 by_cases h : i = l.length
 ·subst h
  rw [if_pos rfl, List.getElem?_append_right (by simp)]
  simp
 ·rw [if_neg h]
  rcases Nat.lt_or_ge i l.length with h1 | h1
  ·rw [List.getElem?_append_left (by simpa using h1)]
  ·rw [List.getElem?_eq_none (by simp; omega), List.getElem?_eq_none (by simpa using h1)]
theorem rev_lt {α : Type} {l : List α} {i : Nat} {r : α} (h : l.reverse[i]? = some r) : i < l.length := by
 have := (List.getElem?_eq_some_iff.1 h).1
 simpa using this
theorem recAt_app (suf recs : List Rec) {i : Nat} (h : i < recs.length) : recAt (suf ++ recs) i = recAt recs i := by
 unfold recAt
 rw [List.reverse_append, List.getElem?_append_left (by simpa using h)]
theorem envOf_app {env : Env} {D : Nat} : ∀ (suf recs : List Rec), (∀ i, recs.length ≤ i → D.testBit i = false) → envOf (suf ++ recs) D env = envOf recs D env
 | [], recs, h => rfl
 | r :: l, recs, h => by
  have ih := envOf_app (env := env) l recs h
  have hb : D.testBit (l ++ recs).length = false := h _ (by simp)
  simp only [List.cons_append, envOf, hb, cond_false, ih]
  split <;> rfl
theorem heapOf_app {H : Heap} {D : Nat} : ∀ (suf recs : List Rec), (∀ i, recs.length ≤ i → D.testBit i = false) → heapOf (suf ++ recs) D H = heapOf recs D H
 | [], recs, h => rfl
 | r :: l, recs, h => by
  have ih := heapOf_app (H := H) l recs h
  have hb : D.testBit (l ++ recs).length = false := h _ (by simp)
  simp only [List.cons_append, heapOf, hb, cond_false, ih]
theorem envOf_zero {env : Env} : ∀ (recs : List Rec), envOf recs 0 env = env
 | [] => rfl
 | r :: l => by
  simp only [envOf, Nat.zero_testBit, cond_false, envOf_zero l]
  split <;> rfl
theorem heapOf_zero {H : Heap} : ∀ (recs : List Rec), heapOf recs 0 H = H
 | [] => rfl
 | r :: l => by simp only [heapOf, Nat.zero_testBit, cond_false, heapOf_zero l]
theorem envOf_bits {env : Env} {D D' : Nat} : ∀ (recs : List Rec), (∀ i, i < recs.length → D.testBit i = D'.testBit i) → envOf recs D env = envOf recs D' env
 | [], _ => rfl
 | r :: l, h => by
  have ih := envOf_bits (env := env) l fun i hi => h i (by simp; omega)
  simp only [envOf, h l.length (by simp), ih]
theorem heapOf_bits {H : Heap} {D D' : Nat} : ∀ (recs : List Rec), (∀ i, i < recs.length → D.testBit i = D'.testBit i) → heapOf recs D H = heapOf recs D' H
 | [], _ => rfl
 | r :: l, h => by
  have ih := heapOf_bits (H := H) l fun i hi => h i (by simp; omega)
  simp only [heapOf, h l.length (by simp), ih]
theorem envOf_congr {env : Env} {s : Nat} : ∀ {recs : List Rec} {D D' : Nat}, (∀ i r, recAt recs i = some r → r.dst = some s → D.testBit i = D'.testBit i) → get (envOf recs D env) s = get (envOf recs D' env) s
 | [], D, D', _ => rfl
 | r :: l, D, D', h => by
  have ih := envOf_congr (env := env) (s := s) (recs := l) (D := D) (D' := D') fun i q hq hx => h i q (by rw [recAt_cons, if_neg (by have := recAt_lt hq; omega)]; exact hq) hx
  simp only [envOf]
  split
  ·rename_i d hd
   by_cases e : d = s
   ·have hb := h l.length r (by rw [recAt_cons, if_pos rfl]) (by rw [hd, e])
    rw [hb]
    cases D'.testBit l.length with
    | true => simp only [cond_true, get_cons, if_pos e]
    | false => exact ih
   ·cases D.testBit l.length <;> cases D'.testBit l.length <;> simp only [cond_true, cond_false, get_cons, if_neg e] <;> exact ih
  ·exact ih
structure Free (all : List Oper) (a : Oper) (ra : Rec) (b : Oper) (rb : Rec) : Prop where
 fwd : ∀ d, ra.dst = some d → d ∉ reads all b
 bwd : ∀ d, rb.dst = some d → d ∉ reads all a
 ma : mutates a ra = true → (touches b.op = false ∨ away rb ra.e = true) ∧ mutates b rb = false
 mb : mutates b rb = true → touches a.op = false ∨ away ra rb.e = true
 ka : ∀ x ∈ rb.e, keyed a x.1 = false
 kb : ∀ x ∈ ra.e, keyed b x.1 = false
theorem apart_spec {all : List Oper} {i : Nat} {a b : Oper} {ra rb : Rec} (h : apart all i a ra b rb = true) : (∀ x ∈ ra.e, ownKey b x.1 = false) ∧ (rb.deps.testBit i = true ∨ Free all a ra b rb) := by
 simp only [apart, Bool.and_eq_true, Bool.or_eq_true, List.all_eq_true, Bool.not_eq_true'] at h
 obtain ⟨h0, h1⟩ := h
 refine ⟨h0, h1.imp id fun h => ?_⟩
 obtain ⟨⟨⟨⟨⟨h1, h2⟩, h3⟩, h4⟩, h5⟩, h6⟩ := h
 refine ⟨fun d hd hm => ?_, fun d hd hm => ?_, fun hm => ?_, fun hm => ?_, h5, h6⟩
 ·rw [hd] at h1
  simp only [Bool.and_eq_true, Bool.not_eq_true'] at h1
  have := h1.1
  rw [← Bool.not_eq_true] at this
  exact this (by simpa using hm)
 ·rw [hd] at h2
  simp only [Bool.not_eq_true'] at h2
  rw [← Bool.not_eq_true] at h2
  exact h2 (by simpa using hm)
 ·rcases h3 with h3 | h3
  ·rw [hm] at h3; cases h3
  ·exact h3
 ·rcases h4 with h4 | h4
  ·rw [hm] at h4; cases h4
  ·exact h4
theorem apartAll_spec {all : List Oper} : ∀ {bs : List Oper} {rbs : List Rec}, bs.length = rbs.length → apartAll all bs rbs = true → ∀ i j a b ra rb, i < j → bs.reverse[i]? = some a → bs.reverse[j]? = some b → recAt rbs i = some ra → recAt rbs j = some rb → apart all i a ra b rb = true
 | [], _, _, _, i, j, a, b, ra, rb, hij, ha, hb, hra, hrb => by simp at ha
 | b0 :: bs, [], hl, _, i, j, a, b, ra, rb, hij, ha, hb, hra, hrb => by simp at hl
 | b0 :: bs, r0 :: rbs, hl, h, i, j, a, b, ra, rb, hij, ha, hb, hra, hrb => by
  have hl' : bs.length = rbs.length := by simpa using hl
  simp only [apartAll, Bool.and_eq_true, List.all_eq_true] at h
  rw [rev_cons] at ha hb
  rw [recAt_cons] at hra hrb
  by_cases hj : j = bs.length
  ·rw [if_pos hj] at hb
   rw [if_pos (hj.trans hl')] at hrb
   rw [if_neg (by omega)] at ha hra
   simp only [Option.some.injEq] at hb hrb
   subst hb; subst hrb
   have hp : (((bs.zip rbs).zipIdx)[bs.length - 1 - i]?) = some ((a, ra), bs.length - 1 - i) := by
    have h1 : bs[bs.length - 1 - i]? = some a := by
     rw [List.getElem?_reverse (by omega)] at ha
     exact ha
    have h2 : rbs[bs.length - 1 - i]? = some ra := by
     unfold recAt at hra
     rw [List.getElem?_reverse (by omega), ← hl'] at hra
     exact hra
    rw [List.getElem?_zipIdx]
    simp [List.getElem?_zip_eq_some, h1, h2]
   have := h.1 _ (List.mem_of_getElem? hp)
   have e : bs.length - 1 - (bs.length - 1 - i) = i := by omega
   simpa only [e] using this
  ·have hlt : j < bs.length := by
    rw [if_neg hj] at hb
    exact rev_lt hb
   rw [if_neg hj] at hb
   rw [if_neg (by omega)] at ha hra hrb
   exact apartAll_spec hl' h.2 i j a b ra rb hij ha hb hra hrb
theorem madeOk_spec {H : Heap} : ∀ {bs : List Oper} {rbs : List Rec}, bs.length = rbs.length → madeOk H bs rbs = true → ∀ i o r, bs.reverse[i]? = some o → recAt rbs i = some r → ∀ x ∈ r.e, ownKey o x.1 = true → fresh H x.1 = true
 | [], _, _, _, i, o, r, ho, hr => by simp at ho
 | b0 :: bs, [], hl, _, i, o, r, ho, hr => by simp at hl
 | b0 :: bs, r0 :: rbs, hl, h, i, o, r, ho, hr => by
  have hl' : bs.length = rbs.length := by simpa using hl
  simp only [madeOk, Bool.and_eq_true, List.all_eq_true, Bool.or_eq_true, Bool.not_eq_true'] at h
  rw [rev_cons] at ho
  rw [recAt_cons] at hr
  by_cases hi : i = bs.length
  ·rw [if_pos hi] at ho
   rw [if_pos (hi.trans hl')] at hr
   simp only [Option.some.injEq] at ho hr
   subst ho; subst hr
   intro x hx hk
   rcases h.1 x hx with h1 | h1
   ·rw [h1] at hk; cases hk
   ·exact h1
  ·rw [if_neg hi] at ho
   rw [if_neg (by omega)] at hr
   exact madeOk_spec hl' h.2 i o r ho hr
theorem edgesOk_spec : ∀ {bs : List Oper} {rbs : List Rec}, bs.length = rbs.length → edgesOk bs rbs = true → ∀ i r, recAt rbs i = some r → r.deps < 2 ^ i
 | [], [], _, _, i, r, hr => by simp [recAt] at hr
 | b0 :: bs, [], hl, _, i, r, hr => by simp at hl
 | [], r0 :: rbs, hl, _, i, r, hr => by simp at hl
 | b0 :: bs, r0 :: rbs, hl, h, i, r, hr => by
  have hl' : bs.length = rbs.length := by simpa using hl
  simp only [edgesOk, Bool.and_eq_true] at h
  rw [recAt_cons] at hr
  by_cases hi : i = rbs.length
  ·rw [if_pos hi] at hr
   simp only [Option.some.injEq] at hr
   subst hr
   rw [hi]
   exact blt_true h.1
  ·rw [if_neg hi] at hr
   exact edgesOk_spec hl' h.2 i r hr
theorem distinct_mem {k : Nat} : ∀ {l : List Nat}, distinct (k :: l) = true → k ∉ l := by
 intro l h hk
 simp only [distinct, Bool.and_eq_true, Bool.not_eq_true'] at h
 have := h.1
 rw [← Bool.not_eq_true] at this
 exact this (by simpa using hk)
theorem recAt_mem {recs : List Rec} {i : Nat} {r : Rec} (h : recAt recs i = some r) : r ∈ recs := by
 have := List.mem_of_getElem? h
 simpa using this
theorem dstsOk_spec : ∀ {recs : List Rec}, dstsOk recs = true → DstOK recs
 | [], _ => fun i j r s d hr => by simp [recAt] at hr
 | q :: l, h => by
  have hmem : ∀ i r d, recAt l i = some r → r.dst = some d → d ∈ l.filterMap (·.dst) := fun i r d hr hd => List.mem_filterMap.2 ⟨r, recAt_mem hr, hd⟩
  have h' : dstsOk l = true ∧ ∀ d, q.dst = some d → d ∉ l.filterMap (·.dst) := by
   unfold dstsOk at h
   cases hq : q.dst with
   | none => rw [List.filterMap_cons_none (by exact hq)] at h; exact ⟨h, fun d hd => by cases hd⟩
   | some d0 =>
    rw [List.filterMap_cons_some (by exact hq)] at h
    refine ⟨?_, fun d hd => ?_⟩
    ·simp only [distinct, Bool.and_eq_true] at h
     exact h.2
    ·simp only [Option.some.injEq] at hd
     subst hd
     exact distinct_mem h
  have ih := dstsOk_spec h'.1
  intro i j r s d hr hs hrd hsd
  rw [recAt_cons] at hr hs
  split at hr <;> split at hs
  ·omega
  ·simp only [Option.some.injEq] at hr
   subst hr
   exact (h'.2 d hrd (hmem j s d hs hsd)).elim
  ·simp only [Option.some.injEq] at hs
   subst hs
   exact (h'.2 d hsd (hmem i r d hr hrd)).elim
  ·exact ih i j r s d hr hs hrd hsd
theorem setRec_len (j : Nat) (b : Bool) : ∀ (recs : List Rec), (setRec recs j b).length = recs.length
 | [] => rfl
 | r :: l => by
  unfold setRec
  cases Nat.beq l.length j with
  | true => rfl
  | false => simp only [cond_false, List.length_cons, setRec_len j b l]
theorem recAt_setRec (j : Nat) (b : Bool) : ∀ (recs : List Rec) (i : Nat), recAt (setRec recs j b) i = (recAt recs i).map fun q => if i = j then { q with v := .val false [.bool b] } else q
 | [], i => rfl
 | r :: l, i => by
  unfold setRec
  cases hb : Nat.beq l.length j with
  | true =>
   have e := nb_eq hb
   simp only [cond_true, recAt_cons]
   by_cases hi : i = l.length
   ·simp [hi, e]
   ·rw [if_neg hi, if_neg hi]
    cases recAt l i with
    | none => rfl
    | some q => simp [show i ≠ j by omega]
  | false =>
   have e : l.length ≠ j := fun e => by rw [e] at hb; simp at hb
   simp only [cond_false, recAt_cons, setRec_len]
   by_cases hi : i = l.length
   ·simp [hi, e]
   ·rw [if_neg hi, if_neg hi]
    exact recAt_setRec j b l i
theorem setRec_id {j : Nat} {b : Bool} : ∀ {recs : List Rec}, (∀ q, recAt recs j = some q → q.v = .val false [.bool b]) → setRec recs j b = recs
 | [], _ => rfl
 | r :: l, h => by
  unfold setRec
  cases hb : Nat.beq l.length j with
  | true =>
   have e := nb_eq hb
   have := h r (by rw [recAt_cons, if_pos e.symm])
   simp only [cond_true]
   rw [← this]
  | false =>
   have e : l.length ≠ j := fun e => by rw [e] at hb; simp at hb
   simp only [cond_false]
   rw [setRec_id fun q hq => h q (by rw [recAt_cons, if_neg (by omega)]; exact hq)]
structure DepsAre (F : List Rec) (o : Oper) (D : Nat) : Prop where
 on : ∀ e ∈ o.after.toList, Region.binds .any e = true → D.testBit e.on = true
 sub : ∀ e ∈ o.after.toList, Region.binds .any e = true → ∀ q, recAt F e.on = some q → ∀ k, q.deps.testBit k = true → D.testBit k = true
 why : ∀ k, D.testBit k = true → ∃ e ∈ o.after.toList, Region.binds .any e = true ∧ (k = e.on ∨ ∃ q, recAt F e.on = some q ∧ q.deps.testBit k = true)
def stepDeps (recs : List Rec) (l : Nat) (e : Edge) : Nat := bif Region.binds .any e then l ||| (2 ^ e.on ||| ((recs[recs.length - 1 - e.on]?).map Rec.deps).getD 0) else l
theorem stepDeps_bit (recs : List Rec) (l : Nat) (e : Edge) (k : Nat) : (stepDeps recs l e).testBit k = true ↔ l.testBit k = true ∨ (Region.binds .any e = true ∧ (k = e.on ∨ (((recs[recs.length - 1 - e.on]?).map Rec.deps).getD 0).testBit k = true)) := by
 unfold stepDeps
 cases Region.binds .any e with
 | true =>
  simp only [cond_true, Nat.testBit_or, Nat.testBit_two_pow, Bool.or_eq_true, decide_eq_true_eq, true_and]
  constructor
  ·rintro (h | h | h)
   ·exact .inl h
   ·exact .inr (.inl h.symm)
   ·exact .inr (.inr h)
  ·rintro (h | h | h)
   ·exact .inl h
   ·exact .inr (.inl h.symm)
   ·exact .inr (.inr h)
 | false => simp
theorem foldDeps_bit (recs : List Rec) (k : Nat) : ∀ (es : List Edge) (l : Nat), (es.foldl (stepDeps recs) l).testBit k = true ↔ l.testBit k = true ∨ ∃ e ∈ es, Region.binds .any e = true ∧ (k = e.on ∨ (((recs[recs.length - 1 - e.on]?).map Rec.deps).getD 0).testBit k = true)
 | [], l => by simp
 | e :: es, l => by
  rw [List.foldl_cons, foldDeps_bit recs k es, stepDeps_bit]
  constructor
  ·rintro ((h | h) | ⟨x, hx, h⟩)
   ·exact .inl h
   ·exact .inr ⟨e, by simp, h⟩
   ·exact .inr ⟨x, by simp [hx], h⟩
  ·rintro (h | ⟨x, hx, h⟩)
   ·exact .inl (.inl h)
   ·rcases List.mem_cons.1 hx with rfl | hx
    ·exact .inl (.inr h)
    ·exact .inr ⟨x, hx, h⟩
theorem testBit_lt {D i k : Nat} (h : D < 2 ^ i) (hb : D.testBit k = true) : k < i := by
 rcases Nat.lt_or_ge k i with h1 | h1
 ·exact h1
 ·have : D < 2 ^ k := Nat.lt_of_lt_of_le h (Nat.pow_le_pow_right (by omega) h1)
  rw [Nat.testBit_lt_two_pow this] at hb
  cases hb
theorem depsOf_are {recs : List Rec} {o : Oper} {F : List Rec} (hF : ∀ i, i < recs.length → recAt F i = recAt recs i) (hlt : depsOf recs o < 2 ^ recs.length) : DepsAre F o (depsOf recs o) := by
 have hb : ∀ k, (depsOf recs o).testBit k = true ↔ ∃ e ∈ o.after.toList, Region.binds .any e = true ∧ (k = e.on ∨ (((recs[recs.length - 1 - e.on]?).map Rec.deps).getD 0).testBit k = true) := by
  intro k
  have := foldDeps_bit recs k o.after.toList 0
  have hd : depsOf recs o = o.after.toList.foldl (stepDeps recs) 0 := rfl
  rw [hd, this]
  simp
 have hon : ∀ e ∈ o.after.toList, Region.binds .any e = true → (depsOf recs o).testBit e.on = true := fun e he h => (hb _).2 ⟨e, he, h, .inl rfl⟩
 have hr : ∀ e ∈ o.after.toList, Region.binds .any e = true → recs[recs.length - 1 - e.on]? = recAt F e.on := by
  intro e he h
  have hl := testBit_lt hlt (hon e he h)
  rw [hF _ hl]
  unfold recAt
  rw [List.getElem?_reverse hl]
 refine ⟨hon, fun e he h q hq k hk => (hb k).2 ⟨e, he, h, .inr ?_⟩, fun k hk => ?_⟩
 ·rw [hr e he h, hq]
  exact hk
 ·obtain ⟨e, he, h, h1⟩ := (hb k).1 hk
  refine ⟨e, he, h, h1.imp id fun h1 => ?_⟩
  rw [hr e he h] at h1
  cases hq : recAt F e.on with
  | none => rw [hq] at h1; simp at h1
  | some q => rw [hq] at h1; exact ⟨q, rfl, h1⟩
section
variable {tab : Tab} {E : Ents} {all : List Oper} {env : Env} {H : Heap}
def Stepped (tab : Tab) (E : Ents) (env : Env) (H : Heap) (F : List Rec) (o : Oper) (r : Rec) : Prop :=
 ∀ (R' : Type) (K' : V → Heap → Option R'), (stepK tab E (heapOf F r.deps H) o (ev (envOf F r.deps env)) K' = K' r.v r.e) ∧ ∀ k, r.k = some k → lookKey (ev (envOf F r.deps env)) o = some k
def Fact (tab : Tab) (E : Ents) (all : List Oper) (env : Env) (H : Heap) (F : List Rec) (o : Oper) (r : Rec) : Prop :=
 r.dst = o.dst ∧ DepsAre F o r.deps ∧
 match o.guard with
 | none => Stepped tab E env H F o r
 | some (j, want) => ∃ d, dstAt all j = some d ∧
  ((get (envOf F r.deps env) d = some (.tup []) ∧ r.v = .tup [] ∧ r.e = []) ∨
   ∃ p, get (envOf F r.deps env) d = some (.val false [.bool p]) ∧ ((p = want ∧ Stepped tab E env H F o r) ∨ (p ≠ want ∧ r.v = .tup [] ∧ r.e = [])))
structure DF (tab : Tab) (E : Ents) (all : List Oper) (env : Env) (H : Heap) (F : List Rec) : Prop where
 len : F.length = all.length
 apart : ∀ i j a b ra rb, i < j → all[i]? = some a → all[j]? = some b → recAt F i = some ra → recAt F j = some rb → apart all i a ra b rb = true
 dst : DstOK F
 made : ∀ i o r, all[i]? = some o → recAt F i = some r → ∀ x ∈ r.e, ownKey o x.1 = true → fresh H x.1 = true
 edge : ∀ i r, recAt F i = some r → r.deps < 2 ^ i
theorem runD_facts {R : Type} {K : Env → Heap → Option R} {r : R} : ∀ (os : List Oper) (recs : List Rec), (∃ pre, all = pre ++ os ∧ pre.length = recs.length) → (∀ i q, recAt recs i = some q → q.dst = dstAt all i) → runD tab E all env H os recs K = some r →
  ∃ suf, DF tab E all env H (suf ++ recs) ∧ K (envOf (suf ++ recs) (2 ^ (suf ++ recs).length - 1) env) (heapOf (suf ++ recs) (2 ^ (suf ++ recs).length - 1) H) = some r ∧
   (∀ i q, recAt (suf ++ recs) i = some q → q.dst = dstAt all i) ∧ ∀ i o q, recs.length ≤ i → all[i]? = some o → recAt (suf ++ recs) i = some q → Fact tab E all env H (suf ++ recs) o q
 | [], recs, ⟨pre, hp, hl⟩, hds, h => by
  have hlen : all.length = recs.length := by rw [hp]; simpa using hl
  simp only [runD] at h
  obtain ⟨h1, h2⟩ := bif_some h
  simp only [Bool.and_eq_true] at h1
  have hl' : all.reverse.length = recs.length := by simpa using hlen
  refine ⟨[], ?_⟩
  rw [List.nil_append]
  refine ⟨⟨hlen.symm, ?_, dstsOk_spec h1.1.1.2, ?_, edgesOk_spec hl' h1.2⟩, h2, hds, fun i o q hi ho hq => ?_⟩
  ·have := apartAll_spec hl' h1.1.1.1
   simpa only [List.reverse_reverse] using this
  ·have := madeOk_spec hl' h1.1.2
   simpa only [List.reverse_reverse] using this
  ·have := recAt_lt hq
   omega
 | o :: os, recs, ⟨pre, hp, hl⟩, hds, h => by
  have ho : all[recs.length]? = some o := by
   rw [hp, List.getElem?_append_right (by omega), hl]
   simp
  have hdo : dstAt all recs.length = o.dst := by simp only [dstAt, ho, Option.bind_some]
  have key : ∀ (v : V) (e : Heap) (kk : Option Nat), runD tab E all env H os (⟨o.dst, depsOf recs o, v, e, kk⟩ :: recs) K = some r →
    (∀ F, (∃ suf, F = suf ++ (⟨o.dst, depsOf recs o, v, e, kk⟩ :: recs)) → envOf F (depsOf recs o) env = envOf recs (depsOf recs o) env → heapOf F (depsOf recs o) H = heapOf recs (depsOf recs o) H → DepsAre F o (depsOf recs o) → Fact tab E all env H F o ⟨o.dst, depsOf recs o, v, e, kk⟩) →
    ∃ suf, DF tab E all env H (suf ++ recs) ∧ K (envOf (suf ++ recs) (2 ^ (suf ++ recs).length - 1) env) (heapOf (suf ++ recs) (2 ^ (suf ++ recs).length - 1) H) = some r ∧
   (∀ i q, recAt (suf ++ recs) i = some q → q.dst = dstAt all i) ∧ ∀ i o q, recs.length ≤ i → all[i]? = some o → recAt (suf ++ recs) i = some q → Fact tab E all env H (suf ++ recs) o q := by
   intro v e kk h hf
   obtain ⟨suf, hD, hK, hds', hfs⟩ := runD_facts os (⟨o.dst, depsOf recs o, v, e, kk⟩ :: recs) ⟨pre ++ [o], by rw [hp]; simp, by simp [hl]⟩ (fun i q hq => by
    rw [recAt_cons] at hq
    split at hq
    ·rename_i hi
     simp only [Option.some.injEq] at hq
     subst hq
     rw [hi, hdo]
    ·exact hds i q hq) h
   refine ⟨suf ++ [⟨o.dst, depsOf recs o, v, e, kk⟩], ?_⟩
   rw [List.append_assoc, List.singleton_append]
   refine ⟨hD, hK, hds', fun i o' q hi ho' hq => ?_⟩
   by_cases hi' : i = recs.length
   ·subst hi'
    rw [ho] at ho'
    simp only [Option.some.injEq] at ho'
    subst ho'
    have hq' : recAt (suf ++ (⟨o.dst, depsOf recs o, v, e, kk⟩ :: recs)) recs.length = some ⟨o.dst, depsOf recs o, v, e, kk⟩ := by
     rw [recAt_app _ _ (by simp), recAt_cons, if_pos rfl]
    rw [hq'] at hq
    simp only [Option.some.injEq] at hq
    subst hq
    have hlt := hD.edge _ _ hq'
    have hbits : ∀ i, recs.length ≤ i → (depsOf recs o).testBit i = false := fun i hi => by
     rw [← Bool.not_eq_true]
     exact fun hb => by have := testBit_lt hlt hb; omega
    have hs : suf ++ (⟨o.dst, depsOf recs o, v, e, kk⟩ :: recs) = (suf ++ [⟨o.dst, depsOf recs o, v, e, kk⟩]) ++ recs := by simp
    refine hf _ ⟨suf, rfl⟩ (by rw [hs]; exact envOf_app _ _ hbits) (by rw [hs]; exact heapOf_app _ _ hbits) (depsOf_are (fun i hi => ?_) hlt)
    rw [hs]
    exact recAt_app _ _ hi
   ·exact hfs i o' q (by simp only [List.length_cons]; omega) ho' hq
  unfold runD at h
  simp only [] at h
  split at h
  ·rename_i hg
   obtain ⟨v, e, h1, h2⟩ := stepK_det h
   refine key v e _ h1 fun F _ he hh hd => ⟨rfl, hd, ?_⟩
   rw [hg]
   intro R' K'
   refine ⟨?_, fun k hk => by rw [he]; exact hk⟩
   rw [he, hh]
   exact h2 R' K'
  ·rename_i j want hg
   split at h
   ·cases h
   ·rename_i d hj
    have hread : d ∈ reads all o := by
     unfold reads
     simp [hg, hj]
    split at h
    ·rename_i hv
     refine key _ _ _ h fun F _ he hh hd => ⟨rfl, hd, ?_⟩
     rw [hg]
     exact ⟨d, hj, .inl ⟨by rw [he]; exact hv, rfl, rfl⟩⟩
    ·rename_i p hv
     have ident : ∀ (v : V) (e : Heap) (kk : Option Nat) (b : Bool), p = b → runD tab E all env H os (⟨o.dst, depsOf recs o, v, e, kk⟩ :: setRec recs j b) K = some r → setRec recs j b = recs := by
      intro v e kk b hpb h
      refine setRec_id fun q hq => ?_
      have hjl := recAt_lt hq
      obtain ⟨suf, hD, hK, hds', hfs⟩ := runD_facts os (⟨o.dst, depsOf recs o, v, e, kk⟩ :: setRec recs j b) ⟨pre ++ [o], by rw [hp]; simp, by simp [hl, setRec_len]⟩ (fun i q hq => by
       rw [recAt_cons] at hq
       split at hq
       ·rename_i hi
        simp only [Option.some.injEq] at hq
        subst hq
        rw [hi, setRec_len, hdo]
       ·rw [recAt_setRec, Option.map_eq_some_iff] at hq
        obtain ⟨q0, hq0, rfl⟩ := hq
        have := hds i q0 hq0
        split <;> exact this) h
      have hqd : q.dst = some d := by rw [hds j q hq, hj]
      have hqF : recAt (suf ++ (⟨o.dst, depsOf recs o, v, e, kk⟩ :: setRec recs j b)) j = some { q with v := .val false [.bool b] } := by
       rw [recAt_app _ _ (by simp [setRec_len]; omega), recAt_cons, if_neg (by rw [setRec_len]; omega), recAt_setRec, hq]
       simp
      have hoF : recAt (suf ++ (⟨o.dst, depsOf recs o, v, e, kk⟩ :: setRec recs j b)) recs.length = some ⟨o.dst, depsOf recs o, v, e, kk⟩ := by
       rw [recAt_app _ _ (by simp [setRec_len]), recAt_cons, if_pos (by rw [setRec_len])]
      have haj : ∃ a, all[j]? = some a := by
       unfold dstAt at hj
       cases ha : all[j]? with
       | none => rw [ha] at hj; cases hj
       | some a => exact ⟨a, rfl⟩
      obtain ⟨a, ha⟩ := haj
      have hbit : (depsOf recs o).testBit j = true := by
       rcases (apart_spec (hD.apart _ _ _ _ _ _ hjl ha ho hqF hoF)).2 with h1 | h1
       ·exact h1
       ·exact (h1.fwd d hqd hread).elim
      have hDst : DstOK recs := by
       intro i i' x y d' hx hy hxd hyd
       have up : ∀ i x, recAt recs i = some x → recAt (suf ++ (⟨o.dst, depsOf recs o, v, e, kk⟩ :: setRec recs j b)) i = some (if i = j then { x with v := .val false [.bool b] } else x) := by
        intro i x hx
        have := recAt_lt hx
        rw [recAt_app _ _ (by simp [setRec_len]; omega), recAt_cons, if_neg (by rw [setRec_len]; omega), recAt_setRec, hx]
        simp
       refine hD.dst i i' _ _ d' (up i x hx) (up i' y hy) ?_ ?_
       ·split <;> exact hxd
       ·split <;> exact hyd
      have := envOf_some (env := env) hDst hq hbit hqd
      rw [hv] at this
      simp only [Option.some.injEq] at this
      rw [← this, hpb]
     have took : ∀ b, want = b → p = b → stepK tab E (heapOf (setRec recs j b) (depsOf recs o) H) o (ev (envOf (setRec recs j b) (depsOf recs o) env)) (fun v e => runD tab E all env H os (⟨o.dst, depsOf recs o, v, e, lookKey (ev (envOf (setRec recs j b) (depsOf recs o) env)) o⟩ :: setRec recs j b) K) = some r → ∃ suf, DF tab E all env H (suf ++ recs) ∧ K (envOf (suf ++ recs) (2 ^ (suf ++ recs).length - 1) env) (heapOf (suf ++ recs) (2 ^ (suf ++ recs).length - 1) H) = some r ∧
   (∀ i q, recAt (suf ++ recs) i = some q → q.dst = dstAt all i) ∧ ∀ i o q, recs.length ≤ i → all[i]? = some o → recAt (suf ++ recs) i = some q → Fact tab E all env H (suf ++ recs) o q := by
      intro b hw hb h
      obtain ⟨v, e, h1, h2⟩ := stepK_det h
      have hid := ident v e _ b hb h1
      rw [hid] at h1 h2
      refine key v e _ h1 fun F _ he hh hd => ⟨rfl, hd, ?_⟩
      rw [hg]
      refine ⟨d, hj, .inr ⟨p, by rw [he]; exact hv, .inl ⟨hb.trans hw.symm, ?_⟩⟩⟩
      intro R' K'
      refine ⟨?_, fun k hk => by rw [he]; exact hk⟩
      rw [he, hh]
      exact h2 R' K'
     have left : ∀ b, want ≠ b → p = b → runD tab E all env H os (⟨o.dst, depsOf recs o, .tup [], [], none⟩ :: setRec recs j b) K = some r → ∃ suf, DF tab E all env H (suf ++ recs) ∧ K (envOf (suf ++ recs) (2 ^ (suf ++ recs).length - 1) env) (heapOf (suf ++ recs) (2 ^ (suf ++ recs).length - 1) H) = some r ∧
   (∀ i q, recAt (suf ++ recs) i = some q → q.dst = dstAt all i) ∧ ∀ i o q, recs.length ≤ i → all[i]? = some o → recAt (suf ++ recs) i = some q → Fact tab E all env H (suf ++ recs) o q := by
      intro b hw hb h
      have hid := ident _ _ _ b hb h
      rw [hid] at h
      refine key _ _ _ h fun F _ he hh hd => ⟨rfl, hd, ?_⟩
      rw [hg]
      exact ⟨d, hj, .inr ⟨p, by rw [he]; exact hv, .inr ⟨fun e => hw (e.symm.trans hb), rfl, rfl⟩⟩⟩
     cases want <;> cases p <;> simp only [cond_true, cond_false] at h
     ·exact took false rfl rfl h
     ·exact left true (by simp) rfl h
     ·exact left false (by simp) rfl h
     ·exact took true rfl rfl h
    ·cases h
end
theorem countP_add {D i : Nat} (hb : D.testBit i = false) : ∀ (l : List Nat), (l.countP fun k => !(addB D i).testBit k) ≤ l.countP (fun k => !D.testBit k) ∧ (i ∈ l → (l.countP fun k => !(addB D i).testBit k) < l.countP fun k => !D.testBit k)
 | [] => by simp
 | x :: l => by
  obtain ⟨h1, h2⟩ := countP_add hb l
  by_cases hx : x = i
  ·subst hx
   rw [List.countP_cons_of_neg (by simp [addB_self]), List.countP_cons_of_pos (by simp [hb])]
   exact ⟨by omega, fun _ => by omega⟩
  ·have e : (addB D i).testBit x = D.testBit x := addB_other hx
   have hm : i ∈ x :: l → i ∈ l := fun h => (List.mem_cons.1 h).resolve_left (Ne.symm hx)
   cases hd : D.testBit x with
   | true =>
    rw [List.countP_cons_of_neg (by simp [e, hd]), List.countP_cons_of_neg (by simp [hd])]
    exact ⟨h1, fun h => h2 (hm h)⟩
   | false =>
    rw [List.countP_cons_of_pos (by simp [e, hd]), List.countP_cons_of_pos (by simp [hd])]
    exact ⟨by omega, fun h => by have := h2 (hm h); omega⟩
theorem at_fresh {H : Heap} {k : Nat} (h : fresh H k = true) : H.at k = none := by
 unfold fresh at h
 unfold Heap.at
 cases hg : get H k with
 | none => rfl
 | some o => rw [hg] at h; cases h
theorem fresh_iff {H : Heap} {k : Nat} : fresh H k = true ↔ ¬ known H k := by
 unfold fresh known
 cases get H k <;> simp
section
variable {P : Program} {tab : Tab} {E : Ents} {all : List Oper} {env : Env} {H : Heap} {F : List Rec} {B : Base}
/-- All that is done: what it depends on is done too. -/
def Closed (F : List Rec) (D : Nat) : Prop := ∀ j q, recAt F j = some q → D.testBit j = true → ∀ k, q.deps.testBit k = true → D.testBit k = true
theorem Closed.add {D i : Nat} {r : Rec} (h : Closed F D) (hr : recAt F i = some r) (hd : ∀ k, r.deps.testBit k = true → D.testBit k = true) : Closed F (addB D i) := by
 have up : ∀ k, D.testBit k = true → (addB D i).testBit k = true := fun k hk => by simp only [addB, Nat.testBit_or, hk, Bool.true_or]
 intro j q hq hj k hk
 by_cases e : j = i
 ·subst e
  rw [hr] at hq
  simp only [Option.some.injEq] at hq
  subst hq
  exact up k (hd k hk)
 ·rw [addB_other e] at hj
  exact up k (h j q hq hj k hk)
structure AllF (tab : Tab) (E : Ents) (all : List Oper) (env : Env) (H : Heap) (F : List Rec) : Prop extends DF tab E all env H F where
 fact : ∀ i o q, all[i]? = some o → recAt F i = some q → Fact tab E all env H F o q
theorem AllF.op (hF : AllF tab E all env H F) {i : Nat} {q : Rec} (h : recAt F i = some q) : ∃ o, all[i]? = some o := by
 have := recAt_lt h
 rw [hF.len] at this
 exact ⟨all[i], List.getElem?_eq_getElem this⟩
theorem AllF.recd (hF : AllF tab E all env H F) {i : Nat} {o : Oper} (h : all[i]? = some o) : ∃ q, recAt F i = some q := by
 have : i < all.length := (List.getElem?_eq_some_iff.1 h).1
 rw [← hF.len] at this
 unfold recAt
 exact ⟨_, List.getElem?_eq_getElem (by simpa using this)⟩
/-- What an operation depends on, through others too. -/
theorem AllF.trans (hF : AllF tab E all env H F) : ∀ (i : Nat) (r : Rec), recAt F i = some r → Closed F r.deps := by
 intro i
 induction i using Nat.strongRecOn with
 | _ i ih =>
  intro r hr j q hq hj k hk
  obtain ⟨o, ho⟩ := hF.op hr
  obtain ⟨_, hd, _⟩ := hF.fact i o r ho hr
  obtain ⟨e, he, hb, h1⟩ := hd.why j hj
  rcases h1 with h1 | ⟨q', hq', h1⟩
  ·subst h1
   exact hd.sub e he hb q hq k hk
  ·have hlt : e.on < i := testBit_lt (hF.edge i r hr) (hd.on e he hb)
   exact hd.sub e he hb q' hq' k (ih e.on hlt q' hq' j q hq h1 k hk)
variable {D i : Nat} {o : Oper} {r : Rec}
structure Ready (F : List Rec) (all : List Oper) (D i : Nat) (o : Oper) (r : Rec) : Prop where
 cl : Closed F D
 ho : all[i]? = some o
 hr : recAt F i = some r
 un : D.testBit i = false
 dep : ∀ k, r.deps.testBit k = true → D.testBit k = true
theorem Ready.later (hR : Ready F all D i o r) {j : Nat} {q : Rec} (hq : recAt F j = some q) (hj : D.testBit j = true) : q.deps.testBit i = false := by
 rw [← Bool.not_eq_true]
 intro h
 have := hR.cl j q hq hj i h
 rw [hR.un] at this
 cases this
/-- An operation that is done, and not waited for, is free of it. -/
theorem Ready.free (hF : AllF tab E all env H F) (hR : Ready F all D i o r) {j : Nat} {q : Rec} {b : Oper} (hb : all[j]? = some b) (hq : recAt F j = some q) (hj : D.testBit j = true) (hn : r.deps.testBit j = false) : (j < i ∧ Free all b q o r) ∨ (i < j ∧ Free all o r b q) := by
 have hne : j ≠ i := fun e => by rw [e, hR.un] at hj; cases hj
 rcases Nat.lt_or_ge j i with h | h
 ·rcases (apart_spec (hF.apart j i b o q r h hb hR.ho hq hR.hr)).2 with h1 | h1
  ·rw [hn] at h1; cases h1
  ·exact .inl ⟨h, h1⟩
 ·have h : i < j := by omega
  rcases (apart_spec (hF.apart i j o b r q h hR.ho hb hR.hr hq)).2 with h1 | h1
  ·rw [hR.later hq hj] at h1; cases h1
  ·exact .inr ⟨h, h1⟩
theorem Ready.gets (hF : AllF tab E all env H F) (hR : Ready F all D i o r) {s : Nat} (hs : s ∈ reads all o) : get (envOf F D env) s = get (envOf F r.deps env) s := by
 refine envOf_congr fun j q hq hd => ?_
 cases hj : D.testBit j with
 | false =>
  cases hn : r.deps.testBit j with
  | false => rfl
  | true => rw [hR.dep j hn] at hj; cases hj
 | true =>
  cases hn : r.deps.testBit j with
  | true => rfl
  | false =>
   obtain ⟨b, hb⟩ := hF.op hq
   rcases hR.free hF hb hq hj hn with ⟨_, h⟩ | ⟨_, h⟩
   ·exact (h.fwd s hd hs).elim
   ·exact (h.bwd s hd hs).elim
theorem Ready.fr (hF : AllF tab E all env H F) (hR : Ready F all D i o r) (m : Nat) (hm : m < 16) (h : fresh (heapOf F r.deps H) (key0 o + m) = true) : fresh (heapOf F D H) (key0 o + m) = true := by
 have hk : keyed o (key0 o + m) = true := by
  unfold keyed
  rw [Bool.and_eq_true]
  exact ⟨Nat.ble_eq_true_of_le (by omega), blt_iff.2 (by omega)⟩
 rw [fresh_iff] at h ⊢
 rwa [(heapOf_congr (H := H) (k := key0 o + m) (recs := F) (D := D) (D' := r.deps) fun j q hq hx => ?_).2]
 obtain ⟨x, hx, hxk⟩ := hx
 cases hj : D.testBit j with
 | false =>
  cases hn : r.deps.testBit j with
  | false => rfl
  | true => rw [hR.dep j hn] at hj; cases hj
 | true =>
  cases hn : r.deps.testBit j with
  | true => rfl
  | false =>
   obtain ⟨b, hb⟩ := hF.op hq
   rcases hR.free hF hb hq hj hn with ⟨_, h⟩ | ⟨_, h⟩
   ·have := h.kb x hx
    rw [hxk, hk] at this; cases this
   ·have := h.ka x hx
    rw [hxk, hk] at this; cases this
theorem own_of {b : Oper} {q : Rec} (h : ¬ mutates b q = true) {x : Nat × Option Obj} (hx : x ∈ q.e) : ownKey b x.1 = true := by
 cases hk : ownKey b x.1 with
 | true => rfl
 | false =>
  exact (h (by unfold mutates; rw [List.any_eq_true]; exact ⟨x, hx, by rw [hk]; rfl⟩)).elim
theorem Ready.sub1 (hF : AllF tab E all env H F) (hR : Ready F all D i o r) {k : Nat} (ht : ∀ e : Heap, (∃ x ∈ e, x.1 = k) → ¬ (touches o.op = false ∨ away r e = true)) {ob : Obj} (hk : (heapOf F r.deps H).at k = some ob) : (heapOf F D H).at k = some ob := by
 by_cases hc : ∃ j q, recAt F j = some q ∧ D.testBit j = true ∧ r.deps.testBit j = false ∧ ∃ x ∈ q.e, x.1 = k
 ·obtain ⟨j, q, hq, hj, hn, x, hx, hxk⟩ := hc
  obtain ⟨b, hb⟩ := hF.op hq
  have hmu : ¬ mutates b q = true := by
   rcases hR.free hF hb hq hj hn with ⟨_, h⟩ | ⟨_, h⟩
   ·intro hm
    exact ht q.e ⟨x, hx, hxk⟩ (h.ma hm).1
   ·intro hm
    exact ht q.e ⟨x, hx, hxk⟩ (h.mb hm)
  have hown := own_of hmu hx
  have hfr := hF.made j b q hb hq x hx hown
  rw [hxk] at hown hfr
  have hno : (heapOf F r.deps H).at k = (heapOf F 0 H).at k := by
   refine (heapOf_congr fun j' q' hq' hx' => ?_).1
   obtain ⟨y, hy, hyk⟩ := hx'
   rw [Nat.zero_testBit, ← Bool.not_eq_true]
   intro hj'
   obtain ⟨b', hb'⟩ := hF.op hq'
   have hne : j' ≠ j := fun e => by rw [e, hn] at hj'; cases hj'
   rcases Nat.lt_or_ge j' j with h | h
   ·have := (apart_spec (hF.apart j' j b' b q' q h hb' hb hq' hq)).1 y hy
    rw [hyk, hown] at this; cases this
   ·have h : j < j' := by omega
    rcases (apart_spec (hF.apart j j' b b' q q' h hb hb' hq hq')).2 with h1 | h1
    ·have := hF.trans i r hR.hr j' q' hq' hj' j h1
     rw [hn] at this; cases this
    ·have := h1.ka y hy
     rw [hyk] at this
     unfold ownKey at hown
     rw [this] at hown; cases hown
  rw [hno, heapOf_zero, at_fresh hfr] at hk
  cases hk
 ·rw [← hk]
  refine (heapOf_congr fun j q hq hx => ?_).1
  cases hj : D.testBit j with
  | false =>
   cases hn : r.deps.testBit j with
   | false => rfl
   | true => rw [hR.dep j hn] at hj; cases hj
  | true =>
   cases hn : r.deps.testBit j with
   | true => rfl
   | false => exact (hc ⟨j, q, hq, hj, hn, hx⟩).elim
theorem away_spec {r : Rec} {e : Heap} (h : away r e = true) : ∃ k, r.k = some k ∧ ∀ x ∈ e, x.1 ≠ k := by
 unfold away at h
 split at h
 ·rename_i k hk
  refine ⟨k, hk, fun x hx he => ?_⟩
  rw [List.all_eq_true] at h
  have := h x hx
  rw [he] at this
  simp at this
 ·cases h
theorem Ready.sub (hF : AllF tab E all env H F) (hR : Ready F all D i o r) (ht : touches o.op = true) (hk : r.k = none) : Sub (heapOf F r.deps H) (heapOf F D H) := fun k ob h =>
 hR.sub1 hF (fun e _ hn => by
  rcases hn with hn | hn
  ·rw [ht] at hn; cases hn
  ·obtain ⟨k', h1, _⟩ := away_spec hn
   rw [hk] at h1; cases h1) h
theorem Ready.subk (hF : AllF tab E all env H F) (hR : Ready F all D i o r) (ht : touches o.op = true) {k : Nat} (hk : r.k = some k) {ob : Obj} (h : (heapOf F r.deps H).at k = some ob) : (heapOf F D H).at k = some ob :=
 hR.sub1 hF (fun e ⟨x, hx, hxk⟩ hn => by
  rcases hn with hn | hn
  ·rw [ht] at hn; cases hn
  ·obtain ⟨k', h1, h2⟩ := away_spec hn
   rw [hk] at h1
   simp only [Option.some.injEq] at h1
   subst h1
   exact h2 x hx hxk) h
theorem Ready.envs (hF : AllF tab E all env H F) (hR : Ready F all D i o r) (ho : r.dst = o.dst) : ∀ s v, get (envOf F (addB D i) env) s = some v → get (setD o r.v (envOf F D env)) s = some v := by
 intro s v h
 unfold setD
 by_cases hd : r.dst = some s
 ·rw [envOf_some hF.dst hR.hr (addB_self D i) hd] at h
  rw [← ho, hd]
  simp only [get_cons, if_true]
  exact h
 ·have e : get (envOf F (addB D i) env) s = get (envOf F D env) s := by
   refine envOf_congr fun j q hq hqd => addB_other fun e => ?_
   subst e
   rw [hR.hr] at hq
   simp only [Option.some.injEq] at hq
   subst hq
   exact hd hqd
  rw [e] at h
  rw [← ho]
  split
  ·rename_i d hd'
   rw [get_cons, if_neg fun e => hd (by rw [hd', e])]
   exact h
  ·exact h
theorem Ready.heaps (hF : AllF tab E all env H F) (hR : Ready F all D i o r) : Same (r.e ++ heapOf F D H) (heapOf F (addB D i) H) := by
 have key : ∀ k, _ := fun k => heapOf_add (H := H) (k := k) (D := D) hR.hr fun j q hq hij hj x hx y hy he => by
  obtain ⟨b, hb⟩ := hF.op hq
  rcases (apart_spec (hF.apart i j o b r q hij hR.ho hb hR.hr hq)).2 with h1 | h1
  ·rw [hR.later hq hj] at h1; cases h1
  ·by_cases hm : mutates o r = true
   ·have := own_of (by rw [(h1.ma hm).2]; simp) hx
    have h2 := h1.kb y hy
    unfold ownKey at this
    rw [he, h2] at this; cases this
   ·have := own_of hm hy
    have h2 := h1.ka x hx
    unfold ownKey at this
    rw [← he, h2] at this; cases this
 exact ⟨fun k => (key k).1, fun k => (key k).2⟩
end
section
variable {P : Program} {tab : Tab} {E : Ents} {ops : Array Oper} {env : Env} {H : Heap} {F : List Rec} {B : Base} {Q : Exit → Act → World → Prop}
theorem ready_mem {listed : Array Bool} {i : Nat} (h : i ∈ Region.ready .any ops listed) : i < ops.size ∧ listed.getD i true = false ∧ ∃ o, ops[i]? = some o ∧ ∀ e ∈ o.after.toList, Region.binds .any e = true → listed.getD e.on false = true := by
 unfold Region.ready at h
 rw [List.mem_filter] at h
 obtain ⟨h1, h2⟩ := h
 simp only [Bool.and_eq_true, Bool.not_eq_true'] at h2
 have hi := List.mem_range.1 h1
 refine ⟨hi, h2.1, ops[i], Array.getElem?_eq_getElem hi, fun e he hb => ?_⟩
 have := h2.2
 rw [Array.getElem?_eq_getElem hi] at this
 simp only [Option.map_some, Option.getD_some, Array.all_eq_true_iff_forall_mem] at this
 have := this e (by simpa using he)
 simpa [hb] using this
theorem ready_nil {listed : Array Bool} (h : Region.ready .any ops listed = []) (i : Nat) (o : Oper) (ho : ops[i]? = some o) (hd : ∀ e ∈ o.after.toList, Region.binds .any e = true → listed.getD e.on false = true) : listed.getD i true = true := by
 have hi : i < ops.size := (Array.getElem?_eq_some_iff.1 ho).1
 cases hl : listed.getD i true with
 | true => rfl
 | false =>
  have : i ∈ Region.ready .any ops listed := by
   unfold Region.ready
   rw [List.mem_filter]
   refine ⟨List.mem_range.2 hi, ?_⟩
   rw [hl, ho]
   simp only [Option.map_some, Option.getD_some, Bool.not_false, Bool.true_and, Array.all_eq_true_iff_forall_mem]
   intro e he
   cases hb : Region.binds .any e with
   | false => rfl
   | true => simp [hd e (by simpa using he) hb]
  rw [h] at this
  cases this
theorem any_sound (hT : TabOK P tab) (hE : EntsOK P E) (hF : AllF tab E ops.toList env H F) (hdst : ∀ o ∈ ops.toList, ∀ d, o.dst = some d → d < B.n)
  (hQ : ∀ g a w, Rel B g (envOf F (2 ^ F.length - 1) env) (heapOf F (2 ^ F.length - 1) H) a w → Q .normal a w) : ∀ (fuel D : Nat) (listed : Array Bool) (g : Gh) (a : Act) (w : World),
  listed.size = ops.size → (∀ i b, i < ops.size → listed.getD i b = D.testBit i) → Closed F D → (List.range ops.size).countP (fun k => !D.testBit k) ≤ fuel → Rel B g (envOf F D env) (heapOf F D H) a w → wpAny P .any ops Q fuel listed a w := by
 have hlen : F.length = ops.size := by rw [hF.len, Array.length_toList]
 have hend : ∀ D g a w, (∀ i, i < ops.size → D.testBit i = true) → Rel B g (envOf F D env) (heapOf F D H) a w → Q .normal a w := by
  intro D g a w hD R
  have hb : ∀ i, i < F.length → D.testBit i = (2 ^ F.length - 1).testBit i := fun i hi => by
   rw [hD i (by omega), Nat.testBit_two_pow_sub_one]
   simp [hi]
  rw [envOf_bits F hb, heapOf_bits F hb] at R
  exact hQ g a w R
 intro fuel
 induction fuel with
 | zero =>
  intro D listed g a w hs hl hc hn R
  have hall : ∀ i, i < ops.size → D.testBit i = true := fun i hi => by
   have h0 : (List.range ops.size).countP (fun k => !D.testBit k) = 0 := by omega
   rw [List.countP_eq_zero] at h0
   have := h0 i (List.mem_range.2 hi)
   simpa using this
  refine ⟨?_, hend D g a w hall R⟩
  cases hr : Region.ready .any ops listed with
  | nil => rfl
  | cons x xs =>
   obtain ⟨h1, h2, _⟩ := ready_mem (i := x) (by rw [hr]; simp)
   rw [hl x true h1, hall x h1] at h2
   cases h2
 | succ fuel ih =>
  intro D listed g a w hs hl hc hn R
  refine ⟨fun hr => hend D g a w (fun i => ?_) R, fun i hi => ?_⟩
  ·induction i using Nat.strongRecOn with
   | _ i ihi =>
    intro hi
    rw [← hl i true hi]
    have ho : ops[i]? = some ops[i] := Array.getElem?_eq_getElem hi
    have ho' : ops.toList[i]? = some ops[i] := by rw [Array.getElem?_toList]; exact ho
    obtain ⟨r, hrec⟩ := hF.recd ho'
    obtain ⟨_, hd, _⟩ := hF.fact i _ r ho' hrec
    refine ready_nil hr i _ ho fun e he hb => ?_
    have hlt : e.on < i := testBit_lt (hF.edge i r hrec) (hd.on e he hb)
    rw [hl e.on false (by omega)]
    exact ihi e.on hlt (by omega)
  ·obtain ⟨hi1, hi2, o, ho, hi3⟩ := ready_mem hi
   have ho' : ops.toList[i]? = some o := by rw [Array.getElem?_toList]; exact ho
   have hom : o ∈ ops.toList := List.mem_of_getElem? ho'
   obtain ⟨r, hr⟩ := hF.recd ho'
   obtain ⟨hrd, hdep, hfact⟩ := hF.fact i o r ho' hr
   have hun : D.testBit i = false := by rw [← hl i true hi1]; exact hi2
   have hon : ∀ e ∈ o.after.toList, Region.binds .any e = true → D.testBit e.on = true := fun e he hb => by
    have hlt : e.on < i := testBit_lt (hF.edge i r hr) (hdep.on e he hb)
    rw [← hl e.on false (by omega)]
    exact hi3 e he hb
   have hR : Ready F ops.toList D i o r := ⟨hc, ho', hr, hun, fun k hk => by
    obtain ⟨e, he, hb, h1⟩ := hdep.why k hk
    rcases h1 with h1 | ⟨q, hq, h1⟩
    ·rw [h1]; exact hon e he hb
    ·exact hc e.on q hq (hon e he hb) k h1⟩
   -- what comes behind
   have next : ∀ g' a' w', Rel B g' (setD o r.v (envOf F D env)) (r.e ++ heapOf F D H) a' w' → wpAny P .any ops Q fuel (listed.setIfInBounds i true) a' w' := by
    intro g' a' w' R'
    refine ih (addB D i) _ g' a' w' (by simp [hs]) (fun k b hk => ?_) (hc.add hr hR.dep) ?_ (R'.congr (hR.heaps hF) (hR.envs hF hrd))
    ·by_cases e : k = i
     ·subst e
      rw [addB_self, Array.getD_eq_getD_getElem?, Array.getElem?_setIfInBounds_self_of_lt (by omega)]
      rfl
     ·rw [addB_other e, ← hl k b hk, Array.getD_eq_getD_getElem?, Array.getD_eq_getD_getElem?, Array.getElem?_setIfInBounds_ne (Ne.symm e)]
    ·have := (countP_add hun (List.range ops.size)).2 (List.mem_range.2 hi1)
     omega
   have hd : ∀ d, o.dst = some d → d < B.n := hdst o hom
   have go : Region.wanted o (yielded ops a.tmps) = true → Stepped tab E env H F o r → wpOp P ops Q i (wpAny P .any ops Q fuel (listed.setIfInBounds i true)) a w := by
    intro hw hst
    unfold wpOp
    rw [ho]
    simp only [hw, if_true]
    refine .inl ?_
    have h0 : stepK tab E (heapOf F r.deps H) o (ev (envOf F r.deps env)) (fun v e => some (v, e)) = some (r.v, r.e) := (hst _ _).1
    have hlk := (hst Unit fun _ _ => none).2
    have h1 : stepK tab E (heapOf F D H) o (ev (envOf F D env)) (fun v e => some (v, e)) = some (r.v, r.e) := by
     refine stepK_mono (fun x hx => ?_) (fun ht => by
      cases hk : r.k with
      | none => exact .inl (hR.sub hF ht hk)
      | some k => exact .inr ⟨k, hlk k hk, fun ob h => hR.subk hF ht hk h⟩) (fun m hm => hR.fr hF m hm) h0
     cases x with
     | tmp t =>
      refine hR.gets hF ?_
      unfold reads
      exact List.mem_append_left _ (List.mem_filterMap.2 ⟨_, hx, rfl⟩)
     | _ => rfl
    refine stepK_sound hT hE R hd h1 fun v e g' cv w' R' he => ?_
    simp only [Option.some.injEq, Prod.mk.injEq] at he
    obtain ⟨rfl, rfl⟩ := he
    exact next g' _ w' R'
   have skip : Region.wanted o (yielded ops a.tmps) = false → r.v = .tup [] → r.e = [] → wpOp P ops Q i (wpAny P .any ops Q fuel (listed.setIfInBounds i true)) a w := by
    intro hw hv he
    unfold wpOp
    rw [ho]
    simp only [hw, Bool.false_eq_true, if_false]
    refine next g _ w ?_
    rw [hv, he]
    exact R.skip hd
   cases hg : o.guard with
   | none =>
    rw [hg] at hfact
    exact go (by simp [Region.wanted, hg]) hfact
   | some jw =>
    obtain ⟨j, want⟩ := jw
    rw [hg] at hfact
    obtain ⟨d, hj, hcase⟩ := hfact
    have hread : d ∈ reads ops.toList o := by
     unfold reads
     simp [hg, hj]
    have hget := hR.gets (env := env) hF hread
    rcases hcase with ⟨h1, h2, h3⟩ | ⟨p, h1, h2⟩
    ·rw [← hget] at h1
     obtain ⟨vs, q1, q2⟩ := R.env d _ h1
     have q3 : vs = #[] := by
      simp only [RVals] at q2
      exact Array.toList_inj.1 (by simpa using q2)
     subst q3
     exact skip (by simp [Region.wanted, hg, yielded_tup hj q1]) h2 h3
    ·rw [← hget] at h1
     have q1 : a.tmps.getD d undef = .bool p := rc_bool (rv_one (c := .bool p) rfl (R.env d _ h1))
     have hy := yielded_bool hj q1
     rcases h2 with ⟨rfl, h2⟩ | ⟨hne, h2, h3⟩
     ·exact go (by simp [Region.wanted, hg, hy]) h2
     ·exact skip (by simp [Region.wanted, hg, hy, hne]) h2 h3
/-- Regions that draw their order. -/
theorem draw_ok (hm : P.follows .mixedOrders = true) (hT : TabOK P tab) (hE : EntsOK P E) : DrawOK P tab E B := by
 intro R r id ops g env H a w K Q hdst hK Rl h
 obtain ⟨suf, hD, h1, _, h2⟩ := runD_facts (all := ops.toList) ops.toList [] ⟨[], rfl, rfl⟩ (fun i q hq => by simp [recAt] at hq) h
 rw [List.append_nil] at hD h1 h2
 have hF : AllF tab E ops.toList env H suf := { hD with fact := fun i o q ho hq => h2 i o q (Nat.zero_le _) ho hq }
 refine wp_region_any hm (any_sound hT hE hF hdst (fun g a w R' => hK g _ _ a w R' h1) ops.size 0 _ g a _ (by simp) (fun i b hi => by simp [Array.getD_eq_getD_getElem?, hi]) (fun j q _ hj => by simp at hj) ?_ ?_)
 ·exact Nat.le_trans List.countP_le_length (by simp)
 ·rw [envOf_zero, heapOf_zero]
  exact Rl.drew
end
def zeroB : List C → List Value → Bool
 | [], [] => true
 | c :: cs, u :: us => (match c, u with
  | .int k n, .int k' n' => decide (k = k') && decide (n = n')
  | .bool b, .bool b' => b == b'
  | .str s, .string s' => Nat.beq s.size 0 && Nat.beq s'.size 0
  | .nil, .slice none 0 0 => true
  | .nilp, .pointer none => true
  | _, _ => false) && zeroB cs us
 | _, _ => false
theorem ba_empty {s : ByteArray} (h : Nat.beq s.size 0 = true) : s = ByteArray.empty := by
 have := nb_eq h
 exact ByteArray.size_eq_zero_iff.1 this
theorem zeroB_is : ∀ {cs : List C} {us : List Value}, zeroB cs us = true → zeroIs cs us
 | [], [], _ => rfl
 | [], u :: us, h => by simp [zeroB] at h
 | c :: cs, [], h => by simp [zeroB] at h
 | c :: cs, u :: us, h => by
  simp only [zeroB, Bool.and_eq_true] at h
  refine ⟨u, us, rfl, ?_, zeroB_is h.2⟩
  have h1 := h.1
  split at h1
  ·simp only [Bool.and_eq_true, decide_eq_true_eq] at h1
   obtain ⟨rfl, rfl⟩ := h1; rfl
  ·simp only [beq_iff_eq] at h1
   subst h1; rfl
  ·simp only [Bool.and_eq_true] at h1
   rw [ba_empty h1.1, ba_empty h1.2]
  ·rfl
  ·rfl
  ·cases h1
/-- The cells of the zero of a code, off a list. -/
def dfltC : T → List C → Option (List C)
 | .int k, .int k' n :: r => bif decide (k = k') && decide (n = 0) then some r else none
 | .bool, .bool b :: r => bif b then none else some r
 | .str, .str s :: r => bif Nat.beq s.size 0 then some r else none
 | .list _, .nil :: r => some r
 | .pair a b, cs => (dfltC a cs).bind fun r => dfltC b r
 | .unit, cs => some cs
 | _, _ => none
theorem dfltC_ow {w : World} : ∀ {t : T} {cs rest : List C} {vs : List Value}, dfltC t cs = some rest → zeroIs cs vs → ∃ us ws, vs = us ++ ws ∧ Ow w t t.dflt us [] ∧ zeroIs rest ws
 | .int k, cs, rest, vs, h, hz => by
  cases cs with
  | nil => simp [dfltC] at h
  | cons c cs =>
   cases c <;> simp only [dfltC, reduceCtorEq] at h
   obtain ⟨h1, h2⟩ := bif_some h
   simp only [Bool.and_eq_true, decide_eq_true_eq] at h1
   obtain ⟨rfl, rfl⟩ := h1
   simp only [Option.some.injEq] at h2
   subst h2
   obtain ⟨u, us, rfl, h3, h4⟩ := hz
   exact ⟨[u], us, rfl, ⟨by rw [h3]; rfl, rfl⟩, h4⟩
 | .bool, cs, rest, vs, h, hz => by
  cases cs with
  | nil => simp [dfltC] at h
  | cons c cs =>
   cases c <;> simp only [dfltC, reduceCtorEq] at h
   rename_i b
   cases b <;> simp only [cond_true, cond_false, reduceCtorEq, Option.some.injEq] at h
   subst h
   obtain ⟨u, us, rfl, h3, h4⟩ := hz
   exact ⟨[u], us, rfl, ⟨by rw [h3]; rfl, rfl⟩, h4⟩
 | .str, cs, rest, vs, h, hz => by
  cases cs with
  | nil => simp [dfltC] at h
  | cons c cs =>
   cases c <;> simp only [dfltC, reduceCtorEq] at h
   obtain ⟨h1, h2⟩ := bif_some h
   simp only [Option.some.injEq] at h2
   subst h2
   obtain ⟨u, us, rfl, h3, h4⟩ := hz
   exact ⟨[u], us, rfl, ⟨by rw [h3, ba_empty h1]; rfl, rfl⟩, h4⟩
 | .list t, cs, rest, vs, h, hz => by
  cases cs with
  | nil => simp [dfltC] at h
  | cons c cs =>
   cases c <;> simp only [dfltC, reduceCtorEq] at h
   simp only [Option.some.injEq] at h
   subst h
   obtain ⟨u, us, rfl, h3, h4⟩ := hz
   exact ⟨[u], us, rfl, .inl ⟨rfl, rfl, none, by rw [h3]⟩, h4⟩
 | .pair a b, cs, rest, vs, h, hz => by
  simp only [dfltC, Option.bind_eq_some_iff] at h
  obtain ⟨r1, h1, h2⟩ := h
  obtain ⟨us, ws, rfl, o1, z1⟩ := dfltC_ow h1 hz
  obtain ⟨us', ws', rfl, o2, z2⟩ := dfltC_ow h2 z1
  exact ⟨us ++ us', ws', by simp, ⟨us, us', [], [], rfl, rfl, o1, o2⟩, z2⟩
 | .unit, cs, rest, vs, h, hz => by
  simp only [dfltC, Option.some.injEq] at h
  subst h
  exact ⟨[], vs, rfl, ⟨rfl, rfl⟩, hz⟩
def fldsB (P : Program) : List Field → List (Nat × Nat) → Bool
 | [], [] => true
 | fd :: fs, x :: l => Nat.beq fd.offset x.1 && (match P.info? fd.type with | some inf => Nat.beq inf.size x.2 | none => false) && fldsB P fs l
 | _, _ => false
theorem fldsB_spec {P : Program} : ∀ {fs : List Field} {l : List (Nat × Nat)}, fldsB P fs l = true → fs.length = l.length ∧ ∀ (f off n : Nat), l[f]? = some (off, n) → ∃ (fd : Field) (inf : TypeInfo), fs[f]? = some fd ∧ fd.offset = off ∧ P.info? fd.type = some inf ∧ inf.size = n
 | [], [], _ => ⟨rfl, fun f off n h => by simp at h⟩
 | [], x :: l, h => by simp [fldsB] at h
 | fd :: fs, [], h => by simp [fldsB] at h
 | fd :: fs, x :: l, h => by
  simp only [fldsB, Bool.and_eq_true] at h
  obtain ⟨⟨h1, h2⟩, h3⟩ := h
  obtain ⟨i1, i2⟩ := fldsB_spec h3
  refine ⟨by simp [i1], fun f off n hx => ?_⟩
  cases f with
  | zero =>
   simp only [List.getElem?_cons_zero, Option.some.injEq] at hx
   subst hx
   split at h2
   ·rename_i inf hi
    exact ⟨fd, inf, rfl, nb_eq h1, hi, nb_eq h2⟩
   ·cases h2
  | succ f =>
   simp only [List.getElem?_cons_succ] at hx
   simpa using i2 f off n hx
def descB (P : Program) (tab : Tab) (i : TI) (d : TypeDesc) : Bool :=
 (match d with | .struct fs => i.agg && fldsB P fs.toList i.flds | .array _ _ => false | _ => !i.agg && i.flds.isEmpty) &&
 (i.agg || match i.zero with
  | [.int k _] => (match d with | .int k' => decide (k = k') | _ => false)
  | [.str _] => (match d with | .string => true | _ => false)
  | [.bool _] => (match d with | .bool => true | _ => false)
  | _ => true) &&
 ((get tab i.elem).isNone || (match d with | .slice e => Nat.beq e i.elem | _ => false))
/-- Its zero value is not told. -/
def noZ (i : TI) : Bool := i.zero.isEmpty && !i.agg && !Nat.beq i.sz i.t.sz
theorem noZ_okZ {i : TI} (h : noZ i = true) : ¬ okZ i := by
 simp only [noZ, Bool.and_eq_true, Bool.not_eq_true', List.isEmpty_iff] at h
 rintro (h1 | h1 | h1)
 ·exact h1 h.1.1
 ·rw [h.1.2] at h1; cases h1
 ·rw [h1, Nat.beq_refl] at h; cases h.2
theorem noZ_or {i : TI} {b : Bool} (h : (noZ i || b) = true) (ho : okZ i) : b = true := by
 cases hn : noZ i with
 | true => exact absurd ho (noZ_okZ hn)
 | false => rwa [hn, Bool.false_or] at h
def tyB (P : Program) (tab : Tab) (t : TypeId) (i : TI) : Bool :=
 (match P.info? t with | some inf => Nat.beq inf.size i.sz && Nat.beq inf.bytes i.bytes && (match inf.zero with | some z => noZ i || zeroB i.zero z.cells.toList | none => false) | none => false) &&
 (noZ i || Nat.beq i.zero.length i.sz) && (i.agg || Nat.beq i.sz 1) && Nat.ble 1 i.sz &&
 (match P.underlying t with | some d => descB P tab i d | none => false) &&
 (!Nat.beq i.sz i.t.sz || match dfltC i.t i.zero with | some [] => true | _ => false)
theorem agg_of {P : Program} {i : TI} {d : TypeDesc} : (match d with | .struct fs => i.agg && fldsB P fs.toList i.flds | .array _ _ => false | _ => !i.agg && i.flds.isEmpty) = true → (match d with | .struct _ | .array _ _ => true | _ => false) = i.agg := by
 intro d1
 cases d <;> simp only [Bool.and_eq_true, Bool.not_eq_true', Bool.false_eq_true] at d1 <;> first | exact d1.1.symm | exact d1.elim
theorem tyB_ok {P : Program} {tab : Tab} {t : TypeId} {i : TI} (h : tyB P tab t i = true) : TyOK P tab t i := by
 simp only [tyB, Bool.and_eq_true] at h
 obtain ⟨⟨⟨⟨⟨h1, h2⟩, h3⟩, h4⟩, h5⟩, h6⟩ := h
 split at h1
 case h_2 => cases h1
 rename_i inf hinf
 simp only [Bool.and_eq_true] at h1
 obtain ⟨⟨s1, s2⟩, s3⟩ := h1
 split at s3
 case h_2 => cases s3
 rename_i z hz
 split at h5
 case h_2 => cases h5
 rename_i d hd
 simp only [descB, Bool.and_eq_true] at h5
 obtain ⟨⟨d1, d2⟩, d3⟩ := h5
 have ha := agg_of d1
 have hst : i.agg = true → ∃ fs, d = .struct fs ∧ fldsB P fs.toList i.flds = true := by
  intro hag
  split at d1
  ·rename_i fs
   simp only [Bool.and_eq_true] at d1
   exact ⟨fs, rfl, d1.2⟩
  ·cases d1
  ·rw [hag] at d1; simp at d1
 refine ⟨⟨inf, z, hinf, nb_eq s1, nb_eq s2, hz, fun ho => zeroB_is (noZ_or s3 ho), fun ho => nb_eq (noZ_or h2 ho)⟩, ⟨d, hd, ha⟩, fun hag => ?_, Nat.le_of_ble_eq_true h4, fun k n hz' hag => ?_, fun s hz' hag => ?_, fun b hz' hag => ?_, fun he => ?_, fun f off n hf => ?_, fun hag => ?_, fun vs hvs hsz w => ?_⟩
 ·rw [hag, Bool.false_or] at h3; exact nb_eq h3
 ·rw [hag, Bool.false_or, hz'] at d2
  simp only [] at d2
  split at d2
  ·simp only [decide_eq_true_eq] at d2
   rw [hd, d2]
  ·cases d2
 ·rw [hag, Bool.false_or, hz'] at d2
  simp only [] at d2
  split at d2
  ·exact hd
  ·cases d2
 ·rw [hag, Bool.false_or, hz'] at d2
  simp only [] at d2
  split at d2
  ·exact hd
  ·cases d2
 ·cases hg : get tab i.elem with
  | none => rw [hg] at he; cases he
  | some x =>
   rw [hg] at d3
   simp only [Option.isNone_some, Bool.false_or] at d3
   split at d3
   ·rw [hd, nb_eq d3]
   ·cases d3
 ·have hag : i.agg = true := by
   cases hag : i.agg with
   | true => rfl
   | false =>
    rw [hag] at d1
    split at d1
    ·simp at d1
    ·cases d1
    ·simp only [Bool.not_false, Bool.true_and, List.isEmpty_iff] at d1
     rw [d1] at hf; simp at hf
  obtain ⟨fs, rfl, hfs⟩ := hst hag
  obtain ⟨fd, inf', q1, q2, q3, q4⟩ := (fldsB_spec hfs).2 f off n hf
  exact ⟨fs, fd, inf', hd, by rw [← Array.getElem?_toList]; exact q1, q2, q3, q4⟩
 ·obtain ⟨fs, rfl, hfs⟩ := hst hag
  exact ⟨fs, hd, by rw [← Array.length_toList]; exact (fldsB_spec hfs).1⟩
 ·have hb : Nat.beq i.sz i.t.sz = true := by rw [hsz]; exact Nat.beq_refl _
  rw [hb, Bool.not_true, Bool.false_or] at h6
  split at h6
  ·rename_i hc
   obtain ⟨us, ws, rfl, h7, h8⟩ := dfltC_ow (w := w) hc hvs
   simp only [zeroIs] at h8
   subst h8
   rw [List.append_nil]
   exact h7
  ·cases h6
def tabB (P : Program) (tab : Tab) : Bool := tab.all fun x => tyB P tab x.1 x.2
theorem tab_of {P : Program} {tab : Tab} (h : tabB P tab = true) : TabOK P tab := by
 intro t i hg
 unfold tabB at h
 rw [List.all_eq_true] at h
 exact tyB_ok (h _ (get_mem hg))
def allK {R : Type} (keep : List Nat) : List (LS R) → Prop
 | [] => True
 | L :: l => L.keep = keep ∧ allK keep l
theorem allK_at {R : Type} {keep : List Nat} : ∀ {l : List (LS R)} {n : Nat} {L : LS R}, allK keep l → l[n]? = some L → L.keep = keep
 | [], n, L, _, h => by simp at h
 | L0 :: l, 0, L, hk, h => by
  simp only [List.getElem?_cons_zero, Option.some.injEq] at h
  subst h; exact hk.1
 | L0 :: l, n + 1, L, hk, h => by
  simp only [List.getElem?_cons_succ] at h
  exact allK_at hk.2 h
def all0 {R : Type} : List (LS R) → Prop
 | [] => True
 | L :: l => (∀ x, L.l x = none) ∧ all0 l
theorem all0_at {R : Type} : ∀ {l : List (LS R)} {n : Nat} {L : LS R}, all0 l → l[n]? = some L → ∀ x, L.l x = none
 | [], n, L, _, h => by simp at h
 | L0 :: l, 0, L, hk, h => by
  simp only [List.getElem?_cons_zero, Option.some.injEq] at h
  subst h; exact hk.1
 | L0 :: l, n + 1, L, hk, h => by
  simp only [List.getElem?_cons_succ] at h
  exact all0_at hk.2 h
def allS {R : Type} (φ : Nat → (L : LS R) → (DenV (L.live.map (·.2)) × DenO L.ob) → Option R) : Nat → List (LS R) → List (LS R) → Prop
 | _, [], [] => True
 | n, L' :: l', L :: l => (∃ f', L' = ⟨L.keep, L.live, L.ob, f'⟩ ∧ ∀ x, f' x = φ n L x) ∧ allS φ (n + 1) l' l
 | _, _, _ => False
theorem allS_at {R : Type} {φ : Nat → (L : LS R) → (DenV (L.live.map (·.2)) × DenO L.ob) → Option R} : ∀ {l' l : List (LS R)} {m n : Nat} {L' : LS R}, allS φ m l' l → l'[n]? = some L' → ∃ L f', l[n]? = some L ∧ L' = ⟨L.keep, L.live, L.ob, f'⟩ ∧ ∀ x, f' x = φ (m + n) L x
 | [], _, m, n, L', _, h => by simp at h
 | L0 :: l', [], m, n, L', hk, h => hk.elim
 | L0 :: l', L1 :: l, m, 0, L', hk, h => by
  simp only [List.getElem?_cons_zero, Option.some.injEq] at h
  subst h
  obtain ⟨⟨f', h1, h2⟩, _⟩ := hk
  exact ⟨L1, f', rfl, h1, h2⟩
 | L0 :: l', L1 :: l, m, n + 1, L', hk, h => by
  simp only [List.getElem?_cons_succ] at h
  obtain ⟨L, f', h1, h2, h3⟩ := allS_at hk.2 h
  exact ⟨L, f', h1, h2, fun x => by rw [h3]; congr 1; omega⟩
theorem EntsOK.nil {P : Program} : EntsOK P [] := fun f cl s h => by cases h
theorem EntsOK.cons {P : Program} {f : FuncId} {cl : List FuncId} {s : FS} {l : Ents} (h : Sound P f s) (hl : EntsOK P l) : EntsOK P ((⟨f, cl⟩, s) :: l) := by
 intro g c t ht
 simp only [find] at ht
 cases hb : Nat.beq f g && eqNs cl c with
 | true =>
  simp only [hb, cond_true, Option.some.injEq] at ht
  simp only [Bool.and_eq_true] at hb
  rw [← nb_eq hb.1, ← ht]; exact h
 | false =>
  simp only [hb, cond_false] at ht
  exact hl g c t ht
theorem sound_of {P : Program} {tab : Tab} (hm : P.follows .mixedOrders = true) (hT : TabOK P tab) {f : FuncId} {fn : Func} {c : Code} (hf : P.funcs[f]? = some fn) (hb : fn.body = some c) (hname : (fn.name == "runtime.NumGoroutine") = false) (S : ShapeParts) (hw : wfC fn.ntmps c = true) (ht : S.tup = !(Nat.beq fn.results.size 1))
  (pf : Nat → DenV S.ins × DenO S.io → Option (DenV S.outs × DenO S.oo)) (Ef : Nat → Ents) (hE : ∀ k, EntsOK P (Ef k)) (LSf : Nat → List (LS (DenV S.outs × DenO S.oo)))
  (hk : ∀ k, allK S.keep (LSf k)) (h0 : all0 (LSf 0)) (hS : ∀ k, allS (roundOf tab (Ef k) (LSf k) c (fin tab fn (S.fs (pf k)))) 0 (LSf (k + 1)) (LSf k))
  (hF : ∀ k x, pf k x = execF tab (Ef k) fn c (S.fs (pf k)) (LSf k) x) : ∀ k, Sound P f (S.fs (pf k)) :=
 fun_sound hT hf hb hname S hw ht hE (fun k B => draw_ok hm hT (hE k)) (fun k n L h j hj => by rw [allK_at (hk k) h]; exact hj) (fun n L h x => all0_at h0 h x)
  (fun k n L' h => by
   obtain ⟨L, f', h1, h2, h3⟩ := allS_at (hS k) h
   exact ⟨L, f', h1, h2, fun x => by have := h3 x; rwa [Nat.zero_add] at this⟩) hF
theorem tab_ok : TabOK Tryz.prog tab := tab_of (by kernel_rfl)
theorem mixed : Tryz.prog.follows .mixedOrders = true := by kernel_rfl
theorem snd {f : FuncId} {fn : Func} {c : Code} (S : ShapeParts) (pf : Nat → DenV S.ins × DenO S.io → Option (DenV S.outs × DenO S.oo)) (Ef : Nat → Ents) (hE : ∀ k, EntsOK Tryz.prog (Ef k)) (LSf : Nat → List (LS (DenV S.outs × DenO S.oo)))
  (hS : ∀ k, allS (roundOf tab (Ef k) (LSf k) c (fin tab fn (S.fs (pf k)))) 0 (LSf (k + 1)) (LSf k)) (hF : ∀ k x, pf k x = execF tab (Ef k) fn c (S.fs (pf k)) (LSf k) x)
  (hf : Tryz.prog.funcs[f]? = some fn := by kernel_rfl) (hb : fn.body = some c := by kernel_rfl) (hname : (fn.name == "runtime.NumGoroutine") = false := by kernel_rfl) (hw : wfC fn.ntmps c = true := by kernel_rfl) (ht : S.tup = !(Nat.beq fn.results.size 1) := by kernel_rfl)
  (hk : ∀ k, allK S.keep (LSf k) := by intro k; repeat (first | exact trivial | refine ⟨rfl, ?_⟩)) (h0 : all0 (LSf 0) := by repeat (first | exact trivial | refine ⟨fun _ => rfl, ?_⟩)) : ∀ k, Sound Tryz.prog f (S.fs (pf k)) :=
 sound_of mixed tab_ok hf hb hname S hw ht pf Ef hE LSf hk h0 hS hF
section
variable {P : Program} {tab : Tab} {E : Ents} {B : Base} {R : Type} {r : R}
theorem piece (hm : P.follows .mixedOrders = true) (hT : TabOK P tab) (hE : EntsOK P E) {c : Code} {g : Gh} {env : Env} {H : Heap} {a : Act} {w : World} {K : Ex → Env → Heap → Option R} {Q : Exit → Act → World → Prop}
  (hw : wfC B.n c = true) (h0 : nloops c = 0) (hK : KQ B r K Q) (Rl : Rel B g env H a w) (h : exec tab E [] c 0 env H K = some r) : c.wp P Q a w :=
 exec_sound (LS_ := []) (k := 0) hT hE (draw_ok hm hT hE) (fun n L h => by simp at h) c 0 K Q g env H a w hw hK (fun n h1 h2 => by omega) Rl h
/-- One operation that compares a slice with nil. -/
theorem nil_op {o : Oper} {t e ty : TypeId} {s d : Nat} {w : World} {a : Act} {N : Act → World → Prop} {Q : Exit → Act → World → Prop} {A : Option Addr} {n c : Nat} (hop : o.op = .binOp .eql t (.tmp s) (.const (.slice none 0 0)) ty) (hd : o.dst = some d) (hu : P.underlying t = some (.slice e))
  (hs : a.tmps.getD s undef = .slice A n c) (hN : N (a.put (some d) (.bool A.isNone)) w) : o.wp P a w N Q := by
 have hev : a.eval (.tmp s) = .slice A n c := by
  rw [← hs]; rfl
 have h2 : (execOp a.eval o).run P w = .ok (.value (.bool A.isNone)) w := by
  unfold execOp
  simp only [hop, hev]
  have h3 : a.eval (.const (.slice none 0 0)) = .slice none 0 0 := rfl
  rw [h3]
  have h4 := Lib.run_eql_slice_nil (P := P) w t e A n c 0 0 hu
  simp [eqGuard, h4]
 unfold Oper.wp
 rw [h2]
 show N (a.put o.dst (.bool A.isNone)) w
 rw [hd]
 exact hN
abbrev CloneR := (DenV [⟨false, [.own 100]⟩] × DenO [(100, .row true (.int .i64))])
def cloneF (a : List Int) : Option CloneR := bif decide ((0 + a.length) * 8 ≤ 140737488355328) then some ((((), ()), ()), (a, ())) else none
def cloneS : FS := ⟨[⟨false, [.lst (.int .i64)]⟩], [], false, [⟨false, [.own 100]⟩], [(100, .row true (.int .i64))], [], fun x => cloneF x.1.1.1⟩
abbrev lstV (xs : List Int) : V := .val false [.lst (.int .i64) xs]
theorem clone_sound (hm : P.follows .mixedOrders = true) (hT : TabOK P tab) {f : FuncId} {fn : Func} (hf : P.funcs[f]? = some fn) (hname : (fn.name == "runtime.NumGoroutine") = false) {o0 o1 : Oper} {Z0 Z2 Z3 : Array Oper} {i0 i1 i2 i3 : Nat} {t e ty : TypeId}
  (hb : fn.body = some (.seq (.region i0 Z0 false) (.seq (.seq (.region i1 #[o0, o1] false) (.cond (.tmp 4) (.seq (.region i2 Z2 false) .ret) .skip)) (.seq (.region i3 Z3 false) .ret))))
  (ht : cloneS.tup = !(Nat.beq fn.results.size 1)) (hn : fn.ntmps = 8) (hw0 : wfC 8 (.region i0 Z0 false) = true) (hw2 : wfC 8 (.region i2 Z2 false) = true) (hw3 : wfC 8 (.region i3 Z3 false) = true)
  (hd0 : o0.dst = some 3) (hg0 : o0.guard = none) (hd1 : o1.dst = some 4) (hg1 : o1.guard = none) (hop : o1.op = .binOp .eql t (.tmp 3) (.const (.slice none 0 0)) ty) (hu : P.underlying t = some (.slice e))
  (m0 : ∀ (xs : List Int) (K : Ex → Env → Heap → Option (Ex × Env × Heap)), exec tab [] [] (.region i0 Z0 false) 0 [(0, lstV xs)] [] K = K .normal [(2, .val false [.nil]), (0, lstV xs)] [])
  (m1 : ∀ (xs : List Int) (K : V → Heap → Option (V × Heap)), stepK tab [] [] o0 (ev [(2, .val false [.nil]), (0, lstV xs)]) K = K (lstV xs) [])
  (m2 : ∀ (xs : List Int) (K : Ex → Env → Heap → Option CloneR), exec tab [] [] (.seq (.region i2 Z2 false) .ret) 0 [(4, .val false [.bool true]), (3, lstV xs), (2, .val false [.nil]), (0, lstV xs)] [] K = K .ret [(2, .val false [.nil]), (4, .val false [.bool true]), (3, lstV xs), (2, .val false [.nil]), (0, lstV xs)] [])
  (m4 : ∀ (xs : List Int), fin tab fn cloneS .ret [(2, .val false [.nil]), (4, .val false [.bool true]), (3, lstV xs), (2, .val false [.nil]), (0, lstV xs)] [] = some ((((), ()), ()), (([] : List Int), ())))
  (m3 : ∀ (xs : List Int), exec tab [] [] (.seq (.region i3 Z3 false) .ret) 0 [(4, .val false [.bool false]), (3, lstV xs), (2, .val false [.nil]), (0, lstV xs)] [] (fin tab fn cloneS) = cloneF xs) : Sound P f cloneS := by
 refine ⟨⟨fn, hf, hname, by simp [hb]⟩, fun x y hy g w args hG hA => ?_⟩
 obtain ⟨⟨⟨xs, ⟨⟩⟩, ⟨⟩⟩, ⟨⟩⟩ := x
 have hy' : cloneF xs = some y := hy
 have hA0 := hA
 obtain ⟨v, vs, hargs, hv, hvs⟩ := hA
 have hvs' : vs = [] := hvs
 subst hvs'
 have hv' : RCs g [] w [.lst (.int .i64) xs] [v] := hv
 obtain ⟨v', vs', e1, hv1, hv2⟩ := hv'
 obtain ⟨e3, e4⟩ : v' = v ∧ vs' = [] := by simpa using e1.symm
 subst e3; subst e4
 obtain ⟨A, cp, e2, hcp, hel⟩ := hv1.2
 have hargs' : args = #[v'] := Array.toList_inj.1 (by simpa using hargs)
 subst hargs'
 refine calls_of_wp hf hb ?_
 have hsz : (#[v'] ++ Array.replicate (fn.ntmps - (#[v'] : Array Value).size) undef).size = 8 := by simp [hn]
 have Re : Rel ⟨w, g, [], 8, []⟩ g [(0, lstV xs)] [] { tmps := #[v'] ++ Array.replicate (fn.ntmps - (#[v'] : Array Value).size) undef, defers := [] } w :=
  { toRelG := hG, env := fun s u hs => envIn_rv (f := fun s => (#[v'] ++ Array.replicate (fn.ntmps - (#[v'] : Array Value).size) undef).getD s undef) (vs := [(false, [.lst (.int .i64) xs])]) hA0 (fun j v hj => by
          have hlt := (List.getElem?_eq_some_iff.1 hj).1
          rw [Array.length_toList] at hlt
          rw [Nat.zero_add, Array.getD_eq_getD_getElem?, Array.getElem?_append_left hlt, ← Array.getElem?_toList, hj]; rfl) s u hs,
        sz := hsz, df := rfl, fr := Ext.refl _ w, owB := fun b o h => .inl (by show g.ow b ≠ none; rw [h]; simp), FB := fun b h => .inl h, BF := fun b h => h, bs := fun b cur e fr h => ⟨cur, fr, h, rfl⟩,
        kp := fun j _ _ ob t n h1 h2 => ⟨ob, h1, h2, rfl⟩, kd := fun j ob _ h => ⟨ob, h, rfl, fun _ => rfl⟩ }
 have hK : KQ ⟨w, g, [], 8, []⟩ y (fin tab fn cloneS) (bodyPost P fn fun | .returned v, w' => ∃ g', Out cloneS (((xs, ()), ()), ()) y g w g' w' v | _, _ => False) := fin_sound (P := P) (s := cloneS) (x := (((xs, ()), ()), ())) hT ht
 generalize ({ tmps := #[v'] ++ Array.replicate (fn.ntmps - (#[v'] : Array Value).size) undef, defers := [] } : Act) = a at Re ⊢
 generalize (bodyPost P fn fun | .returned v, w' => ∃ g', Out cloneS (((xs, ()), ()), ()) y g w g' w' v | _, _ => False) = Q at hK ⊢
 refine wp_seq (piece hm hT EntsOK.nil hw0 rfl (K := fun x env H => some (x, env, H)) (r := (.normal, [(2, .val false [.nil]), (0, lstV xs)], [])) ?_ Re (m0 xs _))
 intro x1 g1 env1 H1 a1 w1 R1 h1
 simp only [Option.some.injEq, Prod.mk.injEq] at h1
 obtain ⟨rfl, rfl, rfl⟩ := h1
 refine wp_seq (wp_seq (wp_region ?_))
 show wpOps P #[o0, o1] _ [0, 1] a1 w1
 have hw1 : Region.wanted o0 (yielded #[o0, o1] a1.tmps) = true := by simp [Region.wanted, hg0]
 simp only [wpOps]
 rw [show (#[o0, o1] : Array Oper)[0]? = some o0 from rfl]
 simp only [hw1, if_true]
 have hlt0 : ∀ d, o0.dst = some d → d < 8 := fun d h => by rw [← Option.some.inj (hd0.symm.trans h)]; exact (by decide : 3 < 8)
 refine .inl (stepK_sound hT EntsOK.nil R1 (fun d h => hlt0 d h) (m1 xs (fun v e => some (v, e))) fun v e g2 cv w2 R2 h2 => ?_)
 simp only [Option.some.injEq, Prod.mk.injEq] at h2
 obtain ⟨rfl, rfl⟩ := h2
 rw [hd0] at R2 ⊢
 simp only [setD, hd0, List.nil_append] at R2
 have hw2' : Region.wanted o1 (yielded #[o0, o1] (a1.put (some 3) cv).tmps) = true := by simp [Region.wanted, hg1]
 rw [show (#[o0, o1] : Array Oper)[1]? = some o1 from rfl]
 simp only [hw2', if_true]
 obtain ⟨A2, c2, e5, _, hel2⟩ := (rv_one (c := .lst (.int .i64) xs) rfl (R2.env 3 _ rfl)).2
 have e5' := (List.cons.inj e5).1
 have hd1' : ∀ d, o1.dst = some d → d < 8 := fun d h => by rw [← Option.some.inj (hd1.symm.trans h)]; exact (by decide : 4 < 8)
 have R3 : Rel ⟨w, g, [], 8, []⟩ g2 (setD o1 (.val false [.bool A2.isNone]) [(3, lstV xs), (2, .val false [.nil]), (0, lstV xs)]) [] ((a1.put (some 3) cv).put o1.dst (.bool A2.isNone)) w2 :=
  R2.put hd1' ⟨_, [], rfl, ⟨rfl, rfl⟩, rfl⟩
 rw [hd1] at R3
 simp only [setD, hd1] at R3
 refine .inl (nil_op (Q := _) hop hd1 hu e5' ?_)
 generalize ((a1.put (some 3) cv).put (some 4) (.bool A2.isNone)) = a3 at R3 ⊢
 show (Code.cond (.tmp 4) _ .skip).wp P _ a3 w2
 have hc := rc_bool (rv_one (c := .bool A2.isNone) rfl (R3.env 4 _ rfl))
 cases A2 with
 | none =>
  have hx : xs = ([] : List Int) := by
   by_cases h : xs = ([] : List Int)
   ·exact h
   ·obtain ⟨_, _, _, h', _⟩ := hel2 h
    cases h'
  subst hx
  refine wp_cond_true hc ?_
  have hy2 : y = ((((), ()), ()), (([] : List Int), ())) := by
   have : cloneF [] = some ((((), ()), ()), (([] : List Int), ())) := rfl
   rw [this] at hy'
   exact (Option.some.inj hy').symm
  refine piece hm hT EntsOK.nil (K := fun x env H => match x with | .normal => none | x => fin tab fn cloneS x env H) (r := y) (by simp only [wfC, Bool.and_true]; exact hw2) rfl (fun x g env H a w R h => ?_) R3 ?_
  ·cases x with
   | normal => cases h
   | ret => exact hK .ret g env H a w R h
   | exit id => exact hK (.exit id) g env H a w R h
  ·exact (m2 _ _).trans ((m4 _).trans (congrArg some hy2.symm))
 | some A2 =>
  refine wp_cond_false hc (wp_skip ?_)
  refine piece hm hT EntsOK.nil (K := fin tab fn cloneS) (r := y) (by simp only [wfC, Bool.and_true]; exact hw3) rfl hK R3 ?_
  exact (m3 xs).trans hy'
end
abbrev slices_Clone_int64_int64.R := CloneR
abbrev slices_Clone_int64_int64.f (_k : Nat) (a : List Int) : Option slices_Clone_int64_int64.R := cloneF a
abbrev slices_Clone_int64_int64.s (_k : Nat) : FS := cloneS
noncomputable def cat1 : Code → Code
 | .seq a _ => a
 | c => c
noncomputable def cat2 : Code → Code
 | .seq _ a => a
 | c => c
noncomputable def opsOf : Code → Array Oper
 | .region _ o _ => o
 | _ => #[]
noncomputable def thenOf : Code → Code
 | .cond _ a _ => a
 | c => c
noncomputable def cloneC : Code := Tryz.f84.body.getD .skip
noncomputable def cloneR1 : Array Oper := opsOf (cat1 (cat1 (cat2 cloneC)))
noncomputable def cloneO0 : Oper := (cloneR1.toList[0]?).getD default
noncomputable def cloneO1 : Oper := (cloneR1.toList[1]?).getD default
noncomputable def cloneT : TypeId := match cloneO1.op with
 | .binOp _ t _ _ _ => t
 | _ => 0
noncomputable def cloneE : TypeId := match Tryz.prog.underlying cloneT with
 | some (.slice e) => e
 | _ => 0
theorem slices_Clone_int64_int64.sound (k : Nat) : Sound Tryz.prog 84 (slices_Clone_int64_int64.s k) :=
 clone_sound mixed tab_ok (f := 84) (fn := Tryz.f84) (by kernel_rfl) (by kernel_rfl) (o0 := cloneO0) (o1 := cloneO1) (Z0 := opsOf (cat1 cloneC)) (Z2 := opsOf (cat1 (thenOf (cat2 (cat1 (cat2 cloneC)))))) (Z3 := opsOf (cat1 (cat2 (cat2 cloneC))))
  (i0 := 0) (i1 := 1) (i2 := 2) (i3 := 3) (t := cloneT) (e := cloneE) (ty := cloneT)
  (by kernel_rfl) (by kernel_rfl) (by kernel_rfl) (by kernel_rfl) (by kernel_rfl) (by kernel_rfl) (by kernel_rfl) (by kernel_rfl) (by kernel_rfl) (by kernel_rfl) (by kernel_rfl) (by kernel_rfl)
  (by intro xs K; kernel_rfl) (by intro xs K; kernel_rfl) (by intro xs K; kernel_rfl) (by intro xs; kernel_rfl) (by intro xs; kernel_rfl)
theorem LX.lt {F : Nat → Prop} {w : World} (h : LX F w) : LT w := by
 obtain ⟨l, h1, h2⟩ := h
 exact h1 w fun x hx => (h2 x hx).2
/-- A world with more in it. -/
def Grown (w w' : World) : Prop := Ext (fun _ => False) w w'
theorem Grown.heap {w w' : World} (h : Grown w w') {b : Nat} (hb : b < w.heap.size) : w'.heap[b]? = w.heap[b]? := h.block b hb fun h => h
theorem Grown.ext {w w' : World} (h : Grown w w') (own : Nat → Prop) : Ext own w w' := ⟨h.os, h.tape, h.output, h.size, fun b hb _ => h.heap hb⟩
theorem Grown.bs {w w' : World} (h : Grown w w') (b : Nat) (cur : Array Value) (e : TypeId) (fr : Nat × Nat) (hb : w.heap[b]? = some (Go.Obj.cells cur e fr)) : ∃ (cur' : Array Value) (fr' : Nat × Nat), w'.heap[b]? = some (Go.Obj.cells cur' e fr') ∧ cur'.size = cur.size :=
 ⟨cur, fr, (h.heap (Array.getElem?_eq_some_iff.1 hb).1).trans hb, rfl⟩
theorem args1 {g : Gh} {H : Heap} {w : World} {c : C} {l : List (Bool × List C)} {vs : List Value} (h : RVals g H w ((false, [c]) :: l) vs) : ∃ u us, vs = u :: us ∧ RC g H w c u ∧ RVals g H w l us := by
 obtain ⟨u, us, e, h1, h2⟩ := h
 have h1' : RCs g H w [c] [u] := h1
 obtain ⟨q, qs, f1, r1, _⟩ := h1'
 obtain ⟨rfl, _⟩ : q = u ∧ qs = [] := by simpa using f1.symm
 exact ⟨q, us, e, r1, h2⟩
/-- A text comes back. -/
def strS (ins : List VS) (F : DenV ins → Option ByteArray) : FS := ⟨ins, [], false, [⟨false, [.str]⟩], [], [], fun x => (F x.1).map fun s => (((s, ()), ()), ())⟩
theorem str_sound {P : Program} {f : FuncId} (hc : Callable P f) {ins : List VS} {F : DenV ins → Option ByteArray}
  (h : ∀ x s, F x = some s → ∀ (g : Gh) (w : World) (args : Array Value), LT w → RVals g [] w (instV ins x) args.toList → Calls P f args w fun e w' => e = .returned (.string s) ∧ Grown w w') : Sound P f (strS ins F) := by
 refine ⟨hc, fun x y hy g w args hG hA => ?_⟩
 obtain ⟨s, hs, rfl⟩ := Option.map_eq_some_iff.1 (show (F x.1).map (fun s => (((s, ()), ()), ())) = some y from hy)
 refine (h x.1 s hs g w args hG.lx.lt hA).mono fun e w' he => ?_
 obtain ⟨rfl, hgr⟩ := he
 refine ⟨⟨fun _ => none, fun _ => none, g.F⟩, ?_⟩
 exact {
  rel := ⟨fun o ob ho => (by cases ho), fun b o (ho : none = some o) => (by cases ho), fun b hb => Nat.lt_of_lt_of_le (hG.F b hb) hgr.size, hG.lx.mono fun b hb => ⟨hb, hgr.heap (hG.F b hb)⟩⟩,
  val := ⟨_, [], rfl, ⟨rfl, rfl⟩, rfl⟩,
  ext := hgr.ext _, ow := fun b o (ho : none = some o) => (by cases ho), F := fun b hb => .inl hb, Fg := fun b hb => hb, bs := hgr.bs, kp := fun j hj => (by cases hj), kd := fun j ob _ ho => (by cases ho) }
/-- A row of texts comes back. -/
def rowS (ins : List VS) (F : DenV ins → Option (List ByteArray)) : FS := ⟨ins, [], false, [⟨false, [.own 100]⟩], [(100, .row true .str)], [], fun x => (F x.1).map fun s => ((((), ()), ()), (s, ()))⟩
theorem efs_str {d : Bool} {F : Nat → Prop} {w : World} : ∀ l : List ByteArray, EFs (El d F w .str) 1 l (l.map Value.string) []
 | [] => ⟨rfl, rfl⟩
 | s :: l => ⟨[.string s], l.map Value.string, [], [], rfl, rfl, rfl, by unfold El; cases d <;> exact ⟨rfl, rfl⟩, efs_str l⟩
theorem row_sound {P : Program} {f : FuncId} (hc : Callable P f) {ins : List VS} {F : DenV ins → Option (List ByteArray)} {ty : TypeId}
  (h : ∀ x l, F x = some l → ∀ (g : Gh) (w : World) (args : Array Value), LT w → RVals g [] w (instV ins x) args.toList → Calls P f args w fun e w' => e = .returned (.slice (some ⟨w.heap.size, 0, none⟩) l.length l.length) ∧ w' = w.alloc (.cells (l.map Value.string).toArray ty)) : Sound P f (rowS ins F) := by
 refine ⟨hc, fun x y hy g w args hG hA => ?_⟩
 obtain ⟨l, hl, rfl⟩ := Option.map_eq_some_iff.1 (show (F x.1).map (fun s => ((((), ()), ()), (s, ()))) = some y from hy)
 refine (h x.1 l hl g w args hG.lx.lt hA).mono fun e w' he => ?_
 obtain ⟨rfl, rfl⟩ := he
 have hgr : Grown w (w.alloc (.cells (l.map Value.string).toArray ty)) := alloc_ext _ w _
 have hsz : w.heap.size < (w.alloc (.cells (l.map Value.string).toArray ty)).heap.size := by simp
 have hat : ∀ o ob, Heap.at [(100, some (Obj.row true .str 0 l))] o = some ob → o = 100 ∧ ob = .row true .str 0 l := fun o ob ho => by
  rw [at_cons] at ho
  split at ho
  ·rename_i e; exact ⟨e.symm, (Option.some.inj ho).symm⟩
  ·cases ho
 let g' : Gh := ⟨fun j => if j = 100 then some (w.heap.size, 0) else none, fun b => if b = w.heap.size then some 100 else none, g.F⟩
 have hro : RO g' [(100, some (Obj.row true .str 0 l))] (w.alloc (.cells (l.map Value.string).toArray ty)) 100 (.row true .str 0 l) := by
  simp only [RO, g', if_true]
  exact ⟨_, ty, [], l.map Value.string, [], [], trivial, heap_alloc_new w _, by simp, by simp, efs_str l, by simp, fun b hb => by cases hb⟩
 refine ⟨g', ?_⟩
 exact {
  rel := ⟨fun o ob ho => (by obtain ⟨rfl, rfl⟩ := hat o ob ho; exact hro), fun b o ho => (by
   simp only [g'] at ho
   split at ho
   ·rename_i e; subst e; exact ⟨fun hF => by have := hG.F _ hF; omega, hsz⟩
   ·cases ho), fun b hb => Nat.lt_of_lt_of_le (hG.F b hb) hgr.size, hG.lx.mono fun b hb => ⟨hb, hgr.heap (hG.F b hb)⟩⟩,
  val := rv_mk (c := .own 100 0 0) ⟨rfl, (known_cons 100 _ _ 100).2 (.inl rfl), fun ob t' e' n h1 h2 => Nat.zero_le _, fun ob t' n h1 h2 => (by
   obtain ⟨_, rfl⟩ := hat _ _ h1
   obtain ⟨rfl, _, rfl⟩ := h2
   simp only [OwnRef, g', if_true]
   exact ⟨some ⟨w.heap.size, 0, none⟩, l.length, _, ty, (0, 0), (by simp; rfl), Nat.zero_le _, Nat.le_refl _, heap_alloc_new w _, by simp [T.sz], fun _ => by simp⟩)⟩,
  ext := hgr.ext _,
  ow := fun b o ho => (by
   simp only [g'] at ho
   split at ho
   ·rename_i e; subst e; exact .inr (Nat.le_refl _)
   ·cases ho),
  F := fun b hb => .inl hb, Fg := fun b hb => hb, bs := hgr.bs, kp := fun j hj => (by cases hj), kd := fun j ob hj ho => (by obtain ⟨rfl, _⟩ := hat j ob ho; omega) }
end
end Go.Proofs.YtebgkcjpocfmmaaGreatDoor.V
namespace Go.Proofs
open Go.Shelf
def Tryz.lays173_ren : Go.Shelf.Ren := ⟨fun | 173 => 146 | 246 => 154 | 283 => 165 | 284 => 166 | 285 => 167 | 286 => 168 | 129 => 181 | 317 => 180 | 318 => 182 | 319 => 183 | 320 => 184 | 337 => 190 | 338 => 191 | n => n, fun | 2 => 2 | 3 => 3 | 9 => 9 | 4 => 4 | 171 => 162 | 0 => 0 | 53 => 163 | 37 => 144 | 5 => 5 | 173 => 166 | 212 => 173 | 51 => 174 | 20 => 20 | 213 => 175 | 46 => 156 | 232 => 183 | 233 => 184 | n => n, fun | 17 => 0 | 18 => 2 | 19 => 3 | n => n⟩
theorem Tryz.lays173 : Go.Proofs.LaysM.n173 Tryz.prog Tryz.lays173_ren := {
  mixed := by kernel_rfl
  f129 := Tryz.func181.trans (congrArg some (by kernel_rfl))
  f173 := Tryz.func146.trans (congrArg some (by kernel_rfl))
  f246 := Tryz.func154.trans (congrArg some (by kernel_rfl))
  f283 := Tryz.func165.trans (congrArg some (by kernel_rfl))
  f284 := Tryz.func166.trans (congrArg some (by kernel_rfl))
  f285 := Tryz.func167.trans (congrArg some (by kernel_rfl))
  f286 := Tryz.func168.trans (congrArg some (by kernel_rfl))
  f317 := Tryz.func180.trans (congrArg some (by kernel_rfl))
  f318 := Tryz.func182.trans (congrArg some (by kernel_rfl))
  f319 := Tryz.func183.trans (congrArg some (by kernel_rfl))
  f320 := Tryz.func184.trans (congrArg some (by kernel_rfl))
  f337 := Tryz.func190.trans (congrArg some (by kernel_rfl))
  f338 := Tryz.func191.trans (congrArg some (by kernel_rfl))
  t0 := Tryz.underlying0
  a0 := Tryz.isAgg0
  z0 := Tryz.sizeOf0
  v0 := Tryz.zeroValue0
  t2 := Tryz.underlying2
  a2 := Tryz.isAgg2
  z2 := Tryz.sizeOf2
  v2 := Tryz.zeroValue2
  t3 := Tryz.underlying3
  a3 := Tryz.isAgg3
  z3 := Tryz.sizeOf3
  v3 := Tryz.zeroValue3
  t4 := Tryz.underlying4
  a4 := Tryz.isAgg4
  z4 := Tryz.sizeOf4
  v4 := Tryz.zeroValue4
  t5 := Tryz.underlying5
  a5 := Tryz.isAgg5
  z5 := Tryz.sizeOf5
  v5 := Tryz.zeroValue5
  t9 := Tryz.underlying9
  a9 := Tryz.isAgg9
  z9 := Tryz.sizeOf9
  v9 := Tryz.zeroValue9
  t20 := Tryz.underlying20
  a20 := Tryz.isAgg20
  z20 := Tryz.sizeOf20
  v20 := Tryz.zeroValue20
  t37 := Tryz.underlying144
  a37 := Tryz.isAgg144
  z37 := Tryz.sizeOf144
  v37 := Tryz.zeroValue144
  t46 := Tryz.underlying156
  a46 := Tryz.isAgg156
  z46 := Tryz.sizeOf156
  v46 := Tryz.zeroValue156
  t51 := Tryz.underlying174
  a51 := Tryz.isAgg174
  z51 := Tryz.sizeOf174
  v51 := Tryz.zeroValue174
  t53 := Tryz.underlying163
  a53 := Tryz.isAgg163
  z53 := Tryz.sizeOf163
  v53 := Tryz.zeroValue163
  t171 := Tryz.underlying162
  a171 := Tryz.isAgg162
  z171 := Tryz.sizeOf162
  v171 := Tryz.zeroValue162
  t173 := Tryz.underlying166
  a173 := Tryz.isAgg166
  z173 := Tryz.sizeOf166
  v173 := Tryz.zeroValue166
  t212 := Tryz.underlying173
  a212 := Tryz.isAgg173
  z212 := Tryz.sizeOf173
  v212 := Tryz.zeroValue173
  t213 := Tryz.underlying175
  a213 := Tryz.isAgg175
  z213 := Tryz.sizeOf175
  t232 := Tryz.underlying183
  a232 := Tryz.isAgg183
  z232 := Tryz.sizeOf183
  v232 := Tryz.zeroValue183
  t233 := Tryz.underlying184
  a233 := Tryz.isAgg184
  z233 := Tryz.sizeOf184
  v233 := Tryz.zeroValue184
  g17 := by kernel_rfl
  g18 := by kernel_rfl
  g19 := by kernel_rfl
  i0 := by kernel_rfl
  i2 := by kernel_rfl
  i3 := by kernel_rfl
  i4 := by kernel_rfl
  i5 := by kernel_rfl
  i9 := by kernel_rfl
  i20 := by kernel_rfl
  i37 := by kernel_rfl
  i46 := by kernel_rfl
  i51 := by kernel_rfl
  i53 := by kernel_rfl
  i171 := by kernel_rfl
  i173 := by kernel_rfl
  i212 := by kernel_rfl
  i232 := by kernel_rfl
  i233 := by kernel_rfl
  m17 := by kernel_rfl
  m18 := by kernel_rfl
  m19 := by kernel_rfl}
def Tryz.lays146_ren : Go.Shelf.Ren := ⟨fun | 146 => 147 | 221 => 155 | 268 => 169 | 138 => 170 | 143 => 171 | 195 => 185 | 197 => 186 | 218 => 187 | 219 => 188 | 260 => 192 | 217 => 193 | 225 => 194 | 224 => 195 | 267 => 196 | 266 => 197 | 314 => 198 | n => n, fun | 9 => 9 | 31 => 121 | 3 => 3 | 4 => 4 | 0 => 0 | 105 => 179 | 21 => 21 | 5 => 5 | 46 => 156 | 119 => 185 | 139 => 188 | 138 => 187 | 146 => 189 | 51 => 174 | n => n, fun | 1 => 1 | 3 => 4 | 4 => 5 | n => n⟩
theorem Tryz.lays146 : Go.Proofs.LaysM.n146 Tryz.prog Tryz.lays146_ren := {
  mixed := by kernel_rfl
  f138 := Tryz.func170.trans (congrArg some (by kernel_rfl))
  f143 := Tryz.func171.trans (congrArg some (by kernel_rfl))
  f146 := Tryz.func147.trans (congrArg some (by kernel_rfl))
  f195 := Tryz.func185.trans (congrArg some (by kernel_rfl))
  f197 := Tryz.func186.trans (congrArg some (by kernel_rfl))
  f217 := Tryz.func193.trans (congrArg some (by kernel_rfl))
  f218 := Tryz.func187.trans (congrArg some (by kernel_rfl))
  f219 := Tryz.func188.trans (congrArg some (by kernel_rfl))
  f221 := Tryz.func155.trans (congrArg some (by kernel_rfl))
  f224 := Tryz.func195.trans (congrArg some (by kernel_rfl))
  f225 := Tryz.func194.trans (congrArg some (by kernel_rfl))
  f260 := Tryz.func192.trans (congrArg some (by kernel_rfl))
  f266 := Tryz.func197.trans (congrArg some (by kernel_rfl))
  f267 := Tryz.func196.trans (congrArg some (by kernel_rfl))
  f268 := Tryz.func169.trans (congrArg some (by kernel_rfl))
  f314 := Tryz.func198.trans (congrArg some (by kernel_rfl))
  t0 := Tryz.underlying0
  a0 := Tryz.isAgg0
  z0 := Tryz.sizeOf0
  v0 := Tryz.zeroValue0
  t3 := Tryz.underlying3
  a3 := Tryz.isAgg3
  z3 := Tryz.sizeOf3
  v3 := Tryz.zeroValue3
  t4 := Tryz.underlying4
  a4 := Tryz.isAgg4
  z4 := Tryz.sizeOf4
  v4 := Tryz.zeroValue4
  t5 := Tryz.underlying5
  a5 := Tryz.isAgg5
  z5 := Tryz.sizeOf5
  v5 := Tryz.zeroValue5
  t9 := Tryz.underlying9
  a9 := Tryz.isAgg9
  z9 := Tryz.sizeOf9
  v9 := Tryz.zeroValue9
  t21 := Tryz.underlying21
  a21 := Tryz.isAgg21
  z21 := Tryz.sizeOf21
  v21 := Tryz.zeroValue21
  t31 := Tryz.underlying121
  a31 := Tryz.isAgg121
  z31 := Tryz.sizeOf121
  v31 := Tryz.zeroValue121
  t46 := Tryz.underlying156
  a46 := Tryz.isAgg156
  z46 := Tryz.sizeOf156
  v46 := Tryz.zeroValue156
  t51 := Tryz.underlying174
  a51 := Tryz.isAgg174
  z51 := Tryz.sizeOf174
  v51 := Tryz.zeroValue174
  t105 := Tryz.underlying179
  a105 := Tryz.isAgg179
  z105 := Tryz.sizeOf179
  v105 := Tryz.zeroValue179
  t119 := Tryz.underlying185
  a119 := Tryz.isAgg185
  z119 := Tryz.sizeOf185
  t138 := Tryz.underlying187
  a138 := Tryz.isAgg187
  z138 := Tryz.sizeOf187
  v138 := Tryz.zeroValue187
  t139 := Tryz.underlying188
  a139 := Tryz.isAgg188
  z139 := Tryz.sizeOf188
  v139 := Tryz.zeroValue188
  t146 := Tryz.underlying189
  a146 := Tryz.isAgg189
  z146 := Tryz.sizeOf189
  v146 := Tryz.zeroValue189
  g1 := by kernel_rfl
  g3 := by kernel_rfl
  g4 := by kernel_rfl
  i0 := by kernel_rfl
  i3 := by kernel_rfl
  i4 := by kernel_rfl
  i5 := by kernel_rfl
  i9 := by kernel_rfl
  i21 := by kernel_rfl
  i31 := by kernel_rfl
  i46 := by kernel_rfl
  i51 := by kernel_rfl
  i105 := by kernel_rfl
  i138 := by kernel_rfl
  i139 := by kernel_rfl
  i146 := by kernel_rfl
  m1 := by kernel_rfl
  s1_3 := fun w h => Go.Proofs.cell_of_shapedOpen_int (zero := #[.int .i64 0]) (t := 3) h (of_decide_eq_true (by kernel_rfl)) (by kernel_rfl) rfl (by kernel_rfl) (by kernel_rfl) Tryz.underlying3
  m3 := by kernel_rfl
  m4 := by kernel_rfl}
end Go.Proofs
namespace Go.Proofs.YtebgkcjpocfmmaaGreatDoor.V
open Go
set_option linter.unusedVariables false
set_option linter.unusedSimpArgs false
noncomputable section
def fmtF (n b : Int) : Option ByteArray := bif decide (b = 10) && (decide (-9223372036854775808 ≤ n) && decide (n ≤ 9223372036854775807)) then some ⟨(Lib.itoa n).toArray⟩ else none
theorem fmt_sound : Sound Tryz.prog 146 (strS [⟨false, [.int .i64]⟩, ⟨false, [.int .i64]⟩] fun x => fmtF x.1.1 x.2.1.1) := by
 refine str_sound ⟨_, Tryz.func146, by kernel_rfl, by kernel_rfl⟩ fun x s hs g w args hT hA => ?_
 obtain ⟨⟨(n : Int), ⟨⟩⟩, ⟨(b : Int), ⟨⟩⟩, ⟨⟩⟩ := x
 have hs' : (bif decide (b = 10) && (decide (-9223372036854775808 ≤ n) && decide (n ≤ 9223372036854775807)) then some (⟨(Lib.itoa n).toArray⟩ : ByteArray) else none) = some s := hs
 obtain ⟨h1, h2⟩ := bif_some hs'
 simp only [Bool.and_eq_true, decide_eq_true_eq] at h1
 obtain ⟨rfl, h3, h4⟩ := h1
 cases h2
 obtain ⟨u, us, e1, r1, hA1⟩ := args1 hA
 obtain ⟨v, vs, e2, r2, hA2⟩ := args1 hA1
 obtain rfl : vs = [] := hA2
 subst e2
 obtain rfl : u = .int .i64 n := r1.2
 obtain rfl : v = .int .i64 10 := r2.2
 have hargs : args = #[.int .i64 n, .int .i64 10] := Array.toList_inj.1 (by simpa using e1)
 subst hargs
 refine (Any.strconv_FormatInt_10 Tryz.lays173 n h3 h4 w hT.2).mono fun e w' he => ?_
 obtain ⟨rfl, k, os, rfl⟩ := he
 exact ⟨rfl, rfl, rfl, rfl, by simp [Sort.grow, World.drewN], fun b hb _ => by simp [Sort.grow, World.drewN, Array.getElem?_append_left hb]⟩
abbrev strconv_FormatInt.R := (((ByteArray × Unit) × Unit) × Unit)
def strconv_FormatInt.f (_k : Nat) (n b : Int) : Option strconv_FormatInt.R := (fmtF n b).map fun s => (((s, ()), ()), ())
def strconv_FormatInt.s (_k : Nat) : FS := ⟨[⟨false, [.int .i64]⟩, ⟨false, [.int .i64]⟩], [], false, [⟨false, [.str]⟩], [], [], fun x => strconv_FormatInt.f _k x.1.1.1 x.1.2.1.1⟩
theorem strconv_FormatInt.sound (k : Nat) : Sound Tryz.prog 146 (strconv_FormatInt.s k) := fmt_sound
def splitF (s sep : ByteArray) : Option (List ByteArray) := bif decide (s.size < 4294967281) && decide (1 ≤ sep.size) then some (Lib.splitB sep 0 (Lib.countB s sep) s) else none
theorem split_sound : Sound Tryz.prog 147 (rowS [⟨false, [.str]⟩, ⟨false, [.str]⟩] fun x => splitF x.1.1 x.2.1.1) := by
 refine row_sound ⟨_, Tryz.func147, by kernel_rfl, by kernel_rfl⟩ (ty := Tryz.lays146_ren.t 9) fun x l hs g w args hT hA => ?_
 obtain ⟨⟨(s : ByteArray), ⟨⟩⟩, ⟨(sep : ByteArray), ⟨⟩⟩, ⟨⟩⟩ := x
 have hs' : (bif decide (s.size < 4294967281) && decide (1 ≤ sep.size) then some (Lib.splitB sep 0 (Lib.countB s sep) s) else none) = some l := hs
 obtain ⟨h1, h2⟩ := bif_some hs'
 simp only [Bool.and_eq_true, decide_eq_true_eq] at h1
 cases h2
 obtain ⟨u, us, e1, r1, hA1⟩ := args1 hA
 obtain ⟨v, vs, e2, r2, hA2⟩ := args1 hA1
 obtain rfl : vs = [] := hA2
 subst e2
 obtain rfl : u = .string s := r1.2
 obtain rfl : v = .string sep := r2.2
 have hargs : args = #[.string s, .string sep] := Array.toList_inj.1 (by simpa using e1)
 subst hargs
 obtain ⟨m, hm⟩ := hT.1
 have hle := Lib.splitB_all sep h1.2 0 _ s rfl
 refine (Any.strings_Split { Tryz.lays146 with } (by kernel_rfl) s sep m w h1.1 hm h1.2).mono fun e w' he => ?_
 obtain ⟨rfl, rfl⟩ := he
 rw [hle]
 exact ⟨rfl, rfl⟩
abbrev strings_Split.R := (((Unit × Unit) × Unit) × ((List ByteArray) × Unit))
def strings_Split.f (_k : Nat) (s sep : ByteArray) : Option strings_Split.R := (splitF s sep).map fun l => ((((), ()), ()), (l, ()))
def strings_Split.s (_k : Nat) : FS := ⟨[⟨false, [.str]⟩, ⟨false, [.str]⟩], [], false, [⟨false, [.own 100]⟩], [(100, .row true .str)], [], fun x => strings_Split.f _k x.1.1.1 x.1.2.1.1⟩
theorem strings_Split.sound (k : Nat) : Sound Tryz.prog 147 (strings_Split.s k) := split_sound
namespace U0
abbrev R := (((Int × Unit) × Unit) × Unit)
def f (k : Nat) (a0 : List Int) (a1 : Int) : Option R := bif decide (IntKind.wrap .i64 (a1 - ((List.length a0 : Nat) : Int)) < 0) then (some (((-1, ()), ()), ())) else (some (((IntKind.wrap .i64 (a1 - ((List.length a0 : Nat) : Int)), ()), ()), ()))
abbrev S : ShapeParts := ⟨[⟨false, [.lst (.int .i64)]⟩, ⟨false, [.int .i64]⟩], [], false, [⟨false, [.int .i64]⟩], [], []⟩
def s (k : Nat) : FS := S.fs fun x => f k x.1.1.1 x.1.2.1.1
def E (k : Nat) : Ents := []
def L : List (LS R) := []
def c : Code := Tryz.f26.body.getD .skip
theorem eq (k : Nat) (x) : (s k).pf x = execF tab (E k) Tryz.f26 c (s k) L x := by kernel_rfl
theorem sound : ∀ k, Sound Tryz.prog 26 (s k) := snd S (fun k => (s k).pf) E (fun k => EntsOK.nil) (fun k => L) (fun k => trivial) eq
end U0
namespace U1
abbrev R := (((Int × Unit) × Unit) × Unit)
def f (k : Nat) (a0 : tPhiD) (a1 : Int) : Option R := Option.bind (U0.f k a0.2.1 a1) fun r1 => bif decide (r1.1.1.1 < 0) then (some (((-1, ()), ()), ())) else (some (((r1.1.1.1, ()), ()), ()))
abbrev S : ShapeParts := ⟨[⟨true, [.int .i64, .lst (.int .i64)]⟩, ⟨false, [.int .i64]⟩], [], false, [⟨false, [.int .i64]⟩], [], []⟩
def s (k : Nat) : FS := S.fs fun x => f k x.1.1 x.1.2.1.1
def E (k : Nat) : Ents := [(⟨26, []⟩, U0.s k)]
def L : List (LS R) := []
def c : Code := Tryz.f131.body.getD .skip
theorem eq (k : Nat) (x) : (s k).pf x = execF tab (E k) Tryz.f131 c (s k) L x := by kernel_rfl
theorem sound : ∀ k, Sound Tryz.prog 131 (s k) := snd S (fun k => (s k).pf) E (fun k => (EntsOK.cons (U0.sound k) EntsOK.nil)) (fun k => L) (fun k => trivial) eq
end U1
namespace U2
abbrev R := (((Int × Unit) × Unit) × Unit)
abbrev T0 : Type := (List tPhiD) → Int → Int → Option R
def l0_ (k : Nat) (l0 : T0) (a0 : List tPhiD) (a1 : Int) (a2 : Int) : Option R := bif decide (a2 < ((List.length a0 : Nat) : Int)) then (bif (decide (0 ≤ a2)) && (decide (a2 < ((List.length a0 : Nat) : Int))) then (Option.bind (U1.f k (List.getD a0 (Int.toNat a2) tPhiZ) a1) fun r1 => bif decide (r1.1.1.1 < 0) then (some (((-1, ()), ()), ())) else (l0 a0 r1.1.1.1 (IntKind.wrap .i64 (a2 + 1)))) else none) else (some (((a1, ()), ()), ()))
def all : Nat → (T0) × Unit
 | 0 => (fun _ _ _ => none, ())
 | k + 1 => (l0_ k (all k).1, ())
def l0 (k : Nat) : T0 := (all k).1
def f (k : Nat) (a0 : List tPhiD) (a1 : Int) : Option R := bif decide (IntKind.wrap .i64 (a1 - ((List.length a0 : Nat) : Int)) < 0) then (some (((-1, ()), ()), ())) else (l0 k a0 (IntKind.wrap .i64 (a1 - ((List.length a0 : Nat) : Int))) 0)
abbrev S : ShapeParts := ⟨[⟨false, [.lst tPhi]⟩, ⟨false, [.int .i64]⟩], [], false, [⟨false, [.int .i64]⟩], [], []⟩
def s (k : Nat) : FS := S.fs fun x => f k x.1.1.1 x.1.2.1.1
def E (k : Nat) : Ents := [(⟨131, []⟩, U1.s k)]
def L0 (l : T0) : LS R := ⟨[], [(0, ⟨false, [.lst tPhi]⟩), (1, ⟨false, [.int .i64]⟩), (5, ⟨false, [.int .i64]⟩)], [], fun x => l x.1.1.1 x.1.2.1.1 x.1.2.2.1.1⟩
def L (l0 : T0) : List (LS R) := [L0 l0]
def c : Code := Tryz.f94.body.getD .skip
theorem eq (k : Nat) (x) : (s k).pf x = execF tab (E k) Tryz.f94 c (s k) (L (l0 k)) x := by kernel_rfl
theorem r0 (l0 : T0) (k : Nat) (x) : (L0 (l0_ k l0)).l x = roundOf tab (E k) (L l0) c (fin tab Tryz.f94 (s k)) 0 (L0 l0) x := by kernel_rfl
theorem sound : ∀ k, Sound Tryz.prog 94 (s k) := snd S (fun k => (s k).pf) E (fun k => (EntsOK.cons (U1.sound k) EntsOK.nil)) (fun k => L (l0 k)) (fun k => ⟨⟨(L0 (l0 (k + 1))).l, rfl, fun x => r0 (l0 k) k x⟩, trivial⟩) eq
end U2
namespace U3
abbrev R := (((Int × Unit) × Unit) × Unit)
def f (k : Nat) (a0 : tInstD) (a1 : Int) : Option R := Option.bind (U0.f k a0.2.2.2.2.2.2.1 a1) fun r1 => bif decide (r1.1.1.1 < 0) then (some (((-1, ()), ()), ())) else (some (((r1.1.1.1, ()), ()), ()))
abbrev S : ShapeParts := ⟨[⟨true, [.int .i64, .int .i64, .int .i64, .int .i64, .int .i64, .int .i64, .lst (.int .i64)]⟩, ⟨false, [.int .i64]⟩], [], false, [⟨false, [.int .i64]⟩], [], []⟩
def s (k : Nat) : FS := S.fs fun x => f k x.1.1 x.1.2.1.1
def E (k : Nat) : Ents := [(⟨26, []⟩, U0.s k)]
def L : List (LS R) := []
def c : Code := Tryz.f132.body.getD .skip
theorem eq (k : Nat) (x) : (s k).pf x = execF tab (E k) Tryz.f132 c (s k) L x := by kernel_rfl
theorem sound : ∀ k, Sound Tryz.prog 132 (s k) := snd S (fun k => (s k).pf) E (fun k => (EntsOK.cons (U0.sound k) EntsOK.nil)) (fun k => L) (fun k => trivial) eq
end U3
namespace U4
abbrev R := (((Int × Unit) × Unit) × Unit)
abbrev T0 : Type := (List tInstD) → Int → Int → Option R
def l0_ (k : Nat) (l0 : T0) (a0 : List tInstD) (a1 : Int) (a2 : Int) : Option R := bif decide (a2 < ((List.length a0 : Nat) : Int)) then (bif (decide (0 ≤ a2)) && (decide (a2 < ((List.length a0 : Nat) : Int))) then (Option.bind (U3.f k (List.getD a0 (Int.toNat a2) tInstZ) a1) fun r1 => bif decide (r1.1.1.1 < 0) then (some (((-1, ()), ()), ())) else (l0 a0 r1.1.1.1 (IntKind.wrap .i64 (a2 + 1)))) else none) else (some (((a1, ()), ()), ()))
def all : Nat → (T0) × Unit
 | 0 => (fun _ _ _ => none, ())
 | k + 1 => (l0_ k (all k).1, ())
def l0 (k : Nat) : T0 := (all k).1
def f (k : Nat) (a0 : List tInstD) (a1 : Int) : Option R := bif decide (IntKind.wrap .i64 (a1 - ((List.length a0 : Nat) : Int)) < 0) then (some (((-1, ()), ()), ())) else (l0 k a0 (IntKind.wrap .i64 (a1 - ((List.length a0 : Nat) : Int))) 0)
abbrev S : ShapeParts := ⟨[⟨false, [.lst tInst]⟩, ⟨false, [.int .i64]⟩], [], false, [⟨false, [.int .i64]⟩], [], []⟩
def s (k : Nat) : FS := S.fs fun x => f k x.1.1.1 x.1.2.1.1
def E (k : Nat) : Ents := [(⟨132, []⟩, U3.s k)]
def L0 (l : T0) : LS R := ⟨[], [(0, ⟨false, [.lst tInst]⟩), (1, ⟨false, [.int .i64]⟩), (5, ⟨false, [.int .i64]⟩)], [], fun x => l x.1.1.1 x.1.2.1.1 x.1.2.2.1.1⟩
def L (l0 : T0) : List (LS R) := [L0 l0]
def c : Code := Tryz.f95.body.getD .skip
theorem eq (k : Nat) (x) : (s k).pf x = execF tab (E k) Tryz.f95 c (s k) (L (l0 k)) x := by kernel_rfl
theorem r0 (l0 : T0) (k : Nat) (x) : (L0 (l0_ k l0)).l x = roundOf tab (E k) (L l0) c (fin tab Tryz.f95 (s k)) 0 (L0 l0) x := by kernel_rfl
theorem sound : ∀ k, Sound Tryz.prog 95 (s k) := snd S (fun k => (s k).pf) E (fun k => (EntsOK.cons (U3.sound k) EntsOK.nil)) (fun k => L (l0 k)) (fun k => ⟨⟨(L0 (l0 (k + 1))).l, rfl, fun x => r0 (l0 k) k x⟩, trivial⟩) eq
end U4
namespace U5
abbrev R := (((Int × Unit) × Unit) × Unit)
def f (k : Nat) (a0 : tBlockD) (a1 : Int) : Option R := Option.bind (U2.f k a0.1 a1) fun r1 => bif decide (r1.1.1.1 < 0) then (some (((-1, ()), ()), ())) else (Option.bind (U4.f k a0.2.1 r1.1.1.1) fun r2 => bif decide (r2.1.1.1 < 0) then (some (((-1, ()), ()), ())) else (some (((r2.1.1.1, ()), ()), ())))
abbrev S : ShapeParts := ⟨[⟨true, [.lst tPhi, .lst tInst, .int .i64, .int .i64, .int .i64, .int .i64]⟩, ⟨false, [.int .i64]⟩], [], false, [⟨false, [.int .i64]⟩], [], []⟩
def s (k : Nat) : FS := S.fs fun x => f k x.1.1 x.1.2.1.1
def E (k : Nat) : Ents := [(⟨94, []⟩, U2.s k), (⟨95, []⟩, U4.s k)]
def L : List (LS R) := []
def c : Code := Tryz.f56.body.getD .skip
theorem eq (k : Nat) (x) : (s k).pf x = execF tab (E k) Tryz.f56 c (s k) L x := by kernel_rfl
theorem sound : ∀ k, Sound Tryz.prog 56 (s k) := snd S (fun k => (s k).pf) E (fun k => (EntsOK.cons (U2.sound k) (EntsOK.cons (U4.sound k) EntsOK.nil))) (fun k => L) (fun k => trivial) eq
end U5
namespace U6
abbrev R := (((Int × Unit) × Unit) × Unit)
abbrev T0 : Type := (List tBlockD) → Int → Int → Option R
def l0_ (k : Nat) (l0 : T0) (a0 : List tBlockD) (a1 : Int) (a2 : Int) : Option R := bif decide (a2 < ((List.length a0 : Nat) : Int)) then (bif (decide (0 ≤ a2)) && (decide (a2 < ((List.length a0 : Nat) : Int))) then (Option.bind (U5.f k (List.getD a0 (Int.toNat a2) tBlockZ) a1) fun r1 => bif decide (r1.1.1.1 < 0) then (some (((-1, ()), ()), ())) else (l0 a0 r1.1.1.1 (IntKind.wrap .i64 (a2 + 1)))) else none) else (some (((a1, ()), ()), ()))
def all : Nat → (T0) × Unit
 | 0 => (fun _ _ _ => none, ())
 | k + 1 => (l0_ k (all k).1, ())
def l0 (k : Nat) : T0 := (all k).1
def f (k : Nat) (a0 : List tBlockD) (a1 : Int) : Option R := bif decide (IntKind.wrap .i64 (a1 - ((List.length a0 : Nat) : Int)) < 0) then (some (((-1, ()), ()), ())) else (l0 k a0 (IntKind.wrap .i64 (a1 - ((List.length a0 : Nat) : Int))) 0)
abbrev S : ShapeParts := ⟨[⟨false, [.lst tBlock]⟩, ⟨false, [.int .i64]⟩], [], false, [⟨false, [.int .i64]⟩], [], []⟩
def s (k : Nat) : FS := S.fs fun x => f k x.1.1.1 x.1.2.1.1
def E (k : Nat) : Ents := [(⟨56, []⟩, U5.s k)]
def L0 (l : T0) : LS R := ⟨[], [(0, ⟨false, [.lst tBlock]⟩), (1, ⟨false, [.int .i64]⟩), (5, ⟨false, [.int .i64]⟩)], [], fun x => l x.1.1.1 x.1.2.1.1 x.1.2.2.1.1⟩
def L (l0 : T0) : List (LS R) := [L0 l0]
def c : Code := Tryz.f27.body.getD .skip
theorem eq (k : Nat) (x) : (s k).pf x = execF tab (E k) Tryz.f27 c (s k) (L (l0 k)) x := by kernel_rfl
theorem r0 (l0 : T0) (k : Nat) (x) : (L0 (l0_ k l0)).l x = roundOf tab (E k) (L l0) c (fin tab Tryz.f27 (s k)) 0 (L0 l0) x := by kernel_rfl
theorem sound : ∀ k, Sound Tryz.prog 27 (s k) := snd S (fun k => (s k).pf) E (fun k => (EntsOK.cons (U5.sound k) EntsOK.nil)) (fun k => L (l0 k)) (fun k => ⟨⟨(L0 (l0 (k + 1))).l, rfl, fun x => r0 (l0 k) k x⟩, trivial⟩) eq
end U6
namespace U7
abbrev R := (((Int × Unit) × Unit) × Unit)
def f (k : Nat) (a0 : tFuncD) (a1 : Int) : Option R := Option.bind (U0.f k a0.1 a1) fun r1 => bif decide (r1.1.1.1 < 0) then (some (((-1, ()), ()), ())) else (Option.bind (U6.f k a0.2.2.1 r1.1.1.1) fun r2 => bif decide (r2.1.1.1 < 0) then (some (((-1, ()), ()), ())) else (some (((r2.1.1.1, ()), ()), ())))
abbrev S : ShapeParts := ⟨[⟨true, [.lst (.int .i64), .int .i64, .lst tBlock]⟩, ⟨false, [.int .i64]⟩], [], false, [⟨false, [.int .i64]⟩], [], []⟩
def s (k : Nat) : FS := S.fs fun x => f k x.1.1 x.1.2.1.1
def E (k : Nat) : Ents := [(⟨26, []⟩, U0.s k), (⟨27, []⟩, U6.s k)]
def L : List (LS R) := []
def c : Code := Tryz.f12.body.getD .skip
theorem eq (k : Nat) (x) : (s k).pf x = execF tab (E k) Tryz.f12 c (s k) L x := by kernel_rfl
theorem sound : ∀ k, Sound Tryz.prog 12 (s k) := snd S (fun k => (s k).pf) E (fun k => (EntsOK.cons (U0.sound k) (EntsOK.cons (U6.sound k) EntsOK.nil))) (fun k => L) (fun k => trivial) eq
end U7
namespace U8
abbrev R := (((Unit × Unit) × Unit) × ((List Int) × Unit))
abbrev T0 : Type := (List Int) → Int → (List Int) → Option R
def l0_ (k : Nat) (l0 : T0) (a0 : List Int) (a1 : Int) (a2 : List Int) : Option R := bif decide (a1 < ((List.length a0 : Nat) : Int)) then (bif (decide (0 ≤ a1)) && (decide (a1 < ((List.length a0 : Nat) : Int))) then (bif (decide (0 ≤ a1)) && (decide (a1 < ((List.length a2 : Nat) : Int))) then (l0 a0 (IntKind.wrap .i64 (a1 + 1)) (List.set a2 (Int.toNat a1) (List.getD a0 (Int.toNat a1) 0))) else none) else none) else (some ((((), ()), ()), (a2, ())))
def all : Nat → (T0) × Unit
 | 0 => (fun _ _ _ => none, ())
 | k + 1 => (l0_ k (all k).1, ())
def l0 (k : Nat) : T0 := (all k).1
def f (k : Nat) (a0 : List Int) : Option R := bif (decide (((List.length a0 : Nat) : Int) = ((List.length a0 : Nat) : Int))) && (decide (0 ≤ ((List.length a0 : Nat) : Int))) && (decide (((List.length a0 : Nat) : Int) * 8 ≤ 281474976710656)) then (l0 k a0 0 (List.replicate (Int.toNat ((List.length a0 : Nat) : Int)) 0)) else none
abbrev S : ShapeParts := ⟨[⟨false, [.lst (.int .i64)]⟩], [], false, [⟨false, [.own 100]⟩], [(100, .row true (.int .i64))], []⟩
def s (k : Nat) : FS := S.fs fun x => f k x.1.1.1
def E (k : Nat) : Ents := []
def L0 (l : T0) : LS R := ⟨[], [(0, ⟨false, [.lst (.int .i64)]⟩), (3, ⟨false, [.own 100000]⟩), (4, ⟨false, [.int .i64]⟩)], [(100000, .row true (.int .i64))], fun x => l x.1.1.1 x.1.2.2.1.1 x.2.1⟩
def L (l0 : T0) : List (LS R) := [L0 l0]
def c : Code := Tryz.f30.body.getD .skip
theorem eq (k : Nat) (x) : (s k).pf x = execF tab (E k) Tryz.f30 c (s k) (L (l0 k)) x := by kernel_rfl
theorem r0 (l0 : T0) (k : Nat) (x) : (L0 (l0_ k l0)).l x = roundOf tab (E k) (L l0) c (fin tab Tryz.f30 (s k)) 0 (L0 l0) x := by kernel_rfl
theorem sound : ∀ k, Sound Tryz.prog 30 (s k) := snd S (fun k => (s k).pf) E (fun k => EntsOK.nil) (fun k => L (l0 k)) (fun k => ⟨⟨(L0 (l0 (k + 1))).l, rfl, fun x => r0 (l0 k) k x⟩, trivial⟩) eq
end U8
namespace U9
abbrev R := (((Int × Unit × Unit) × Unit) × ((List Int) × Unit))
def f (k : Nat) (a0 : tPhiD) : Option R := Option.bind (U8.f k a0.2.1) fun r1 => some (((a0.1, (), ()), ()), (r1.2.1, ()))
abbrev S : ShapeParts := ⟨[⟨true, [.int .i64, .lst (.int .i64)]⟩], [], false, [⟨true, [.int .i64, .own 100]⟩], [(100, .row true (.int .i64))], []⟩
def s (k : Nat) : FS := S.fs fun x => f k x.1.1
def E (k : Nat) : Ents := [(⟨30, []⟩, U8.s k)]
def L : List (LS R) := []
def c : Code := Tryz.f134.body.getD .skip
theorem eq (k : Nat) (x) : (s k).pf x = execF tab (E k) Tryz.f134 c (s k) L x := by kernel_rfl
theorem sound : ∀ k, Sound Tryz.prog 134 (s k) := snd S (fun k => (s k).pf) E (fun k => (EntsOK.cons (U8.sound k) EntsOK.nil)) (fun k => L) (fun k => trivial) eq
end U9
namespace U10
abbrev R := (((Unit × Unit) × Unit) × ((List tPhiD) × Unit))
abbrev T0 : Type := (List tPhiD) → Int → (List tPhiD) → Option R
def l0_ (k : Nat) (l0 : T0) (a0 : List tPhiD) (a1 : Int) (a2 : List tPhiD) : Option R := bif decide (a1 < ((List.length a0 : Nat) : Int)) then (bif (decide (0 ≤ a1)) && (decide (a1 < ((List.length a0 : Nat) : Int))) then (Option.bind (U9.f k (List.getD a0 (Int.toNat a1) tPhiZ)) fun r1 => bif (decide (0 ≤ a1)) && (decide (a1 < ((List.length a2 : Nat) : Int))) then (l0 a0 (IntKind.wrap .i64 (a1 + 1)) (List.set a2 (Int.toNat a1) (r1.1.1.1, r1.2.1, ()))) else none) else none) else (some ((((), ()), ()), (a2, ())))
def all : Nat → (T0) × Unit
 | 0 => (fun _ _ _ => none, ())
 | k + 1 => (l0_ k (all k).1, ())
def l0 (k : Nat) : T0 := (all k).1
def f (k : Nat) (a0 : List tPhiD) : Option R := bif (decide (((List.length a0 : Nat) : Int) = ((List.length a0 : Nat) : Int))) && (decide (0 ≤ ((List.length a0 : Nat) : Int))) && (decide (((List.length a0 : Nat) : Int) * 32 ≤ 281474976710656)) then (l0 k a0 0 (List.replicate (Int.toNat ((List.length a0 : Nat) : Int)) tPhiZ)) else none
abbrev S : ShapeParts := ⟨[⟨false, [.lst tPhi]⟩], [], false, [⟨false, [.own 100]⟩], [(100, .row true tPhi)], []⟩
def s (k : Nat) : FS := S.fs fun x => f k x.1.1.1
def E (k : Nat) : Ents := [(⟨134, []⟩, U9.s k)]
def L0 (l : T0) : LS R := ⟨[], [(0, ⟨false, [.lst tPhi]⟩), (3, ⟨false, [.own 100000]⟩), (4, ⟨false, [.int .i64]⟩)], [(100000, .row true tPhi)], fun x => l x.1.1.1 x.1.2.2.1.1 x.2.1⟩
def L (l0 : T0) : List (LS R) := [L0 l0]
def c : Code := Tryz.f101.body.getD .skip
theorem eq (k : Nat) (x) : (s k).pf x = execF tab (E k) Tryz.f101 c (s k) (L (l0 k)) x := by kernel_rfl
theorem r0 (l0 : T0) (k : Nat) (x) : (L0 (l0_ k l0)).l x = roundOf tab (E k) (L l0) c (fin tab Tryz.f101 (s k)) 0 (L0 l0) x := by kernel_rfl
theorem sound : ∀ k, Sound Tryz.prog 101 (s k) := snd S (fun k => (s k).pf) E (fun k => (EntsOK.cons (U9.sound k) EntsOK.nil)) (fun k => L (l0 k)) (fun k => ⟨⟨(L0 (l0 (k + 1))).l, rfl, fun x => r0 (l0 k) k x⟩, trivial⟩) eq
end U10
namespace U11
abbrev R := (((Int × Int × Int × Int × Int × Int × Unit × Unit) × Unit) × ((List Int) × Unit))
def f (k : Nat) (a0 : tInstD) : Option R := Option.bind (U8.f k a0.2.2.2.2.2.2.1) fun r1 => some (((a0.1, a0.2.1, a0.2.2.1, a0.2.2.2.1, a0.2.2.2.2.1, a0.2.2.2.2.2.1, (), ()), ()), (r1.2.1, ()))
abbrev S : ShapeParts := ⟨[⟨true, [.int .i64, .int .i64, .int .i64, .int .i64, .int .i64, .int .i64, .lst (.int .i64)]⟩], [], false, [⟨true, [.int .i64, .int .i64, .int .i64, .int .i64, .int .i64, .int .i64, .own 100]⟩], [(100, .row true (.int .i64))], []⟩
def s (k : Nat) : FS := S.fs fun x => f k x.1.1
def E (k : Nat) : Ents := [(⟨30, []⟩, U8.s k)]
def L : List (LS R) := []
def c : Code := Tryz.f135.body.getD .skip
theorem eq (k : Nat) (x) : (s k).pf x = execF tab (E k) Tryz.f135 c (s k) L x := by kernel_rfl
theorem sound : ∀ k, Sound Tryz.prog 135 (s k) := snd S (fun k => (s k).pf) E (fun k => (EntsOK.cons (U8.sound k) EntsOK.nil)) (fun k => L) (fun k => trivial) eq
end U11
namespace U12
abbrev R := (((Unit × Unit) × Unit) × ((List tInstD) × Unit))
abbrev T0 : Type := (List tInstD) → Int → (List tInstD) → Option R
def l0_ (k : Nat) (l0 : T0) (a0 : List tInstD) (a1 : Int) (a2 : List tInstD) : Option R := bif decide (a1 < ((List.length a0 : Nat) : Int)) then (bif (decide (0 ≤ a1)) && (decide (a1 < ((List.length a0 : Nat) : Int))) then (Option.bind (U11.f k (List.getD a0 (Int.toNat a1) tInstZ)) fun r1 => bif (decide (0 ≤ a1)) && (decide (a1 < ((List.length a2 : Nat) : Int))) then (l0 a0 (IntKind.wrap .i64 (a1 + 1)) (List.set a2 (Int.toNat a1) (r1.1.1.1, r1.1.1.2.1, r1.1.1.2.2.1, r1.1.1.2.2.2.1, r1.1.1.2.2.2.2.1, r1.1.1.2.2.2.2.2.1, r1.2.1, ()))) else none) else none) else (some ((((), ()), ()), (a2, ())))
def all : Nat → (T0) × Unit
 | 0 => (fun _ _ _ => none, ())
 | k + 1 => (l0_ k (all k).1, ())
def l0 (k : Nat) : T0 := (all k).1
def f (k : Nat) (a0 : List tInstD) : Option R := bif (decide (((List.length a0 : Nat) : Int) = ((List.length a0 : Nat) : Int))) && (decide (0 ≤ ((List.length a0 : Nat) : Int))) && (decide (((List.length a0 : Nat) : Int) * 72 ≤ 281474976710656)) then (l0 k a0 0 (List.replicate (Int.toNat ((List.length a0 : Nat) : Int)) tInstZ)) else none
abbrev S : ShapeParts := ⟨[⟨false, [.lst tInst]⟩], [], false, [⟨false, [.own 100]⟩], [(100, .row true tInst)], []⟩
def s (k : Nat) : FS := S.fs fun x => f k x.1.1.1
def E (k : Nat) : Ents := [(⟨135, []⟩, U11.s k)]
def L0 (l : T0) : LS R := ⟨[], [(0, ⟨false, [.lst tInst]⟩), (3, ⟨false, [.own 100000]⟩), (4, ⟨false, [.int .i64]⟩)], [(100000, .row true tInst)], fun x => l x.1.1.1 x.1.2.2.1.1 x.2.1⟩
def L (l0 : T0) : List (LS R) := [L0 l0]
def c : Code := Tryz.f102.body.getD .skip
theorem eq (k : Nat) (x) : (s k).pf x = execF tab (E k) Tryz.f102 c (s k) (L (l0 k)) x := by kernel_rfl
theorem r0 (l0 : T0) (k : Nat) (x) : (L0 (l0_ k l0)).l x = roundOf tab (E k) (L l0) c (fin tab Tryz.f102 (s k)) 0 (L0 l0) x := by kernel_rfl
theorem sound : ∀ k, Sound Tryz.prog 102 (s k) := snd S (fun k => (s k).pf) E (fun k => (EntsOK.cons (U11.sound k) EntsOK.nil)) (fun k => L (l0 k)) (fun k => ⟨⟨(L0 (l0 (k + 1))).l, rfl, fun x => r0 (l0 k) k x⟩, trivial⟩) eq
end U12
namespace U13
abbrev R := (((Int × Int × Int × Int × Unit) × Unit) × Unit)
def f (k : Nat) (a0 : tTermD) : Option R := some ((a0, ()), ())
abbrev S : ShapeParts := ⟨[⟨true, [.int .i64, .int .i64, .int .i64, .int .i64]⟩], [], false, [⟨true, [.int .i64, .int .i64, .int .i64, .int .i64]⟩], [], []⟩
def s (k : Nat) : FS := S.fs fun x => f k x.1.1
def E (k : Nat) : Ents := []
def L : List (LS R) := []
def c : Code := Tryz.f103.body.getD .skip
theorem eq (k : Nat) (x) : (s k).pf x = execF tab (E k) Tryz.f103 c (s k) L x := by kernel_rfl
theorem sound : ∀ k, Sound Tryz.prog 103 (s k) := snd S (fun k => (s k).pf) E (fun k => EntsOK.nil) (fun k => L) (fun k => trivial) eq
end U13
namespace U14
abbrev R := (((Unit × Unit × Int × Int × Int × Int × Unit) × Unit) × ((List tPhiD) × (List tInstD) × Unit))
def f (k : Nat) (a0 : tBlockD) : Option R := Option.bind (U10.f k a0.1) fun r1 => Option.bind (U12.f k a0.2.1) fun r2 => Option.bind (U13.f k a0.2.2) fun r3 => some ((((), (), r3.1.1.1, r3.1.1.2.1, r3.1.1.2.2.1, r3.1.1.2.2.2.1, ()), ()), (r1.2.1, r2.2.1, ()))
abbrev S : ShapeParts := ⟨[⟨true, [.lst tPhi, .lst tInst, .int .i64, .int .i64, .int .i64, .int .i64]⟩], [], false, [⟨true, [.own 100, .own 101, .int .i64, .int .i64, .int .i64, .int .i64]⟩], [(100, .row true tPhi), (101, .row true tInst)], []⟩
def s (k : Nat) : FS := S.fs fun x => f k x.1.1
def E (k : Nat) : Ents := [(⟨101, []⟩, U10.s k), (⟨102, []⟩, U12.s k), (⟨103, []⟩, U13.s k)]
def L : List (LS R) := []
def c : Code := Tryz.f65.body.getD .skip
theorem eq (k : Nat) (x) : (s k).pf x = execF tab (E k) Tryz.f65 c (s k) L x := by kernel_rfl
theorem sound : ∀ k, Sound Tryz.prog 65 (s k) := snd S (fun k => (s k).pf) E (fun k => (EntsOK.cons (U10.sound k) (EntsOK.cons (U12.sound k) (EntsOK.cons (U13.sound k) EntsOK.nil)))) (fun k => L) (fun k => trivial) eq
end U14
namespace U15
abbrev R := (((Unit × Unit) × Unit) × ((List tBlockD) × Unit))
abbrev T0 : Type := (List tBlockD) → Int → (List tBlockD) → Option R
def l0_ (k : Nat) (l0 : T0) (a0 : List tBlockD) (a1 : Int) (a2 : List tBlockD) : Option R := bif decide (a1 < ((List.length a0 : Nat) : Int)) then (bif (decide (0 ≤ a1)) && (decide (a1 < ((List.length a0 : Nat) : Int))) then (Option.bind (U14.f k (List.getD a0 (Int.toNat a1) tBlockZ)) fun r1 => bif (decide (0 ≤ a1)) && (decide (a1 < ((List.length a2 : Nat) : Int))) then (l0 a0 (IntKind.wrap .i64 (a1 + 1)) (List.set a2 (Int.toNat a1) (r1.2.1, r1.2.2.1, r1.1.1.2.2.1, r1.1.1.2.2.2.1, r1.1.1.2.2.2.2.1, r1.1.1.2.2.2.2.2.1, ()))) else none) else none) else (some ((((), ()), ()), (a2, ())))
def all : Nat → (T0) × Unit
 | 0 => (fun _ _ _ => none, ())
 | k + 1 => (l0_ k (all k).1, ())
def l0 (k : Nat) : T0 := (all k).1
def f (k : Nat) (a0 : List tBlockD) : Option R := bif (decide (((List.length a0 : Nat) : Int) = ((List.length a0 : Nat) : Int))) && (decide (0 ≤ ((List.length a0 : Nat) : Int))) && (decide (((List.length a0 : Nat) : Int) * 80 ≤ 281474976710656)) then (l0 k a0 0 (List.replicate (Int.toNat ((List.length a0 : Nat) : Int)) tBlockZ)) else none
abbrev S : ShapeParts := ⟨[⟨false, [.lst tBlock]⟩], [], false, [⟨false, [.own 100]⟩], [(100, .row true tBlock)], []⟩
def s (k : Nat) : FS := S.fs fun x => f k x.1.1.1
def E (k : Nat) : Ents := [(⟨65, []⟩, U14.s k)]
def L0 (l : T0) : LS R := ⟨[], [(0, ⟨false, [.lst tBlock]⟩), (3, ⟨false, [.own 100000]⟩), (4, ⟨false, [.int .i64]⟩)], [(100000, .row true tBlock)], fun x => l x.1.1.1 x.1.2.2.1.1 x.2.1⟩
def L (l0 : T0) : List (LS R) := [L0 l0]
def c : Code := Tryz.f31.body.getD .skip
theorem eq (k : Nat) (x) : (s k).pf x = execF tab (E k) Tryz.f31 c (s k) (L (l0 k)) x := by kernel_rfl
theorem r0 (l0 : T0) (k : Nat) (x) : (L0 (l0_ k l0)).l x = roundOf tab (E k) (L l0) c (fin tab Tryz.f31 (s k)) 0 (L0 l0) x := by kernel_rfl
theorem sound : ∀ k, Sound Tryz.prog 31 (s k) := snd S (fun k => (s k).pf) E (fun k => (EntsOK.cons (U14.sound k) EntsOK.nil)) (fun k => L (l0 k)) (fun k => ⟨⟨(L0 (l0 (k + 1))).l, rfl, fun x => r0 (l0 k) k x⟩, trivial⟩) eq
end U15
namespace U16
abbrev R := (((Unit × Int × Unit × Unit) × Unit) × ((List Int) × (List tBlockD) × Unit))
def f (k : Nat) (a0 : tFuncD) : Option R := Option.bind (U8.f k a0.1) fun r1 => Option.bind (U15.f k a0.2.2.1) fun r2 => some ((((), a0.2.1, (), ()), ()), (r1.2.1, r2.2.1, ()))
abbrev S : ShapeParts := ⟨[⟨true, [.lst (.int .i64), .int .i64, .lst tBlock]⟩], [], false, [⟨true, [.own 100, .int .i64, .own 101]⟩], [(100, .row true (.int .i64)), (101, .row true tBlock)], []⟩
def s (k : Nat) : FS := S.fs fun x => f k x.1.1
def E (k : Nat) : Ents := [(⟨30, []⟩, U8.s k), (⟨31, []⟩, U15.s k)]
def L : List (LS R) := []
def c : Code := Tryz.f14.body.getD .skip
theorem eq (k : Nat) (x) : (s k).pf x = execF tab (E k) Tryz.f14 c (s k) L x := by kernel_rfl
theorem sound : ∀ k, Sound Tryz.prog 14 (s k) := snd S (fun k => (s k).pf) E (fun k => (EntsOK.cons (U8.sound k) (EntsOK.cons (U15.sound k) EntsOK.nil))) (fun k => L) (fun k => trivial) eq
end U16
namespace U17
abbrev R := (((Int × Unit) × Unit) × Unit)
abbrev T0 : Type := Int → Int → tFuncD → Option R
def l0_ (k : Nat) (l0 : T0) (a0 : Int) (a1 : Int) (a2 : tFuncD) : Option R := bif decide (a1 < ((List.length a2.2.2.1 : Nat) : Int)) then (bif (decide (0 ≤ a1)) && (decide (a1 < ((List.length a2.2.2.1 : Nat) : Int))) then (bif (decide (0 ≤ a1)) && (decide (a1 < ((List.length a2.2.2.1 : Nat) : Int))) then (l0 (IntKind.wrap .i64 (a0 + (IntKind.wrap .i64 (((List.length ((List.getD a2.2.2.1 (Int.toNat a1) tBlockZ).1) : Nat) : Int) + ((List.length ((List.getD a2.2.2.1 (Int.toNat a1) tBlockZ).2.1) : Nat) : Int))))) (IntKind.wrap .i64 (a1 + 1)) a2) else none) else none) else (some (((a0, ()), ()), ()))
def all : Nat → (T0) × Unit
 | 0 => (fun _ _ _ => none, ())
 | k + 1 => (l0_ k (all k).1, ())
def l0 (k : Nat) : T0 := (all k).1
def f (k : Nat) (a0 : tFuncD) : Option R := l0 k ((List.length a0.1 : Nat) : Int) 0 a0
abbrev S : ShapeParts := ⟨[⟨true, [.lst (.int .i64), .int .i64, .lst tBlock]⟩], [], false, [⟨false, [.int .i64]⟩], [], []⟩
def s (k : Nat) : FS := S.fs fun x => f k x.1.1
def E (k : Nat) : Ents := []
def L0 (l : T0) : LS R := ⟨[], [(1, ⟨false, [.ptr 100000 0]⟩), (3, ⟨false, [.int .i64]⟩), (4, ⟨false, [.int .i64]⟩)], [(100000, .box [.lst (.int .i64), .int .i64, .lst tBlock])], fun x => l x.1.2.1.1 x.1.2.2.1.1 x.2.1⟩
def L (l0 : T0) : List (LS R) := [L0 l0]
def c : Code := Tryz.f41.body.getD .skip
theorem eq (k : Nat) (x) : (s k).pf x = execF tab (E k) Tryz.f41 c (s k) (L (l0 k)) x := by kernel_rfl
theorem r0 (l0 : T0) (k : Nat) (x) : (L0 (l0_ k l0)).l x = roundOf tab (E k) (L l0) c (fin tab Tryz.f41 (s k)) 0 (L0 l0) x := by kernel_rfl
theorem sound : ∀ k, Sound Tryz.prog 41 (s k) := snd S (fun k => (s k).pf) E (fun k => EntsOK.nil) (fun k => L (l0 k)) (fun k => ⟨⟨(L0 (l0 (k + 1))).l, rfl, fun x => r0 (l0 k) k x⟩, trivial⟩) eq
end U17
namespace U18
abbrev R := (((Bool × Unit) × Unit) × Unit)
def f (k : Nat) (a0 : Int) : Option R := bif decide (a0 = 1) then (some (((true, ()), ()), ())) else (bif decide (a0 = 8) then (some (((true, ()), ()), ())) else (bif decide (a0 = 16) then (some (((true, ()), ()), ())) else (some (((decide (a0 = 32), ()), ()), ()))))
abbrev S : ShapeParts := ⟨[⟨false, [.int .i64]⟩], [], false, [⟨false, [.bool]⟩], [], []⟩
def s (k : Nat) : FS := S.fs fun x => f k x.1.1.1
def E (k : Nat) : Ents := []
def L : List (LS R) := []
def c : Code := Tryz.f57.body.getD .skip
theorem eq (k : Nat) (x) : (s k).pf x = execF tab (E k) Tryz.f57 c (s k) L x := by kernel_rfl
theorem sound : ∀ k, Sound Tryz.prog 57 (s k) := snd S (fun k => (s k).pf) E (fun k => EntsOK.nil) (fun k => L) (fun k => trivial) eq
end U18
namespace U19
abbrev R := (((Bool × Unit) × Unit) × Unit)
def f (k : Nat) (a0 : Int) (a1 : Int) (a2 : Int) : Option R := bif decide (a1 ≤ a0) then (some (((decide (a0 ≤ a2), ()), ()), ())) else (some (((false, ()), ()), ()))
abbrev S : ShapeParts := ⟨[⟨false, [.int .i64]⟩, ⟨false, [.int .i64]⟩, ⟨false, [.int .i64]⟩], [], false, [⟨false, [.bool]⟩], [], []⟩
def s (k : Nat) : FS := S.fs fun x => f k x.1.1.1 x.1.2.1.1 x.1.2.2.1.1
def E (k : Nat) : Ents := []
def L : List (LS R) := []
def c : Code := Tryz.f58.body.getD .skip
theorem eq (k : Nat) (x) : (s k).pf x = execF tab (E k) Tryz.f58 c (s k) L x := by kernel_rfl
theorem sound : ∀ k, Sound Tryz.prog 58 (s k) := snd S (fun k => (s k).pf) E (fun k => EntsOK.nil) (fun k => L) (fun k => trivial) eq
end U19
namespace U20
abbrev R := (((Unit × Unit) × Unit) × ((List Int) × Unit))
def f (k : Nat) (a0 : List Int) : Option R := bif decide ((List.length ([] : List Int) + List.length a0) * 8 ≤ 140737488355328) then (some ((((), ()), ()), (([] : List Int) ++ a0, ()))) else none
abbrev S : ShapeParts := ⟨[⟨false, [.lst (.int .i64)]⟩], [], false, [⟨false, [.own 100]⟩], [(100, .row true (.int .i64))], []⟩
def s (k : Nat) : FS := S.fs fun x => f k x.1.1.1
def E (k : Nat) : Ents := []
def L : List (LS R) := []
def c : Code := Tryz.f76.body.getD .skip
theorem eq (k : Nat) (x) : (s k).pf x = execF tab (E k) Tryz.f76 c (s k) L x := by kernel_rfl
theorem sound : ∀ k, Sound Tryz.prog 76 (s k) := snd S (fun k => (s k).pf) E (fun k => EntsOK.nil) (fun k => L) (fun k => trivial) eq
end U20
namespace U21
abbrev R := (((Unit × Unit) × Unit) × ((List Int) × Unit))
def f (k : Nat) (a0 : tInstD) : Option R := Option.bind (U19.f k a0.1 1 17) fun r1 => bif r1.1.1.1 then (bif r1.1.1.1 then (some ((((), ()), ()), ([a0.2.2.1, a0.2.2.2.1], ()))) else (Option.bind (U19.f k a0.1 18 20) fun r2 => bif r2.1.1.1 then (bif r2.1.1.1 then (some ((((), ()), ()), ([a0.2.2.1], ()))) else (bif decide (a0.1 = 22) then (some ((((), ()), ()), ([a0.2.2.1, a0.2.2.2.1, a0.2.2.2.2.1], ()))) else (bif decide (a0.1 = 26) then (Option.bind (U20.f k a0.2.2.2.2.2.2.1) fun r3 => some ((((), ()), ()), (r3.2.1, ()))) else (some ((((), ()), ()), (([] : List Int), ())))))) else (bif decide (a0.1 = 23) then (bif decide (a0.1 = 23) then (some ((((), ()), ()), ([a0.2.2.1], ()))) else (bif decide (a0.1 = 22) then (some ((((), ()), ()), ([a0.2.2.1, a0.2.2.2.1, a0.2.2.2.2.1], ()))) else (bif decide (a0.1 = 26) then (Option.bind (U20.f k a0.2.2.2.2.2.2.1) fun r4 => some ((((), ()), ()), (r4.2.1, ()))) else (some ((((), ()), ()), (([] : List Int), ())))))) else (bif decide (a0.1 = 25) then (bif decide (a0.1 = 25) then (some ((((), ()), ()), ([a0.2.2.1], ()))) else (bif decide (a0.1 = 22) then (some ((((), ()), ()), ([a0.2.2.1, a0.2.2.2.1, a0.2.2.2.2.1], ()))) else (bif decide (a0.1 = 26) then (Option.bind (U20.f k a0.2.2.2.2.2.2.1) fun r5 => some ((((), ()), ()), (r5.2.1, ()))) else (some ((((), ()), ()), (([] : List Int), ())))))) else (bif decide (a0.1 = 27) then (some ((((), ()), ()), ([a0.2.2.1], ()))) else (bif decide (a0.1 = 22) then (some ((((), ()), ()), ([a0.2.2.1, a0.2.2.2.1, a0.2.2.2.2.1], ()))) else (bif decide (a0.1 = 26) then (Option.bind (U20.f k a0.2.2.2.2.2.2.1) fun r6 => some ((((), ()), ()), (r6.2.1, ()))) else (some ((((), ()), ()), (([] : List Int), ())))))))))) else (bif decide (a0.1 = 24) then (some ((((), ()), ()), ([a0.2.2.1, a0.2.2.2.1], ()))) else (Option.bind (U19.f k a0.1 18 20) fun r7 => bif r7.1.1.1 then (bif r7.1.1.1 then (some ((((), ()), ()), ([a0.2.2.1], ()))) else (bif decide (a0.1 = 22) then (some ((((), ()), ()), ([a0.2.2.1, a0.2.2.2.1, a0.2.2.2.2.1], ()))) else (bif decide (a0.1 = 26) then (Option.bind (U20.f k a0.2.2.2.2.2.2.1) fun r8 => some ((((), ()), ()), (r8.2.1, ()))) else (some ((((), ()), ()), (([] : List Int), ())))))) else (bif decide (a0.1 = 23) then (bif decide (a0.1 = 23) then (some ((((), ()), ()), ([a0.2.2.1], ()))) else (bif decide (a0.1 = 22) then (some ((((), ()), ()), ([a0.2.2.1, a0.2.2.2.1, a0.2.2.2.2.1], ()))) else (bif decide (a0.1 = 26) then (Option.bind (U20.f k a0.2.2.2.2.2.2.1) fun r9 => some ((((), ()), ()), (r9.2.1, ()))) else (some ((((), ()), ()), (([] : List Int), ())))))) else (bif decide (a0.1 = 25) then (bif decide (a0.1 = 25) then (some ((((), ()), ()), ([a0.2.2.1], ()))) else (bif decide (a0.1 = 22) then (some ((((), ()), ()), ([a0.2.2.1, a0.2.2.2.1, a0.2.2.2.2.1], ()))) else (bif decide (a0.1 = 26) then (Option.bind (U20.f k a0.2.2.2.2.2.2.1) fun r10 => some ((((), ()), ()), (r10.2.1, ()))) else (some ((((), ()), ()), (([] : List Int), ())))))) else (bif decide (a0.1 = 27) then (some ((((), ()), ()), ([a0.2.2.1], ()))) else (bif decide (a0.1 = 22) then (some ((((), ()), ()), ([a0.2.2.1, a0.2.2.2.1, a0.2.2.2.2.1], ()))) else (bif decide (a0.1 = 26) then (Option.bind (U20.f k a0.2.2.2.2.2.2.1) fun r11 => some ((((), ()), ()), (r11.2.1, ()))) else (some ((((), ()), ()), (([] : List Int), ()))))))))))
abbrev S : ShapeParts := ⟨[⟨true, [.int .i64, .int .i64, .int .i64, .int .i64, .int .i64, .int .i64, .lst (.int .i64)]⟩], [], false, [⟨false, [.own 100]⟩], [(100, .row true (.int .i64))], []⟩
def s (k : Nat) : FS := S.fs fun x => f k x.1.1
def E (k : Nat) : Ents := [(⟨58, []⟩, U19.s k), (⟨76, []⟩, U20.s k)]
def L : List (LS R) := []
def c : Code := Tryz.f96.body.getD .skip
theorem eq (k : Nat) (x) : (s k).pf x = execF tab (E k) Tryz.f96 c (s k) L x := by kernel_rfl
theorem sound : ∀ k, Sound Tryz.prog 96 (s k) := snd S (fun k => (s k).pf) E (fun k => (EntsOK.cons (U19.sound k) (EntsOK.cons (U20.sound k) EntsOK.nil))) (fun k => L) (fun k => trivial) eq
end U21
namespace U22
abbrev R := (((Int × Unit) × Unit) × Unit)
def f (k : Nat) (a0 : Int) : Option R := bif decide (0 ≤ IntKind.wrap .u64 a0) then (some (((V.shl .i64 1 (IntKind.wrap .u64 a0), ()), ()), ())) else none
abbrev S : ShapeParts := ⟨[⟨false, [.int .i64]⟩], [], false, [⟨false, [.int .i64]⟩], [], []⟩
def s (k : Nat) : FS := S.fs fun x => f k x.1.1.1
def E (k : Nat) : Ents := []
def L : List (LS R) := []
def c : Code := Tryz.f133.body.getD .skip
theorem eq (k : Nat) (x) : (s k).pf x = execF tab (E k) Tryz.f133 c (s k) L x := by kernel_rfl
theorem sound : ∀ k, Sound Tryz.prog 133 (s k) := snd S (fun k => (s k).pf) E (fun k => EntsOK.nil) (fun k => L) (fun k => trivial) eq
end U22
namespace U23
abbrev R := (((Bool × Unit) × Unit) × Unit)
def f (k : Nat) (a0 : Int) (a1 : Int) : Option R := Option.bind (U18.f k a0) fun r1 => bif r1.1.1.1 then (Option.bind (U22.f k a0) fun r2 => Option.bind (U19.f k a1 0 (IntKind.wrap .i64 (r2.1.1.1 - 1))) fun r3 => some (((r3.1.1.1, ()), ()), ())) else (some (((false, ()), ()), ()))
abbrev S : ShapeParts := ⟨[⟨false, [.int .i64]⟩, ⟨false, [.int .i64]⟩], [], false, [⟨false, [.bool]⟩], [], []⟩
def s (k : Nat) : FS := S.fs fun x => f k x.1.1.1 x.1.2.1.1
def E (k : Nat) : Ents := [(⟨57, []⟩, U18.s k), (⟨133, []⟩, U22.s k), (⟨58, []⟩, U19.s k)]
def L : List (LS R) := []
def c : Code := Tryz.f97.body.getD .skip
theorem eq (k : Nat) (x) : (s k).pf x = execF tab (E k) Tryz.f97 c (s k) L x := by kernel_rfl
theorem sound : ∀ k, Sound Tryz.prog 97 (s k) := snd S (fun k => (s k).pf) E (fun k => (EntsOK.cons (U18.sound k) (EntsOK.cons (U22.sound k) (EntsOK.cons (U19.sound k) EntsOK.nil)))) (fun k => L) (fun k => trivial) eq
end U23
namespace U24
abbrev R := (((Bool × Unit) × Unit) × Unit)
abbrev T0 : Type := Int → Int → Int → tInstD → (List Int) → Option R
def l0_ (k : Nat) (l0 : T0) (a0 : Int) (a1 : Int) (a2 : Int) (a3 : tInstD) (a4 : List Int) : Option R := bif decide (a2 < ((List.length a4 : Nat) : Int)) then (bif (decide (0 ≤ a2)) && (decide (a2 < ((List.length a4 : Nat) : Int))) then (Option.bind (U19.f k (List.getD a4 (Int.toNat a2) 0) 0 (IntKind.wrap .i64 (a0 - 1))) fun r1 => bif !r1.1.1.1 then (some (((false, ()), ()), ())) else (l0 a0 a1 (IntKind.wrap .i64 (a2 + 1)) a3 a4)) else none) else (bif decide (a3.1 = 24) then (bif !(true == (decide (a3.2.1 = 0))) then (some (((false, ()), ()), ())) else (bif decide (4 < ((List.length a3.2.2.2.2.2.2.1 : Nat) : Int)) then (some (((false, ()), ()), ())) else (bif decide (a3.1 = 26) then (bif decide (0 < 1) then (bif !decide (a3.2.2.1 = 0) then (some (((false, ()), ()), ())) else (bif decide (0 < 2) then (bif !decide (a3.2.2.2.1 = 0) then (some (((false, ()), ()), ())) else (bif decide (0 < 3) then (bif !decide (a3.2.2.2.2.1 = 0) then (some (((false, ()), ()), ())) else (bif decide (a3.1 = 21) then (Option.bind (U23.f k a3.2.1 a3.2.2.2.2.2.1) fun r2 => some (((r2.1.1.1, ()), ()), ())) else (bif decide (a3.1 = 26) then (Option.bind (U19.f k a3.2.2.2.2.2.1 0 (IntKind.wrap .i64 (a1 - 1))) fun r3 => some (((r3.1.1.1, ()), ()), ())) else (bif decide (a3.1 = 23) then (bif decide (a3.2.1 = 8) then (some (((decide (a3.2.2.2.2.2.1 = 0), ()), ()), ())) else (some (((false, ()), ()), ()))) else (some (((decide (a3.2.2.2.2.2.1 = 0), ()), ()), ())))))) else (bif decide (a3.1 = 21) then (Option.bind (U23.f k a3.2.1 a3.2.2.2.2.2.1) fun r4 => some (((r4.1.1.1, ()), ()), ())) else (bif decide (a3.1 = 26) then (Option.bind (U19.f k a3.2.2.2.2.2.1 0 (IntKind.wrap .i64 (a1 - 1))) fun r5 => some (((r5.1.1.1, ()), ()), ())) else (bif decide (a3.1 = 23) then (bif decide (a3.2.1 = 8) then (some (((decide (a3.2.2.2.2.2.1 = 0), ()), ()), ())) else (some (((false, ()), ()), ()))) else (some (((decide (a3.2.2.2.2.2.1 = 0), ()), ()), ()))))))) else (bif decide (0 < 3) then (bif !decide (a3.2.2.2.2.1 = 0) then (some (((false, ()), ()), ())) else (bif decide (a3.1 = 21) then (Option.bind (U23.f k a3.2.1 a3.2.2.2.2.2.1) fun r6 => some (((r6.1.1.1, ()), ()), ())) else (bif decide (a3.1 = 26) then (Option.bind (U19.f k a3.2.2.2.2.2.1 0 (IntKind.wrap .i64 (a1 - 1))) fun r7 => some (((r7.1.1.1, ()), ()), ())) else (bif decide (a3.1 = 23) then (bif decide (a3.2.1 = 8) then (some (((decide (a3.2.2.2.2.2.1 = 0), ()), ()), ())) else (some (((false, ()), ()), ()))) else (some (((decide (a3.2.2.2.2.2.1 = 0), ()), ()), ())))))) else (bif decide (a3.1 = 21) then (Option.bind (U23.f k a3.2.1 a3.2.2.2.2.2.1) fun r8 => some (((r8.1.1.1, ()), ()), ())) else (bif decide (a3.1 = 26) then (Option.bind (U19.f k a3.2.2.2.2.2.1 0 (IntKind.wrap .i64 (a1 - 1))) fun r9 => some (((r9.1.1.1, ()), ()), ())) else (bif decide (a3.1 = 23) then (bif decide (a3.2.1 = 8) then (some (((decide (a3.2.2.2.2.2.1 = 0), ()), ()), ())) else (some (((false, ()), ()), ()))) else (some (((decide (a3.2.2.2.2.2.1 = 0), ()), ()), ())))))))) else (bif decide (0 < 2) then (bif !decide (a3.2.2.2.1 = 0) then (some (((false, ()), ()), ())) else (bif decide (0 < 3) then (bif !decide (a3.2.2.2.2.1 = 0) then (some (((false, ()), ()), ())) else (bif decide (a3.1 = 21) then (Option.bind (U23.f k a3.2.1 a3.2.2.2.2.2.1) fun r10 => some (((r10.1.1.1, ()), ()), ())) else (bif decide (a3.1 = 26) then (Option.bind (U19.f k a3.2.2.2.2.2.1 0 (IntKind.wrap .i64 (a1 - 1))) fun r11 => some (((r11.1.1.1, ()), ()), ())) else (bif decide (a3.1 = 23) then (bif decide (a3.2.1 = 8) then (some (((decide (a3.2.2.2.2.2.1 = 0), ()), ()), ())) else (some (((false, ()), ()), ()))) else (some (((decide (a3.2.2.2.2.2.1 = 0), ()), ()), ())))))) else (bif decide (a3.1 = 21) then (Option.bind (U23.f k a3.2.1 a3.2.2.2.2.2.1) fun r12 => some (((r12.1.1.1, ()), ()), ())) else (bif decide (a3.1 = 26) then (Option.bind (U19.f k a3.2.2.2.2.2.1 0 (IntKind.wrap .i64 (a1 - 1))) fun r13 => some (((r13.1.1.1, ()), ()), ())) else (bif decide (a3.1 = 23) then (bif decide (a3.2.1 = 8) then (some (((decide (a3.2.2.2.2.2.1 = 0), ()), ()), ())) else (some (((false, ()), ()), ()))) else (some (((decide (a3.2.2.2.2.2.1 = 0), ()), ()), ()))))))) else (bif decide (0 < 3) then (bif !decide (a3.2.2.2.2.1 = 0) then (some (((false, ()), ()), ())) else (bif decide (a3.1 = 21) then (Option.bind (U23.f k a3.2.1 a3.2.2.2.2.2.1) fun r14 => some (((r14.1.1.1, ()), ()), ())) else (bif decide (a3.1 = 26) then (Option.bind (U19.f k a3.2.2.2.2.2.1 0 (IntKind.wrap .i64 (a1 - 1))) fun r15 => some (((r15.1.1.1, ()), ()), ())) else (bif decide (a3.1 = 23) then (bif decide (a3.2.1 = 8) then (some (((decide (a3.2.2.2.2.2.1 = 0), ()), ()), ())) else (some (((false, ()), ()), ()))) else (some (((decide (a3.2.2.2.2.2.1 = 0), ()), ()), ())))))) else (bif decide (a3.1 = 21) then (Option.bind (U23.f k a3.2.1 a3.2.2.2.2.2.1) fun r16 => some (((r16.1.1.1, ()), ()), ())) else (bif decide (a3.1 = 26) then (Option.bind (U19.f k a3.2.2.2.2.2.1 0 (IntKind.wrap .i64 (a1 - 1))) fun r17 => some (((r17.1.1.1, ()), ()), ())) else (bif decide (a3.1 = 23) then (bif decide (a3.2.1 = 8) then (some (((decide (a3.2.2.2.2.2.1 = 0), ()), ()), ())) else (some (((false, ()), ()), ()))) else (some (((decide (a3.2.2.2.2.2.1 = 0), ()), ()), ())))))))) else (bif decide (((List.length a4 : Nat) : Int) < 1) then (bif !decide (a3.2.2.1 = 0) then (some (((false, ()), ()), ())) else (bif decide (((List.length a4 : Nat) : Int) < 2) then (bif !decide (a3.2.2.2.1 = 0) then (some (((false, ()), ()), ())) else (bif decide (((List.length a4 : Nat) : Int) < 3) then (bif !decide (a3.2.2.2.2.1 = 0) then (some (((false, ()), ()), ())) else (bif decide (a3.1 = 21) then (Option.bind (U23.f k a3.2.1 a3.2.2.2.2.2.1) fun r18 => some (((r18.1.1.1, ()), ()), ())) else (bif decide (a3.1 = 26) then (Option.bind (U19.f k a3.2.2.2.2.2.1 0 (IntKind.wrap .i64 (a1 - 1))) fun r19 => some (((r19.1.1.1, ()), ()), ())) else (bif decide (a3.1 = 23) then (bif decide (a3.2.1 = 8) then (some (((decide (a3.2.2.2.2.2.1 = 0), ()), ()), ())) else (some (((false, ()), ()), ()))) else (some (((decide (a3.2.2.2.2.2.1 = 0), ()), ()), ())))))) else (bif decide (a3.1 = 21) then (Option.bind (U23.f k a3.2.1 a3.2.2.2.2.2.1) fun r20 => some (((r20.1.1.1, ()), ()), ())) else (bif decide (a3.1 = 26) then (Option.bind (U19.f k a3.2.2.2.2.2.1 0 (IntKind.wrap .i64 (a1 - 1))) fun r21 => some (((r21.1.1.1, ()), ()), ())) else (bif decide (a3.1 = 23) then (bif decide (a3.2.1 = 8) then (some (((decide (a3.2.2.2.2.2.1 = 0), ()), ()), ())) else (some (((false, ()), ()), ()))) else (some (((decide (a3.2.2.2.2.2.1 = 0), ()), ()), ()))))))) else (bif decide (((List.length a4 : Nat) : Int) < 3) then (bif !decide (a3.2.2.2.2.1 = 0) then (some (((false, ()), ()), ())) else (bif decide (a3.1 = 21) then (Option.bind (U23.f k a3.2.1 a3.2.2.2.2.2.1) fun r22 => some (((r22.1.1.1, ()), ()), ())) else (bif decide (a3.1 = 26) then (Option.bind (U19.f k a3.2.2.2.2.2.1 0 (IntKind.wrap .i64 (a1 - 1))) fun r23 => some (((r23.1.1.1, ()), ()), ())) else (bif decide (a3.1 = 23) then (bif decide (a3.2.1 = 8) then (some (((decide (a3.2.2.2.2.2.1 = 0), ()), ()), ())) else (some (((false, ()), ()), ()))) else (some (((decide (a3.2.2.2.2.2.1 = 0), ()), ()), ())))))) else (bif decide (a3.1 = 21) then (Option.bind (U23.f k a3.2.1 a3.2.2.2.2.2.1) fun r24 => some (((r24.1.1.1, ()), ()), ())) else (bif decide (a3.1 = 26) then (Option.bind (U19.f k a3.2.2.2.2.2.1 0 (IntKind.wrap .i64 (a1 - 1))) fun r25 => some (((r25.1.1.1, ()), ()), ())) else (bif decide (a3.1 = 23) then (bif decide (a3.2.1 = 8) then (some (((decide (a3.2.2.2.2.2.1 = 0), ()), ()), ())) else (some (((false, ()), ()), ()))) else (some (((decide (a3.2.2.2.2.2.1 = 0), ()), ()), ())))))))) else (bif decide (((List.length a4 : Nat) : Int) < 2) then (bif !decide (a3.2.2.2.1 = 0) then (some (((false, ()), ()), ())) else (bif decide (((List.length a4 : Nat) : Int) < 3) then (bif !decide (a3.2.2.2.2.1 = 0) then (some (((false, ()), ()), ())) else (bif decide (a3.1 = 21) then (Option.bind (U23.f k a3.2.1 a3.2.2.2.2.2.1) fun r26 => some (((r26.1.1.1, ()), ()), ())) else (bif decide (a3.1 = 26) then (Option.bind (U19.f k a3.2.2.2.2.2.1 0 (IntKind.wrap .i64 (a1 - 1))) fun r27 => some (((r27.1.1.1, ()), ()), ())) else (bif decide (a3.1 = 23) then (bif decide (a3.2.1 = 8) then (some (((decide (a3.2.2.2.2.2.1 = 0), ()), ()), ())) else (some (((false, ()), ()), ()))) else (some (((decide (a3.2.2.2.2.2.1 = 0), ()), ()), ())))))) else (bif decide (a3.1 = 21) then (Option.bind (U23.f k a3.2.1 a3.2.2.2.2.2.1) fun r28 => some (((r28.1.1.1, ()), ()), ())) else (bif decide (a3.1 = 26) then (Option.bind (U19.f k a3.2.2.2.2.2.1 0 (IntKind.wrap .i64 (a1 - 1))) fun r29 => some (((r29.1.1.1, ()), ()), ())) else (bif decide (a3.1 = 23) then (bif decide (a3.2.1 = 8) then (some (((decide (a3.2.2.2.2.2.1 = 0), ()), ()), ())) else (some (((false, ()), ()), ()))) else (some (((decide (a3.2.2.2.2.2.1 = 0), ()), ()), ()))))))) else (bif decide (((List.length a4 : Nat) : Int) < 3) then (bif !decide (a3.2.2.2.2.1 = 0) then (some (((false, ()), ()), ())) else (bif decide (a3.1 = 21) then (Option.bind (U23.f k a3.2.1 a3.2.2.2.2.2.1) fun r30 => some (((r30.1.1.1, ()), ()), ())) else (bif decide (a3.1 = 26) then (Option.bind (U19.f k a3.2.2.2.2.2.1 0 (IntKind.wrap .i64 (a1 - 1))) fun r31 => some (((r31.1.1.1, ()), ()), ())) else (bif decide (a3.1 = 23) then (bif decide (a3.2.1 = 8) then (some (((decide (a3.2.2.2.2.2.1 = 0), ()), ()), ())) else (some (((false, ()), ()), ()))) else (some (((decide (a3.2.2.2.2.2.1 = 0), ()), ()), ())))))) else (bif decide (a3.1 = 21) then (Option.bind (U23.f k a3.2.1 a3.2.2.2.2.2.1) fun r32 => some (((r32.1.1.1, ()), ()), ())) else (bif decide (a3.1 = 26) then (Option.bind (U19.f k a3.2.2.2.2.2.1 0 (IntKind.wrap .i64 (a1 - 1))) fun r33 => some (((r33.1.1.1, ()), ()), ())) else (bif decide (a3.1 = 23) then (bif decide (a3.2.1 = 8) then (some (((decide (a3.2.2.2.2.2.1 = 0), ()), ()), ())) else (some (((false, ()), ()), ()))) else (some (((decide (a3.2.2.2.2.2.1 = 0), ()), ()), ()))))))))))) else (bif !((decide (a3.1 = 25)) == (decide (a3.2.1 = 0))) then (some (((false, ()), ()), ())) else (bif !(decide (a3.1 = 25)) then (Option.bind (U18.f k a3.2.1) fun r34 => bif !r34.1.1.1 then (some (((false, ()), ()), ())) else (bif decide (4 < ((List.length a3.2.2.2.2.2.2.1 : Nat) : Int)) then (some (((false, ()), ()), ())) else (bif decide (a3.1 = 26) then (bif decide (0 < 1) then (bif !decide (a3.2.2.1 = 0) then (some (((false, ()), ()), ())) else (bif decide (0 < 2) then (bif !decide (a3.2.2.2.1 = 0) then (some (((false, ()), ()), ())) else (bif decide (0 < 3) then (bif !decide (a3.2.2.2.2.1 = 0) then (some (((false, ()), ()), ())) else (bif decide (a3.1 = 21) then (Option.bind (U23.f k a3.2.1 a3.2.2.2.2.2.1) fun r35 => some (((r35.1.1.1, ()), ()), ())) else (bif decide (a3.1 = 26) then (Option.bind (U19.f k a3.2.2.2.2.2.1 0 (IntKind.wrap .i64 (a1 - 1))) fun r36 => some (((r36.1.1.1, ()), ()), ())) else (bif decide (a3.1 = 23) then (bif decide (a3.2.1 = 8) then (some (((decide (a3.2.2.2.2.2.1 = 0), ()), ()), ())) else (some (((false, ()), ()), ()))) else (some (((decide (a3.2.2.2.2.2.1 = 0), ()), ()), ())))))) else (bif decide (a3.1 = 21) then (Option.bind (U23.f k a3.2.1 a3.2.2.2.2.2.1) fun r37 => some (((r37.1.1.1, ()), ()), ())) else (bif decide (a3.1 = 26) then (Option.bind (U19.f k a3.2.2.2.2.2.1 0 (IntKind.wrap .i64 (a1 - 1))) fun r38 => some (((r38.1.1.1, ()), ()), ())) else (bif decide (a3.1 = 23) then (bif decide (a3.2.1 = 8) then (some (((decide (a3.2.2.2.2.2.1 = 0), ()), ()), ())) else (some (((false, ()), ()), ()))) else (some (((decide (a3.2.2.2.2.2.1 = 0), ()), ()), ()))))))) else (bif decide (0 < 3) then (bif !decide (a3.2.2.2.2.1 = 0) then (some (((false, ()), ()), ())) else (bif decide (a3.1 = 21) then (Option.bind (U23.f k a3.2.1 a3.2.2.2.2.2.1) fun r39 => some (((r39.1.1.1, ()), ()), ())) else (bif decide (a3.1 = 26) then (Option.bind (U19.f k a3.2.2.2.2.2.1 0 (IntKind.wrap .i64 (a1 - 1))) fun r40 => some (((r40.1.1.1, ()), ()), ())) else (bif decide (a3.1 = 23) then (bif decide (a3.2.1 = 8) then (some (((decide (a3.2.2.2.2.2.1 = 0), ()), ()), ())) else (some (((false, ()), ()), ()))) else (some (((decide (a3.2.2.2.2.2.1 = 0), ()), ()), ())))))) else (bif decide (a3.1 = 21) then (Option.bind (U23.f k a3.2.1 a3.2.2.2.2.2.1) fun r41 => some (((r41.1.1.1, ()), ()), ())) else (bif decide (a3.1 = 26) then (Option.bind (U19.f k a3.2.2.2.2.2.1 0 (IntKind.wrap .i64 (a1 - 1))) fun r42 => some (((r42.1.1.1, ()), ()), ())) else (bif decide (a3.1 = 23) then (bif decide (a3.2.1 = 8) then (some (((decide (a3.2.2.2.2.2.1 = 0), ()), ()), ())) else (some (((false, ()), ()), ()))) else (some (((decide (a3.2.2.2.2.2.1 = 0), ()), ()), ())))))))) else (bif decide (0 < 2) then (bif !decide (a3.2.2.2.1 = 0) then (some (((false, ()), ()), ())) else (bif decide (0 < 3) then (bif !decide (a3.2.2.2.2.1 = 0) then (some (((false, ()), ()), ())) else (bif decide (a3.1 = 21) then (Option.bind (U23.f k a3.2.1 a3.2.2.2.2.2.1) fun r43 => some (((r43.1.1.1, ()), ()), ())) else (bif decide (a3.1 = 26) then (Option.bind (U19.f k a3.2.2.2.2.2.1 0 (IntKind.wrap .i64 (a1 - 1))) fun r44 => some (((r44.1.1.1, ()), ()), ())) else (bif decide (a3.1 = 23) then (bif decide (a3.2.1 = 8) then (some (((decide (a3.2.2.2.2.2.1 = 0), ()), ()), ())) else (some (((false, ()), ()), ()))) else (some (((decide (a3.2.2.2.2.2.1 = 0), ()), ()), ())))))) else (bif decide (a3.1 = 21) then (Option.bind (U23.f k a3.2.1 a3.2.2.2.2.2.1) fun r45 => some (((r45.1.1.1, ()), ()), ())) else (bif decide (a3.1 = 26) then (Option.bind (U19.f k a3.2.2.2.2.2.1 0 (IntKind.wrap .i64 (a1 - 1))) fun r46 => some (((r46.1.1.1, ()), ()), ())) else (bif decide (a3.1 = 23) then (bif decide (a3.2.1 = 8) then (some (((decide (a3.2.2.2.2.2.1 = 0), ()), ()), ())) else (some (((false, ()), ()), ()))) else (some (((decide (a3.2.2.2.2.2.1 = 0), ()), ()), ()))))))) else (bif decide (0 < 3) then (bif !decide (a3.2.2.2.2.1 = 0) then (some (((false, ()), ()), ())) else (bif decide (a3.1 = 21) then (Option.bind (U23.f k a3.2.1 a3.2.2.2.2.2.1) fun r47 => some (((r47.1.1.1, ()), ()), ())) else (bif decide (a3.1 = 26) then (Option.bind (U19.f k a3.2.2.2.2.2.1 0 (IntKind.wrap .i64 (a1 - 1))) fun r48 => some (((r48.1.1.1, ()), ()), ())) else (bif decide (a3.1 = 23) then (bif decide (a3.2.1 = 8) then (some (((decide (a3.2.2.2.2.2.1 = 0), ()), ()), ())) else (some (((false, ()), ()), ()))) else (some (((decide (a3.2.2.2.2.2.1 = 0), ()), ()), ())))))) else (bif decide (a3.1 = 21) then (Option.bind (U23.f k a3.2.1 a3.2.2.2.2.2.1) fun r49 => some (((r49.1.1.1, ()), ()), ())) else (bif decide (a3.1 = 26) then (Option.bind (U19.f k a3.2.2.2.2.2.1 0 (IntKind.wrap .i64 (a1 - 1))) fun r50 => some (((r50.1.1.1, ()), ()), ())) else (bif decide (a3.1 = 23) then (bif decide (a3.2.1 = 8) then (some (((decide (a3.2.2.2.2.2.1 = 0), ()), ()), ())) else (some (((false, ()), ()), ()))) else (some (((decide (a3.2.2.2.2.2.1 = 0), ()), ()), ())))))))) else (bif decide (((List.length a4 : Nat) : Int) < 1) then (bif !decide (a3.2.2.1 = 0) then (some (((false, ()), ()), ())) else (bif decide (((List.length a4 : Nat) : Int) < 2) then (bif !decide (a3.2.2.2.1 = 0) then (some (((false, ()), ()), ())) else (bif decide (((List.length a4 : Nat) : Int) < 3) then (bif !decide (a3.2.2.2.2.1 = 0) then (some (((false, ()), ()), ())) else (bif decide (a3.1 = 21) then (Option.bind (U23.f k a3.2.1 a3.2.2.2.2.2.1) fun r51 => some (((r51.1.1.1, ()), ()), ())) else (bif decide (a3.1 = 26) then (Option.bind (U19.f k a3.2.2.2.2.2.1 0 (IntKind.wrap .i64 (a1 - 1))) fun r52 => some (((r52.1.1.1, ()), ()), ())) else (bif decide (a3.1 = 23) then (bif decide (a3.2.1 = 8) then (some (((decide (a3.2.2.2.2.2.1 = 0), ()), ()), ())) else (some (((false, ()), ()), ()))) else (some (((decide (a3.2.2.2.2.2.1 = 0), ()), ()), ())))))) else (bif decide (a3.1 = 21) then (Option.bind (U23.f k a3.2.1 a3.2.2.2.2.2.1) fun r53 => some (((r53.1.1.1, ()), ()), ())) else (bif decide (a3.1 = 26) then (Option.bind (U19.f k a3.2.2.2.2.2.1 0 (IntKind.wrap .i64 (a1 - 1))) fun r54 => some (((r54.1.1.1, ()), ()), ())) else (bif decide (a3.1 = 23) then (bif decide (a3.2.1 = 8) then (some (((decide (a3.2.2.2.2.2.1 = 0), ()), ()), ())) else (some (((false, ()), ()), ()))) else (some (((decide (a3.2.2.2.2.2.1 = 0), ()), ()), ()))))))) else (bif decide (((List.length a4 : Nat) : Int) < 3) then (bif !decide (a3.2.2.2.2.1 = 0) then (some (((false, ()), ()), ())) else (bif decide (a3.1 = 21) then (Option.bind (U23.f k a3.2.1 a3.2.2.2.2.2.1) fun r55 => some (((r55.1.1.1, ()), ()), ())) else (bif decide (a3.1 = 26) then (Option.bind (U19.f k a3.2.2.2.2.2.1 0 (IntKind.wrap .i64 (a1 - 1))) fun r56 => some (((r56.1.1.1, ()), ()), ())) else (bif decide (a3.1 = 23) then (bif decide (a3.2.1 = 8) then (some (((decide (a3.2.2.2.2.2.1 = 0), ()), ()), ())) else (some (((false, ()), ()), ()))) else (some (((decide (a3.2.2.2.2.2.1 = 0), ()), ()), ())))))) else (bif decide (a3.1 = 21) then (Option.bind (U23.f k a3.2.1 a3.2.2.2.2.2.1) fun r57 => some (((r57.1.1.1, ()), ()), ())) else (bif decide (a3.1 = 26) then (Option.bind (U19.f k a3.2.2.2.2.2.1 0 (IntKind.wrap .i64 (a1 - 1))) fun r58 => some (((r58.1.1.1, ()), ()), ())) else (bif decide (a3.1 = 23) then (bif decide (a3.2.1 = 8) then (some (((decide (a3.2.2.2.2.2.1 = 0), ()), ()), ())) else (some (((false, ()), ()), ()))) else (some (((decide (a3.2.2.2.2.2.1 = 0), ()), ()), ())))))))) else (bif decide (((List.length a4 : Nat) : Int) < 2) then (bif !decide (a3.2.2.2.1 = 0) then (some (((false, ()), ()), ())) else (bif decide (((List.length a4 : Nat) : Int) < 3) then (bif !decide (a3.2.2.2.2.1 = 0) then (some (((false, ()), ()), ())) else (bif decide (a3.1 = 21) then (Option.bind (U23.f k a3.2.1 a3.2.2.2.2.2.1) fun r59 => some (((r59.1.1.1, ()), ()), ())) else (bif decide (a3.1 = 26) then (Option.bind (U19.f k a3.2.2.2.2.2.1 0 (IntKind.wrap .i64 (a1 - 1))) fun r60 => some (((r60.1.1.1, ()), ()), ())) else (bif decide (a3.1 = 23) then (bif decide (a3.2.1 = 8) then (some (((decide (a3.2.2.2.2.2.1 = 0), ()), ()), ())) else (some (((false, ()), ()), ()))) else (some (((decide (a3.2.2.2.2.2.1 = 0), ()), ()), ())))))) else (bif decide (a3.1 = 21) then (Option.bind (U23.f k a3.2.1 a3.2.2.2.2.2.1) fun r61 => some (((r61.1.1.1, ()), ()), ())) else (bif decide (a3.1 = 26) then (Option.bind (U19.f k a3.2.2.2.2.2.1 0 (IntKind.wrap .i64 (a1 - 1))) fun r62 => some (((r62.1.1.1, ()), ()), ())) else (bif decide (a3.1 = 23) then (bif decide (a3.2.1 = 8) then (some (((decide (a3.2.2.2.2.2.1 = 0), ()), ()), ())) else (some (((false, ()), ()), ()))) else (some (((decide (a3.2.2.2.2.2.1 = 0), ()), ()), ()))))))) else (bif decide (((List.length a4 : Nat) : Int) < 3) then (bif !decide (a3.2.2.2.2.1 = 0) then (some (((false, ()), ()), ())) else (bif decide (a3.1 = 21) then (Option.bind (U23.f k a3.2.1 a3.2.2.2.2.2.1) fun r63 => some (((r63.1.1.1, ()), ()), ())) else (bif decide (a3.1 = 26) then (Option.bind (U19.f k a3.2.2.2.2.2.1 0 (IntKind.wrap .i64 (a1 - 1))) fun r64 => some (((r64.1.1.1, ()), ()), ())) else (bif decide (a3.1 = 23) then (bif decide (a3.2.1 = 8) then (some (((decide (a3.2.2.2.2.2.1 = 0), ()), ()), ())) else (some (((false, ()), ()), ()))) else (some (((decide (a3.2.2.2.2.2.1 = 0), ()), ()), ())))))) else (bif decide (a3.1 = 21) then (Option.bind (U23.f k a3.2.1 a3.2.2.2.2.2.1) fun r65 => some (((r65.1.1.1, ()), ()), ())) else (bif decide (a3.1 = 26) then (Option.bind (U19.f k a3.2.2.2.2.2.1 0 (IntKind.wrap .i64 (a1 - 1))) fun r66 => some (((r66.1.1.1, ()), ()), ())) else (bif decide (a3.1 = 23) then (bif decide (a3.2.1 = 8) then (some (((decide (a3.2.2.2.2.2.1 = 0), ()), ()), ())) else (some (((false, ()), ()), ()))) else (some (((decide (a3.2.2.2.2.2.1 = 0), ()), ()), ()))))))))))) else (bif decide (4 < ((List.length a3.2.2.2.2.2.2.1 : Nat) : Int)) then (some (((false, ()), ()), ())) else (bif decide (a3.1 = 26) then (bif decide (0 < 1) then (bif !decide (a3.2.2.1 = 0) then (some (((false, ()), ()), ())) else (bif decide (0 < 2) then (bif !decide (a3.2.2.2.1 = 0) then (some (((false, ()), ()), ())) else (bif decide (0 < 3) then (bif !decide (a3.2.2.2.2.1 = 0) then (some (((false, ()), ()), ())) else (bif decide (a3.1 = 21) then (Option.bind (U23.f k a3.2.1 a3.2.2.2.2.2.1) fun r67 => some (((r67.1.1.1, ()), ()), ())) else (bif decide (a3.1 = 26) then (Option.bind (U19.f k a3.2.2.2.2.2.1 0 (IntKind.wrap .i64 (a1 - 1))) fun r68 => some (((r68.1.1.1, ()), ()), ())) else (bif decide (a3.1 = 23) then (bif decide (a3.2.1 = 8) then (some (((decide (a3.2.2.2.2.2.1 = 0), ()), ()), ())) else (some (((false, ()), ()), ()))) else (some (((decide (a3.2.2.2.2.2.1 = 0), ()), ()), ())))))) else (bif decide (a3.1 = 21) then (Option.bind (U23.f k a3.2.1 a3.2.2.2.2.2.1) fun r69 => some (((r69.1.1.1, ()), ()), ())) else (bif decide (a3.1 = 26) then (Option.bind (U19.f k a3.2.2.2.2.2.1 0 (IntKind.wrap .i64 (a1 - 1))) fun r70 => some (((r70.1.1.1, ()), ()), ())) else (bif decide (a3.1 = 23) then (bif decide (a3.2.1 = 8) then (some (((decide (a3.2.2.2.2.2.1 = 0), ()), ()), ())) else (some (((false, ()), ()), ()))) else (some (((decide (a3.2.2.2.2.2.1 = 0), ()), ()), ()))))))) else (bif decide (0 < 3) then (bif !decide (a3.2.2.2.2.1 = 0) then (some (((false, ()), ()), ())) else (bif decide (a3.1 = 21) then (Option.bind (U23.f k a3.2.1 a3.2.2.2.2.2.1) fun r71 => some (((r71.1.1.1, ()), ()), ())) else (bif decide (a3.1 = 26) then (Option.bind (U19.f k a3.2.2.2.2.2.1 0 (IntKind.wrap .i64 (a1 - 1))) fun r72 => some (((r72.1.1.1, ()), ()), ())) else (bif decide (a3.1 = 23) then (bif decide (a3.2.1 = 8) then (some (((decide (a3.2.2.2.2.2.1 = 0), ()), ()), ())) else (some (((false, ()), ()), ()))) else (some (((decide (a3.2.2.2.2.2.1 = 0), ()), ()), ())))))) else (bif decide (a3.1 = 21) then (Option.bind (U23.f k a3.2.1 a3.2.2.2.2.2.1) fun r73 => some (((r73.1.1.1, ()), ()), ())) else (bif decide (a3.1 = 26) then (Option.bind (U19.f k a3.2.2.2.2.2.1 0 (IntKind.wrap .i64 (a1 - 1))) fun r74 => some (((r74.1.1.1, ()), ()), ())) else (bif decide (a3.1 = 23) then (bif decide (a3.2.1 = 8) then (some (((decide (a3.2.2.2.2.2.1 = 0), ()), ()), ())) else (some (((false, ()), ()), ()))) else (some (((decide (a3.2.2.2.2.2.1 = 0), ()), ()), ())))))))) else (bif decide (0 < 2) then (bif !decide (a3.2.2.2.1 = 0) then (some (((false, ()), ()), ())) else (bif decide (0 < 3) then (bif !decide (a3.2.2.2.2.1 = 0) then (some (((false, ()), ()), ())) else (bif decide (a3.1 = 21) then (Option.bind (U23.f k a3.2.1 a3.2.2.2.2.2.1) fun r75 => some (((r75.1.1.1, ()), ()), ())) else (bif decide (a3.1 = 26) then (Option.bind (U19.f k a3.2.2.2.2.2.1 0 (IntKind.wrap .i64 (a1 - 1))) fun r76 => some (((r76.1.1.1, ()), ()), ())) else (bif decide (a3.1 = 23) then (bif decide (a3.2.1 = 8) then (some (((decide (a3.2.2.2.2.2.1 = 0), ()), ()), ())) else (some (((false, ()), ()), ()))) else (some (((decide (a3.2.2.2.2.2.1 = 0), ()), ()), ())))))) else (bif decide (a3.1 = 21) then (Option.bind (U23.f k a3.2.1 a3.2.2.2.2.2.1) fun r77 => some (((r77.1.1.1, ()), ()), ())) else (bif decide (a3.1 = 26) then (Option.bind (U19.f k a3.2.2.2.2.2.1 0 (IntKind.wrap .i64 (a1 - 1))) fun r78 => some (((r78.1.1.1, ()), ()), ())) else (bif decide (a3.1 = 23) then (bif decide (a3.2.1 = 8) then (some (((decide (a3.2.2.2.2.2.1 = 0), ()), ()), ())) else (some (((false, ()), ()), ()))) else (some (((decide (a3.2.2.2.2.2.1 = 0), ()), ()), ()))))))) else (bif decide (0 < 3) then (bif !decide (a3.2.2.2.2.1 = 0) then (some (((false, ()), ()), ())) else (bif decide (a3.1 = 21) then (Option.bind (U23.f k a3.2.1 a3.2.2.2.2.2.1) fun r79 => some (((r79.1.1.1, ()), ()), ())) else (bif decide (a3.1 = 26) then (Option.bind (U19.f k a3.2.2.2.2.2.1 0 (IntKind.wrap .i64 (a1 - 1))) fun r80 => some (((r80.1.1.1, ()), ()), ())) else (bif decide (a3.1 = 23) then (bif decide (a3.2.1 = 8) then (some (((decide (a3.2.2.2.2.2.1 = 0), ()), ()), ())) else (some (((false, ()), ()), ()))) else (some (((decide (a3.2.2.2.2.2.1 = 0), ()), ()), ())))))) else (bif decide (a3.1 = 21) then (Option.bind (U23.f k a3.2.1 a3.2.2.2.2.2.1) fun r81 => some (((r81.1.1.1, ()), ()), ())) else (bif decide (a3.1 = 26) then (Option.bind (U19.f k a3.2.2.2.2.2.1 0 (IntKind.wrap .i64 (a1 - 1))) fun r82 => some (((r82.1.1.1, ()), ()), ())) else (bif decide (a3.1 = 23) then (bif decide (a3.2.1 = 8) then (some (((decide (a3.2.2.2.2.2.1 = 0), ()), ()), ())) else (some (((false, ()), ()), ()))) else (some (((decide (a3.2.2.2.2.2.1 = 0), ()), ()), ())))))))) else (bif decide (((List.length a4 : Nat) : Int) < 1) then (bif !decide (a3.2.2.1 = 0) then (some (((false, ()), ()), ())) else (bif decide (((List.length a4 : Nat) : Int) < 2) then (bif !decide (a3.2.2.2.1 = 0) then (some (((false, ()), ()), ())) else (bif decide (((List.length a4 : Nat) : Int) < 3) then (bif !decide (a3.2.2.2.2.1 = 0) then (some (((false, ()), ()), ())) else (bif decide (a3.1 = 21) then (Option.bind (U23.f k a3.2.1 a3.2.2.2.2.2.1) fun r83 => some (((r83.1.1.1, ()), ()), ())) else (bif decide (a3.1 = 26) then (Option.bind (U19.f k a3.2.2.2.2.2.1 0 (IntKind.wrap .i64 (a1 - 1))) fun r84 => some (((r84.1.1.1, ()), ()), ())) else (bif decide (a3.1 = 23) then (bif decide (a3.2.1 = 8) then (some (((decide (a3.2.2.2.2.2.1 = 0), ()), ()), ())) else (some (((false, ()), ()), ()))) else (some (((decide (a3.2.2.2.2.2.1 = 0), ()), ()), ())))))) else (bif decide (a3.1 = 21) then (Option.bind (U23.f k a3.2.1 a3.2.2.2.2.2.1) fun r85 => some (((r85.1.1.1, ()), ()), ())) else (bif decide (a3.1 = 26) then (Option.bind (U19.f k a3.2.2.2.2.2.1 0 (IntKind.wrap .i64 (a1 - 1))) fun r86 => some (((r86.1.1.1, ()), ()), ())) else (bif decide (a3.1 = 23) then (bif decide (a3.2.1 = 8) then (some (((decide (a3.2.2.2.2.2.1 = 0), ()), ()), ())) else (some (((false, ()), ()), ()))) else (some (((decide (a3.2.2.2.2.2.1 = 0), ()), ()), ()))))))) else (bif decide (((List.length a4 : Nat) : Int) < 3) then (bif !decide (a3.2.2.2.2.1 = 0) then (some (((false, ()), ()), ())) else (bif decide (a3.1 = 21) then (Option.bind (U23.f k a3.2.1 a3.2.2.2.2.2.1) fun r87 => some (((r87.1.1.1, ()), ()), ())) else (bif decide (a3.1 = 26) then (Option.bind (U19.f k a3.2.2.2.2.2.1 0 (IntKind.wrap .i64 (a1 - 1))) fun r88 => some (((r88.1.1.1, ()), ()), ())) else (bif decide (a3.1 = 23) then (bif decide (a3.2.1 = 8) then (some (((decide (a3.2.2.2.2.2.1 = 0), ()), ()), ())) else (some (((false, ()), ()), ()))) else (some (((decide (a3.2.2.2.2.2.1 = 0), ()), ()), ())))))) else (bif decide (a3.1 = 21) then (Option.bind (U23.f k a3.2.1 a3.2.2.2.2.2.1) fun r89 => some (((r89.1.1.1, ()), ()), ())) else (bif decide (a3.1 = 26) then (Option.bind (U19.f k a3.2.2.2.2.2.1 0 (IntKind.wrap .i64 (a1 - 1))) fun r90 => some (((r90.1.1.1, ()), ()), ())) else (bif decide (a3.1 = 23) then (bif decide (a3.2.1 = 8) then (some (((decide (a3.2.2.2.2.2.1 = 0), ()), ()), ())) else (some (((false, ()), ()), ()))) else (some (((decide (a3.2.2.2.2.2.1 = 0), ()), ()), ())))))))) else (bif decide (((List.length a4 : Nat) : Int) < 2) then (bif !decide (a3.2.2.2.1 = 0) then (some (((false, ()), ()), ())) else (bif decide (((List.length a4 : Nat) : Int) < 3) then (bif !decide (a3.2.2.2.2.1 = 0) then (some (((false, ()), ()), ())) else (bif decide (a3.1 = 21) then (Option.bind (U23.f k a3.2.1 a3.2.2.2.2.2.1) fun r91 => some (((r91.1.1.1, ()), ()), ())) else (bif decide (a3.1 = 26) then (Option.bind (U19.f k a3.2.2.2.2.2.1 0 (IntKind.wrap .i64 (a1 - 1))) fun r92 => some (((r92.1.1.1, ()), ()), ())) else (bif decide (a3.1 = 23) then (bif decide (a3.2.1 = 8) then (some (((decide (a3.2.2.2.2.2.1 = 0), ()), ()), ())) else (some (((false, ()), ()), ()))) else (some (((decide (a3.2.2.2.2.2.1 = 0), ()), ()), ())))))) else (bif decide (a3.1 = 21) then (Option.bind (U23.f k a3.2.1 a3.2.2.2.2.2.1) fun r93 => some (((r93.1.1.1, ()), ()), ())) else (bif decide (a3.1 = 26) then (Option.bind (U19.f k a3.2.2.2.2.2.1 0 (IntKind.wrap .i64 (a1 - 1))) fun r94 => some (((r94.1.1.1, ()), ()), ())) else (bif decide (a3.1 = 23) then (bif decide (a3.2.1 = 8) then (some (((decide (a3.2.2.2.2.2.1 = 0), ()), ()), ())) else (some (((false, ()), ()), ()))) else (some (((decide (a3.2.2.2.2.2.1 = 0), ()), ()), ()))))))) else (bif decide (((List.length a4 : Nat) : Int) < 3) then (bif !decide (a3.2.2.2.2.1 = 0) then (some (((false, ()), ()), ())) else (bif decide (a3.1 = 21) then (Option.bind (U23.f k a3.2.1 a3.2.2.2.2.2.1) fun r95 => some (((r95.1.1.1, ()), ()), ())) else (bif decide (a3.1 = 26) then (Option.bind (U19.f k a3.2.2.2.2.2.1 0 (IntKind.wrap .i64 (a1 - 1))) fun r96 => some (((r96.1.1.1, ()), ()), ())) else (bif decide (a3.1 = 23) then (bif decide (a3.2.1 = 8) then (some (((decide (a3.2.2.2.2.2.1 = 0), ()), ()), ())) else (some (((false, ()), ()), ()))) else (some (((decide (a3.2.2.2.2.2.1 = 0), ()), ()), ())))))) else (bif decide (a3.1 = 21) then (Option.bind (U23.f k a3.2.1 a3.2.2.2.2.2.1) fun r97 => some (((r97.1.1.1, ()), ()), ())) else (bif decide (a3.1 = 26) then (Option.bind (U19.f k a3.2.2.2.2.2.1 0 (IntKind.wrap .i64 (a1 - 1))) fun r98 => some (((r98.1.1.1, ()), ()), ())) else (bif decide (a3.1 = 23) then (bif decide (a3.2.1 = 8) then (some (((decide (a3.2.2.2.2.2.1 = 0), ()), ()), ())) else (some (((false, ()), ()), ()))) else (some (((decide (a3.2.2.2.2.2.1 = 0), ()), ()), ())))))))))))))
def all : Nat → (T0) × Unit
 | 0 => (fun _ _ _ _ _ => none, ())
 | k + 1 => (l0_ k (all k).1, ())
def l0 (k : Nat) : T0 := (all k).1
def f (k : Nat) (a0 : tInstD) (a1 : Int) (a2 : Int) : Option R := Option.bind (U19.f k a0.1 1 27) fun r1 => bif !r1.1.1.1 then (some (((false, ()), ()), ())) else (bif !decide (a0.1 = 26) then (bif decide (0 < ((List.length a0.2.2.2.2.2.2.1 : Nat) : Int)) then (some (((false, ()), ()), ())) else (Option.bind (U21.f k a0) fun r2 => l0 k a1 a2 0 a0 r2.2.1)) else (Option.bind (U21.f k a0) fun r3 => l0 k a1 a2 0 a0 r3.2.1))
abbrev S : ShapeParts := ⟨[⟨true, [.int .i64, .int .i64, .int .i64, .int .i64, .int .i64, .int .i64, .lst (.int .i64)]⟩, ⟨false, [.int .i64]⟩, ⟨false, [.int .i64]⟩], [], false, [⟨false, [.bool]⟩], [], []⟩
def s (k : Nat) : FS := S.fs fun x => f k x.1.1 x.1.2.1.1 x.1.2.2.1.1
def E (k : Nat) : Ents := [(⟨58, []⟩, U19.s k), (⟨96, []⟩, U21.s k), (⟨97, []⟩, U23.s k), (⟨57, []⟩, U18.s k)]
def L0 (l : T0) : LS R := ⟨[], [(1, ⟨false, [.int .i64]⟩), (2, ⟨false, [.int .i64]⟩), (3, ⟨false, [.ptr 100000 0]⟩), (7, ⟨false, [.own 100001]⟩), (8, ⟨false, [.int .i64]⟩)], [(100000, .box [.int .i64, .int .i64, .int .i64, .int .i64, .int .i64, .int .i64, .lst (.int .i64)]), (100001, .row true (.int .i64))], fun x => l x.1.1.1 x.1.2.1.1 x.1.2.2.2.2.1.1 x.2.1 x.2.2.1⟩
def L (l0 : T0) : List (LS R) := [L0 l0]
def c : Code := Tryz.f59.body.getD .skip
theorem eq (k : Nat) (x) : (s k).pf x = execF tab (E k) Tryz.f59 c (s k) (L (l0 k)) x := by kernel_rfl
theorem r0 (l0 : T0) (k : Nat) (x) : (L0 (l0_ k l0)).l x = roundOf tab (E k) (L l0) c (fin tab Tryz.f59 (s k)) 0 (L0 l0) x := by kernel_rfl
theorem sound : ∀ k, Sound Tryz.prog 59 (s k) := snd S (fun k => (s k).pf) E (fun k => (EntsOK.cons (U19.sound k) (EntsOK.cons (U21.sound k) (EntsOK.cons (U23.sound k) (EntsOK.cons (U18.sound k) EntsOK.nil))))) (fun k => L (l0 k)) (fun k => ⟨⟨(L0 (l0 (k + 1))).l, rfl, fun x => r0 (l0 k) k x⟩, trivial⟩) eq
end U24
namespace U25
abbrev R := (((Bool × Unit) × Unit) × Unit)
def f (k : Nat) (a0 : tTermD) (a1 : Int) (a2 : Int) : Option R := bif decide (a0.1 = 1) then (Option.bind (U19.f k a0.2.1 0 (IntKind.wrap .i64 (a1 - 1))) fun r1 => bif r1.1.1.1 then (bif decide (a0.2.2.1 = 0) then (some (((decide (a0.2.2.2.1 = 0), ()), ()), ())) else (some (((false, ()), ()), ()))) else (some (((false, ()), ()), ()))) else (bif decide (a0.1 = 2) then (bif decide (a0.2.1 = 0) then (Option.bind (U19.f k a0.2.2.1 0 (IntKind.wrap .i64 (a2 - 1))) fun r2 => bif r2.1.1.1 then (some (((decide (a0.2.2.2.1 = 0), ()), ()), ())) else (some (((false, ()), ()), ()))) else (some (((false, ()), ()), ()))) else (bif decide (a0.1 = 3) then (Option.bind (U19.f k a0.2.1 0 (IntKind.wrap .i64 (a1 - 1))) fun r3 => bif r3.1.1.1 then (Option.bind (U19.f k a0.2.2.1 0 (IntKind.wrap .i64 (a2 - 1))) fun r4 => bif r4.1.1.1 then (Option.bind (U19.f k a0.2.2.2.1 0 (IntKind.wrap .i64 (a2 - 1))) fun r5 => bif r5.1.1.1 then (some (((!decide (a0.2.2.1 = a0.2.2.2.1), ()), ()), ())) else (some (((false, ()), ()), ()))) else (some (((false, ()), ()), ()))) else (some (((false, ()), ()), ()))) else (bif decide (a0.1 = 4) then (bif decide (a0.2.1 = 0) then (bif decide (a0.2.2.1 = 0) then (some (((decide (a0.2.2.2.1 = 0), ()), ()), ())) else (some (((false, ()), ()), ()))) else (some (((false, ()), ()), ()))) else (some (((false, ()), ()), ())))))
abbrev S : ShapeParts := ⟨[⟨true, [.int .i64, .int .i64, .int .i64, .int .i64]⟩, ⟨false, [.int .i64]⟩, ⟨false, [.int .i64]⟩], [], false, [⟨false, [.bool]⟩], [], []⟩
def s (k : Nat) : FS := S.fs fun x => f k x.1.1 x.1.2.1.1 x.1.2.2.1.1
def E (k : Nat) : Ents := [(⟨58, []⟩, U19.s k)]
def L : List (LS R) := []
def c : Code := Tryz.f60.body.getD .skip
theorem eq (k : Nat) (x) : (s k).pf x = execF tab (E k) Tryz.f60 c (s k) L x := by kernel_rfl
theorem sound : ∀ k, Sound Tryz.prog 60 (s k) := snd S (fun k => (s k).pf) E (fun k => (EntsOK.cons (U19.sound k) EntsOK.nil)) (fun k => L) (fun k => trivial) eq
end U25
namespace U26
abbrev R := (((Bool × Unit) × Unit) × Unit)
abbrev T0 : Type := Int → Int → Int → Int → tFuncD → Option R
abbrev T1 : Type := Int → Int → Int → Int → Int → tFuncD → tBlockD → Option R
abbrev T2 : Type := Int → Int → Int → Int → Int → Int → tFuncD → tBlockD → Option R
def l0_ (k : Nat) (l0 : T0) (l1 : T0) (l2 : T1) (l3 : T2) (l4 : T1) (a0 : Int) (a1 : Int) (a2 : Int) (a3 : Int) (a4 : tFuncD) : Option R := bif decide (a3 < ((List.length a4.1 : Nat) : Int)) then (bif (decide (0 ≤ a3)) && (decide (a3 < ((List.length a4.1 : Nat) : Int))) then (Option.bind (U18.f k (List.getD a4.1 (Int.toNat a3) 0)) fun r1 => bif !r1.1.1.1 then (some (((false, ()), ()), ())) else (l0 a0 a1 a2 (IntKind.wrap .i64 (a3 + 1)) a4)) else none) else (l1 a0 a1 a2 0 a4)
def l1_ (k : Nat) (l0 : T0) (l1 : T0) (l2 : T1) (l3 : T2) (l4 : T1) (a0 : Int) (a1 : Int) (a2 : Int) (a3 : Int) (a4 : tFuncD) : Option R := bif decide (a3 < ((List.length a4.2.2.1 : Nat) : Int)) then (bif (decide (0 ≤ a3)) && (decide (a3 < ((List.length a4.2.2.1 : Nat) : Int))) then (l2 a0 a1 a2 a3 0 a4 (List.getD a4.2.2.1 (Int.toNat a3) tBlockZ)) else none) else (some (((true, ()), ()), ()))
def l2_ (k : Nat) (l0 : T0) (l1 : T0) (l2 : T1) (l3 : T2) (l4 : T1) (a0 : Int) (a1 : Int) (a2 : Int) (a3 : Int) (a4 : Int) (a5 : tFuncD) (a6 : tBlockD) : Option R := bif decide (a4 < ((List.length a6.1 : Nat) : Int)) then (bif (decide (0 ≤ a4)) && (decide (a4 < ((List.length a6.1 : Nat) : Int))) then (Option.bind (U18.f k ((List.getD a6.1 (Int.toNat a4) tPhiZ).1)) fun r1 => bif !r1.1.1.1 then (some (((false, ()), ()), ())) else (bif (decide (0 ≤ a4)) && (decide (a4 < ((List.length a6.1 : Nat) : Int))) then (bif decide (10 < ((List.length ((List.getD a6.1 (Int.toNat a4) tPhiZ).2.1) : Nat) : Int)) then (some (((false, ()), ()), ())) else (l3 a0 a1 a2 a3 a4 0 a5 a6)) else none)) else none) else (l4 a0 a1 a2 a3 0 a5 a6)
def l3_ (k : Nat) (l0 : T0) (l1 : T0) (l2 : T1) (l3 : T2) (l4 : T1) (a0 : Int) (a1 : Int) (a2 : Int) (a3 : Int) (a4 : Int) (a5 : Int) (a6 : tFuncD) (a7 : tBlockD) : Option R := bif (decide (0 ≤ a4)) && (decide (a4 < ((List.length a7.1 : Nat) : Int))) then (bif decide (a5 < ((List.length ((List.getD a7.1 (Int.toNat a4) tPhiZ).2.1) : Nat) : Int)) then (bif (decide (0 ≤ a4)) && (decide (a4 < ((List.length a7.1 : Nat) : Int))) then (bif (decide (0 ≤ a5)) && (decide (a5 < ((List.length ((List.getD a7.1 (Int.toNat a4) tPhiZ).2.1) : Nat) : Int))) then (Option.bind (U19.f k (List.getD ((List.getD a7.1 (Int.toNat a4) tPhiZ).2.1) (Int.toNat a5) 0) 0 (IntKind.wrap .i64 (a1 - 1))) fun r1 => bif !r1.1.1.1 then (some (((false, ()), ()), ())) else (l3 a0 a1 a2 a3 a4 (IntKind.wrap .i64 (a5 + 1)) a6 a7)) else none) else none) else (l2 a0 a1 a2 a3 (IntKind.wrap .i64 (a4 + 1)) a6 a7)) else none
def l4_ (k : Nat) (l0 : T0) (l1 : T0) (l2 : T1) (l3 : T2) (l4 : T1) (a0 : Int) (a1 : Int) (a2 : Int) (a3 : Int) (a4 : Int) (a5 : tFuncD) (a6 : tBlockD) : Option R := bif decide (a4 < ((List.length a6.2.1 : Nat) : Int)) then (bif (decide (0 ≤ a4)) && (decide (a4 < ((List.length a6.2.1 : Nat) : Int))) then (Option.bind (U24.f k (List.getD a6.2.1 (Int.toNat a4) tInstZ) a1 a0) fun r1 => bif !r1.1.1.1 then (some (((false, ()), ()), ())) else (l4 a0 a1 a2 a3 (IntKind.wrap .i64 (a4 + 1)) a5 a6)) else none) else (Option.bind (U25.f k a6.2.2 a1 a2) fun r2 => bif !r2.1.1.1 then (some (((false, ()), ()), ())) else (l1 a0 a1 a2 (IntKind.wrap .i64 (a3 + 1)) a5))
def all : Nat → (T0) × (T0) × (T1) × (T2) × (T1) × Unit
 | 0 => (fun _ _ _ _ _ => none, fun _ _ _ _ _ => none, fun _ _ _ _ _ _ _ => none, fun _ _ _ _ _ _ _ _ => none, fun _ _ _ _ _ _ _ => none, ())
 | k + 1 => (l0_ k (all k).1 (all k).2.1 (all k).2.2.1 (all k).2.2.2.1 (all k).2.2.2.2.1, l1_ k (all k).1 (all k).2.1 (all k).2.2.1 (all k).2.2.2.1 (all k).2.2.2.2.1, l2_ k (all k).1 (all k).2.1 (all k).2.2.1 (all k).2.2.2.1 (all k).2.2.2.2.1, l3_ k (all k).1 (all k).2.1 (all k).2.2.1 (all k).2.2.2.1 (all k).2.2.2.2.1, l4_ k (all k).1 (all k).2.1 (all k).2.2.1 (all k).2.2.2.1 (all k).2.2.2.2.1, ())
def l0 (k : Nat) : T0 := (all k).1
def l1 (k : Nat) : T0 := (all k).2.1
def l2 (k : Nat) : T1 := (all k).2.2.1
def l3 (k : Nat) : T2 := (all k).2.2.2.1
def l4 (k : Nat) : T1 := (all k).2.2.2.2.1
def f (k : Nat) (a0 : tFuncD) (a1 : Int) : Option R := Option.bind (U17.f k a0) fun r1 => bif decide (4 < ((List.length a0.1 : Nat) : Int)) then (some (((false, ()), ()), ())) else (Option.bind (U18.f k a0.2.1) fun r2 => bif !r2.1.1.1 then (some (((false, ()), ()), ())) else (Option.bind (U19.f k ((List.length a0.2.2.1 : Nat) : Int) 1 10) fun r3 => bif !r3.1.1.1 then (some (((false, ()), ()), ())) else (bif decide (60 < r1.1.1.1) then (some (((false, ()), ()), ())) else (l0 k a1 r1.1.1.1 ((List.length a0.2.2.1 : Nat) : Int) 0 a0))))
abbrev S : ShapeParts := ⟨[⟨true, [.lst (.int .i64), .int .i64, .lst tBlock]⟩, ⟨false, [.int .i64]⟩], [], false, [⟨false, [.bool]⟩], [], []⟩
def s (k : Nat) : FS := S.fs fun x => f k x.1.1 x.1.2.1.1
def E (k : Nat) : Ents := [(⟨41, []⟩, U17.s k), (⟨57, []⟩, U18.s k), (⟨58, []⟩, U19.s k), (⟨59, []⟩, U24.s k), (⟨60, []⟩, U25.s k)]
def L0 (l : T0) : LS R := ⟨[], [(1, ⟨false, [.int .i64]⟩), (2, ⟨false, [.ptr 100000 0]⟩), (5, ⟨false, [.int .i64]⟩), (6, ⟨false, [.int .i64]⟩), (7, ⟨false, [.int .i64]⟩)], [(100000, .box [.lst (.int .i64), .int .i64, .lst tBlock])], fun x => l x.1.1.1 x.1.2.2.1.1 x.1.2.2.2.1.1 x.1.2.2.2.2.1.1 x.2.1⟩
def L1 (l : T0) : LS R := ⟨[], [(1, ⟨false, [.int .i64]⟩), (2, ⟨false, [.ptr 100000 0]⟩), (5, ⟨false, [.int .i64]⟩), (6, ⟨false, [.int .i64]⟩), (8, ⟨false, [.int .i64]⟩)], [(100000, .box [.lst (.int .i64), .int .i64, .lst tBlock])], fun x => l x.1.1.1 x.1.2.2.1.1 x.1.2.2.2.1.1 x.1.2.2.2.2.1.1 x.2.1⟩
def L2 (l : T1) : LS R := ⟨[], [(1, ⟨false, [.int .i64]⟩), (2, ⟨false, [.ptr 100000 0]⟩), (5, ⟨false, [.int .i64]⟩), (6, ⟨false, [.int .i64]⟩), (8, ⟨false, [.int .i64]⟩), (9, ⟨false, [.ptr 100001 0]⟩), (10, ⟨false, [.int .i64]⟩)], [(100000, .box [.lst (.int .i64), .int .i64, .lst tBlock]), (100001, .box [.lst tPhi, .lst tInst, .int .i64, .int .i64, .int .i64, .int .i64])], fun x => l x.1.1.1 x.1.2.2.1.1 x.1.2.2.2.1.1 x.1.2.2.2.2.1.1 x.1.2.2.2.2.2.2.1.1 x.2.1 x.2.2.1⟩
def L3 (l : T2) : LS R := ⟨[], [(1, ⟨false, [.int .i64]⟩), (2, ⟨false, [.ptr 100000 0]⟩), (5, ⟨false, [.int .i64]⟩), (6, ⟨false, [.int .i64]⟩), (8, ⟨false, [.int .i64]⟩), (9, ⟨false, [.ptr 100001 0]⟩), (10, ⟨false, [.int .i64]⟩), (11, ⟨false, [.int .i64]⟩)], [(100000, .box [.lst (.int .i64), .int .i64, .lst tBlock]), (100001, .box [.lst tPhi, .lst tInst, .int .i64, .int .i64, .int .i64, .int .i64])], fun x => l x.1.1.1 x.1.2.2.1.1 x.1.2.2.2.1.1 x.1.2.2.2.2.1.1 x.1.2.2.2.2.2.2.1.1 x.1.2.2.2.2.2.2.2.1.1 x.2.1 x.2.2.1⟩
def L4 (l : T1) : LS R := ⟨[], [(1, ⟨false, [.int .i64]⟩), (2, ⟨false, [.ptr 100000 0]⟩), (5, ⟨false, [.int .i64]⟩), (6, ⟨false, [.int .i64]⟩), (8, ⟨false, [.int .i64]⟩), (9, ⟨false, [.ptr 100001 0]⟩), (12, ⟨false, [.int .i64]⟩)], [(100000, .box [.lst (.int .i64), .int .i64, .lst tBlock]), (100001, .box [.lst tPhi, .lst tInst, .int .i64, .int .i64, .int .i64, .int .i64])], fun x => l x.1.1.1 x.1.2.2.1.1 x.1.2.2.2.1.1 x.1.2.2.2.2.1.1 x.1.2.2.2.2.2.2.1.1 x.2.1 x.2.2.1⟩
def L (l0 : T0) (l1 : T0) (l2 : T1) (l3 : T2) (l4 : T1) : List (LS R) := [L0 l0, L1 l1, L2 l2, L3 l3, L4 l4]
def c : Code := Tryz.f28.body.getD .skip
theorem eq (k : Nat) (x) : (s k).pf x = execF tab (E k) Tryz.f28 c (s k) (L (l0 k) (l1 k) (l2 k) (l3 k) (l4 k)) x := by kernel_rfl
theorem r0 (l0 : T0) (l1 : T0) (l2 : T1) (l3 : T2) (l4 : T1) (k : Nat) (x) : (L0 (l0_ k l0 l1 l2 l3 l4)).l x = roundOf tab (E k) (L l0 l1 l2 l3 l4) c (fin tab Tryz.f28 (s k)) 0 (L0 l0) x := by kernel_rfl
theorem r1 (l0 : T0) (l1 : T0) (l2 : T1) (l3 : T2) (l4 : T1) (k : Nat) (x) : (L1 (l1_ k l0 l1 l2 l3 l4)).l x = roundOf tab (E k) (L l0 l1 l2 l3 l4) c (fin tab Tryz.f28 (s k)) 1 (L1 l1) x := by kernel_rfl
theorem r2 (l0 : T0) (l1 : T0) (l2 : T1) (l3 : T2) (l4 : T1) (k : Nat) (x) : (L2 (l2_ k l0 l1 l2 l3 l4)).l x = roundOf tab (E k) (L l0 l1 l2 l3 l4) c (fin tab Tryz.f28 (s k)) 2 (L2 l2) x := by kernel_rfl
theorem r3 (l0 : T0) (l1 : T0) (l2 : T1) (l3 : T2) (l4 : T1) (k : Nat) (x) : (L3 (l3_ k l0 l1 l2 l3 l4)).l x = roundOf tab (E k) (L l0 l1 l2 l3 l4) c (fin tab Tryz.f28 (s k)) 3 (L3 l3) x := by kernel_rfl
theorem r4 (l0 : T0) (l1 : T0) (l2 : T1) (l3 : T2) (l4 : T1) (k : Nat) (x) : (L4 (l4_ k l0 l1 l2 l3 l4)).l x = roundOf tab (E k) (L l0 l1 l2 l3 l4) c (fin tab Tryz.f28 (s k)) 4 (L4 l4) x := by kernel_rfl
theorem sound : ∀ k, Sound Tryz.prog 28 (s k) := snd S (fun k => (s k).pf) E (fun k => (EntsOK.cons (U17.sound k) (EntsOK.cons (U18.sound k) (EntsOK.cons (U19.sound k) (EntsOK.cons (U24.sound k) (EntsOK.cons (U25.sound k) EntsOK.nil)))))) (fun k => L (l0 k) (l1 k) (l2 k) (l3 k) (l4 k)) (fun k => ⟨⟨(L0 (l0 (k + 1))).l, rfl, fun x => r0 (l0 k) (l1 k) (l2 k) (l3 k) (l4 k) k x⟩, ⟨(L1 (l1 (k + 1))).l, rfl, fun x => r1 (l0 k) (l1 k) (l2 k) (l3 k) (l4 k) k x⟩, ⟨(L2 (l2 (k + 1))).l, rfl, fun x => r2 (l0 k) (l1 k) (l2 k) (l3 k) (l4 k) k x⟩, ⟨(L3 (l3 (k + 1))).l, rfl, fun x => r3 (l0 k) (l1 k) (l2 k) (l3 k) (l4 k) k x⟩, ⟨(L4 (l4 (k + 1))).l, rfl, fun x => r4 (l0 k) (l1 k) (l2 k) (l3 k) (l4 k) k x⟩, trivial⟩) eq
end U26
namespace U27
abbrev R := (((Int × Unit) × (Int × Unit) × Unit) × Unit)
abbrev T0 : Type := Int → Int → tFuncD → Option R
def l0_ (k : Nat) (l0 : T0) (a0 : Int) (a1 : Int) (a2 : tFuncD) : Option R := bif decide (a1 < ((List.length a2.2.2.1 : Nat) : Int)) then (bif (decide (0 ≤ a1)) && (decide (a1 < ((List.length a2.2.2.1 : Nat) : Int))) then (bif (decide (0 ≤ a1)) && (decide (a1 < ((List.length a2.2.2.1 : Nat) : Int))) then (bif decide (a0 < IntKind.wrap .i64 (((List.length ((List.getD a2.2.2.1 (Int.toNat a1) tBlockZ).1) : Nat) : Int) + ((List.length ((List.getD a2.2.2.1 (Int.toNat a1) tBlockZ).2.1) : Nat) : Int))) then (some (((a1, ()), (a0, ()), ()), ())) else (l0 (IntKind.wrap .i64 (a0 - (IntKind.wrap .i64 (((List.length ((List.getD a2.2.2.1 (Int.toNat a1) tBlockZ).1) : Nat) : Int) + ((List.length ((List.getD a2.2.2.1 (Int.toNat a1) tBlockZ).2.1) : Nat) : Int))))) (IntKind.wrap .i64 (a1 + 1)) a2)) else none) else none) else (some (((-2, ()), (0, ()), ()), ()))
def all : Nat → (T0) × Unit
 | 0 => (fun _ _ _ => none, ())
 | k + 1 => (l0_ k (all k).1, ())
def l0 (k : Nat) : T0 := (all k).1
def f (k : Nat) (a0 : tFuncD) (a1 : Int) : Option R := bif decide (a1 < 0) then (some (((-2, ()), (0, ()), ()), ())) else (bif decide (a1 < ((List.length a0.1 : Nat) : Int)) then (some (((-1, ()), (a1, ()), ()), ())) else (l0 k (IntKind.wrap .i64 (a1 - ((List.length a0.1 : Nat) : Int))) 0 a0))
abbrev S : ShapeParts := ⟨[⟨true, [.lst (.int .i64), .int .i64, .lst tBlock]⟩, ⟨false, [.int .i64]⟩], [], true, [⟨false, [.int .i64]⟩, ⟨false, [.int .i64]⟩], [], []⟩
def s (k : Nat) : FS := S.fs fun x => f k x.1.1 x.1.2.1.1
def E (k : Nat) : Ents := []
def L0 (l : T0) : LS R := ⟨[], [(1, ⟨false, [.int .i64]⟩), (2, ⟨false, [.ptr 100000 0]⟩), (6, ⟨false, [.int .i64]⟩)], [(100000, .box [.lst (.int .i64), .int .i64, .lst tBlock])], fun x => l x.1.1.1 x.1.2.2.1.1 x.2.1⟩
def L (l0 : T0) : List (LS R) := [L0 l0]
def c : Code := Tryz.f80.body.getD .skip
theorem eq (k : Nat) (x) : (s k).pf x = execF tab (E k) Tryz.f80 c (s k) (L (l0 k)) x := by kernel_rfl
theorem r0 (l0 : T0) (k : Nat) (x) : (L0 (l0_ k l0)).l x = roundOf tab (E k) (L l0) c (fin tab Tryz.f80 (s k)) 0 (L0 l0) x := by kernel_rfl
theorem sound : ∀ k, Sound Tryz.prog 80 (s k) := snd S (fun k => (s k).pf) E (fun k => EntsOK.nil) (fun k => L (l0 k)) (fun k => ⟨⟨(L0 (l0 (k + 1))).l, rfl, fun x => r0 (l0 k) k x⟩, trivial⟩) eq
end U27
namespace U28
abbrev R := (((Int × Int × Int × Int × Int × Int × (List Int) × Unit) × (Bool × Unit) × Unit) × Unit)
def f (k : Nat) (a0 : tFuncD) (a1 : Int) : Option R := Option.bind (U27.f k a0 a1) fun r1 => bif decide (r1.1.1.1 < 0) then (some (((0, 0, 0, 0, 0, 0, ([] : List Int), ()), (false, ()), ()), ())) else (bif (decide (0 ≤ r1.1.1.1)) && (decide (r1.1.1.1 < ((List.length a0.2.2.1 : Nat) : Int))) then (bif decide (r1.1.2.1.1 < ((List.length ((List.getD a0.2.2.1 (Int.toNat r1.1.1.1) tBlockZ).1) : Nat) : Int)) then (some (((0, 0, 0, 0, 0, 0, ([] : List Int), ()), (false, ()), ()), ())) else (bif (decide (0 ≤ r1.1.1.1)) && (decide (r1.1.1.1 < ((List.length a0.2.2.1 : Nat) : Int))) then (bif (decide (0 ≤ IntKind.wrap .i64 (r1.1.2.1.1 - ((List.length ((List.getD a0.2.2.1 (Int.toNat r1.1.1.1) tBlockZ).1) : Nat) : Int)))) && (decide (IntKind.wrap .i64 (r1.1.2.1.1 - ((List.length ((List.getD a0.2.2.1 (Int.toNat r1.1.1.1) tBlockZ).1) : Nat) : Int)) < ((List.length ((List.getD a0.2.2.1 (Int.toNat r1.1.1.1) tBlockZ).2.1) : Nat) : Int))) then (some (((List.getD ((List.getD a0.2.2.1 (Int.toNat r1.1.1.1) tBlockZ).2.1) (Int.toNat (IntKind.wrap .i64 (r1.1.2.1.1 - ((List.length ((List.getD a0.2.2.1 (Int.toNat r1.1.1.1) tBlockZ).1) : Nat) : Int)))) tInstZ), (true, ()), ()), ())) else none) else none)) else none)
abbrev S : ShapeParts := ⟨[⟨true, [.lst (.int .i64), .int .i64, .lst tBlock]⟩, ⟨false, [.int .i64]⟩], [], true, [⟨true, [.int .i64, .int .i64, .int .i64, .int .i64, .int .i64, .int .i64, .lst (.int .i64)]⟩, ⟨false, [.bool]⟩], [], []⟩
def s (k : Nat) : FS := S.fs fun x => f k x.1.1 x.1.2.1.1
def E (k : Nat) : Ents := [(⟨80, []⟩, U27.s k)]
def L : List (LS R) := []
def c : Code := Tryz.f61.body.getD .skip
theorem eq (k : Nat) (x) : (s k).pf x = execF tab (E k) Tryz.f61 c (s k) L x := by kernel_rfl
theorem sound : ∀ k, Sound Tryz.prog 61 (s k) := snd S (fun k => (s k).pf) E (fun k => (EntsOK.cons (U27.sound k) EntsOK.nil)) (fun k => L) (fun k => trivial) eq
end U28
namespace U29
abbrev R := (((Int × Int × Int × Int × Int × Int × Unit × Unit) × Unit) × ((List Int) × Unit))
def f (k : Nat) (a0 : tInstD) : Option R := Option.bind (U20.f k a0.2.2.2.2.2.2.1) fun r1 => some (((a0.1, a0.2.1, a0.2.2.1, a0.2.2.2.1, a0.2.2.2.2.1, a0.2.2.2.2.2.1, (), ()), ()), (r1.2.1, ()))
abbrev S : ShapeParts := ⟨[⟨true, [.int .i64, .int .i64, .int .i64, .int .i64, .int .i64, .int .i64, .lst (.int .i64)]⟩], [], false, [⟨true, [.int .i64, .int .i64, .int .i64, .int .i64, .int .i64, .int .i64, .own 100]⟩], [(100, .row true (.int .i64))], []⟩
def s (k : Nat) : FS := S.fs fun x => f k x.1.1
def E (k : Nat) : Ents := [(⟨76, []⟩, U20.s k)]
def L : List (LS R) := []
def c : Code := Tryz.f62.body.getD .skip
theorem eq (k : Nat) (x) : (s k).pf x = execF tab (E k) Tryz.f62 c (s k) L x := by kernel_rfl
theorem sound : ∀ k, Sound Tryz.prog 62 (s k) := snd S (fun k => (s k).pf) E (fun k => (EntsOK.cons (U20.sound k) EntsOK.nil)) (fun k => L) (fun k => trivial) eq
end U29
namespace U30
abbrev R := (((Bool × Unit) × Unit) × Unit)
def f (k : Nat) (a0 : Int) : Option R := bif decide (a0 = 1) then (some (((true, ()), ()), ())) else (bif decide (a0 = 3) then (some (((true, ()), ()), ())) else (Option.bind (U19.f k a0 8 10) fun r1 => bif r1.1.1.1 then (some (((true, ()), ()), ())) else (bif decide (a0 = 14) then (some (((true, ()), ()), ())) else (some (((decide (a0 = 15), ()), ()), ())))))
abbrev S : ShapeParts := ⟨[⟨false, [.int .i64]⟩], [], false, [⟨false, [.bool]⟩], [], []⟩
def s (k : Nat) : FS := S.fs fun x => f k x.1.1.1
def E (k : Nat) : Ents := [(⟨58, []⟩, U19.s k)]
def L : List (LS R) := []
def c : Code := Tryz.f63.body.getD .skip
theorem eq (k : Nat) (x) : (s k).pf x = execF tab (E k) Tryz.f63 c (s k) L x := by kernel_rfl
theorem sound : ∀ k, Sound Tryz.prog 63 (s k) := snd S (fun k => (s k).pf) E (fun k => (EntsOK.cons (U19.sound k) EntsOK.nil)) (fun k => L) (fun k => trivial) eq
end U30
namespace U31
abbrev R := (((Unit × Unit) × Unit) × ((List ByteArray) × Unit))
def f (k : Nat) : Option R := some ((((), ()), ()), ([ByteArray.empty, (ByteArray.mk #[97, 100, 100]), (ByteArray.mk #[115, 117, 98]), (ByteArray.mk #[109, 117, 108]), (ByteArray.mk #[117, 100, 105, 118]), (ByteArray.mk #[115, 100, 105, 118]), (ByteArray.mk #[117, 114, 101, 109]), (ByteArray.mk #[115, 114, 101, 109]), (ByteArray.mk #[97, 110, 100]), (ByteArray.mk #[111, 114]), (ByteArray.mk #[120, 111, 114]), (ByteArray.mk #[115, 104, 108]), (ByteArray.mk #[108, 115, 104, 114]), (ByteArray.mk #[97, 115, 104, 114]), (ByteArray.mk #[101, 113]), (ByteArray.mk #[110, 101]), (ByteArray.mk #[117, 108, 116]), (ByteArray.mk #[115, 108, 116]), (ByteArray.mk #[122, 101, 120, 116]), (ByteArray.mk #[115, 101, 120, 116]), (ByteArray.mk #[116, 114, 117, 110, 99]), (ByteArray.mk #[99, 111, 110, 115, 116]), (ByteArray.mk #[115, 101, 108, 101, 99, 116]), (ByteArray.mk #[108, 111, 97, 100]), (ByteArray.mk #[115, 116, 111, 114, 101]), (ByteArray.mk #[112, 114, 105, 110, 116]), (ByteArray.mk #[99, 97, 108, 108]), (ByteArray.mk #[99, 111, 112, 121])], ()))
abbrev S : ShapeParts := ⟨[], [], false, [⟨false, [.own 100]⟩], [(100, .row true .str)], []⟩
def s (k : Nat) : FS := S.fs fun x => f k
def E (k : Nat) : Ents := []
def L : List (LS R) := []
def c : Code := Tryz.f98.body.getD .skip
theorem eq (k : Nat) (x) : (s k).pf x = execF tab (E k) Tryz.f98 c (s k) L x := by kernel_rfl
theorem sound : ∀ k, Sound Tryz.prog 98 (s k) := snd S (fun k => (s k).pf) E (fun k => EntsOK.nil) (fun k => L) (fun k => trivial) eq
end U31
namespace U32
abbrev R := (((ByteArray × Unit) × Unit) × Unit)
def l0_ (k : Nat) (l0 : Int → ByteArray → Option R) (a0 : Int) (a1 : ByteArray) : Option R := bif decide (10 ≤ a0) then (bif !decide (10 = 0) then (bif decide (ByteArray.size (strOf [IntKind.wrap .u8 (IntKind.wrap .i64 (48 + (Int.tmod a0 10)))]) + ByteArray.size a1 ≤ big) then (bif !decide (10 = 0) then (l0 (IntKind.wrap .i64 (Int.tdiv a0 10)) ((strOf [IntKind.wrap .u8 (IntKind.wrap .i64 (48 + (Int.tmod a0 10)))]) ++ a1)) else none) else none) else none) else (bif decide (ByteArray.size (strOf [IntKind.wrap .u8 (IntKind.wrap .i64 (48 + a0))]) + ByteArray.size a1 ≤ big) then (some ((((strOf [IntKind.wrap .u8 (IntKind.wrap .i64 (48 + a0))]) ++ a1, ()), ()), ())) else none)
def all : Nat → (Int → ByteArray → Option R) × Unit
 | 0 => (fun _ _ => none, ())
 | k + 1 => (l0_ k (all k).1, ())
def l0 (k : Nat) : Int → ByteArray → Option R := (all k).1
def f (k : Nat) (a0 : Int) : Option R := bif decide (a0 < 0) then none else (l0 k a0 ByteArray.empty)
abbrev S : ShapeParts := ⟨[⟨false, [.int .i64]⟩], [], false, [⟨false, [.str]⟩], [], []⟩
def s (k : Nat) : FS := S.fs fun x => f k x.1.1.1
def E (k : Nat) : Ents := []
def L0 (l : Int → ByteArray → Option R) : LS R := ⟨[], [(0, ⟨false, [.int .i64]⟩), (3, ⟨false, [.str]⟩)], [], fun x => l x.1.1.1 x.1.2.1.1⟩
def L (l0 : Int → ByteArray → Option R) : List (LS R) := [L0 l0]
def c : Code := Tryz.f99.body.getD .skip
theorem eq (k : Nat) (x) : (s k).pf x = execF tab (E k) Tryz.f99 c (s k) (L (l0 k)) x := by kernel_rfl
theorem r0 (l0 : Int → ByteArray → Option R) (k : Nat) (x) : (L0 (l0_ k l0)).l x = roundOf tab (E k) (L l0) c (fin tab Tryz.f99 (s k)) 0 (L0 l0) x := by kernel_rfl
theorem sound : ∀ k, Sound Tryz.prog 99 (s k) := snd S (fun k => (s k).pf) E (fun k => EntsOK.nil) (fun k => L (l0 k)) (fun k => ⟨⟨(L0 (l0 (k + 1))).l, rfl, fun x => r0 (l0 k) k x⟩, trivial⟩) eq
end U32
namespace U33
abbrev R := (((ByteArray × Unit) × Unit) × Unit)
abbrev T0 : Type := (List Int) → ByteArray → Int → Option R
def l0_ (k : Nat) (l0 : T0) (a0 : List Int) (a1 : ByteArray) (a2 : Int) : Option R := bif decide (a2 < ((List.length a0 : Nat) : Int)) then (bif decide (ByteArray.size a1 + ByteArray.size (ByteArray.mk #[32]) ≤ big) then (bif (decide (0 ≤ a2)) && (decide (a2 < ((List.length a0 : Nat) : Int))) then (Option.bind (U32.f k (List.getD a0 (Int.toNat a2) 0)) fun r1 => bif decide (ByteArray.size (a1 ++ (ByteArray.mk #[32])) + ByteArray.size r1.1.1.1 ≤ big) then (l0 a0 ((a1 ++ (ByteArray.mk #[32])) ++ r1.1.1.1) (IntKind.wrap .i64 (a2 + 1))) else none) else none) else none) else (some (((a1, ()), ()), ()))
def all : Nat → (T0) × Unit
 | 0 => (fun _ _ _ => none, ())
 | k + 1 => (l0_ k (all k).1, ())
def l0 (k : Nat) : T0 := (all k).1
def f (k : Nat) (a0 : List Int) : Option R := l0 k a0 ByteArray.empty 0
abbrev S : ShapeParts := ⟨[⟨false, [.lst (.int .i64)]⟩], [], false, [⟨false, [.str]⟩], [], []⟩
def s (k : Nat) : FS := S.fs fun x => f k x.1.1.1
def E (k : Nat) : Ents := [(⟨99, []⟩, U32.s k)]
def L0 (l : T0) : LS R := ⟨[], [(0, ⟨false, [.lst (.int .i64)]⟩), (3, ⟨false, [.str]⟩), (4, ⟨false, [.int .i64]⟩)], [], fun x => l x.1.1.1 x.1.2.1.1 x.1.2.2.1.1⟩
def L (l0 : T0) : List (LS R) := [L0 l0]
def c : Code := Tryz.f100.body.getD .skip
theorem eq (k : Nat) (x) : (s k).pf x = execF tab (E k) Tryz.f100 c (s k) (L (l0 k)) x := by kernel_rfl
theorem r0 (l0 : T0) (k : Nat) (x) : (L0 (l0_ k l0)).l x = roundOf tab (E k) (L l0) c (fin tab Tryz.f100 (s k)) 0 (L0 l0) x := by kernel_rfl
theorem sound : ∀ k, Sound Tryz.prog 100 (s k) := snd S (fun k => (s k).pf) E (fun k => (EntsOK.cons (U32.sound k) EntsOK.nil)) (fun k => L (l0 k)) (fun k => ⟨⟨(L0 (l0 (k + 1))).l, rfl, fun x => r0 (l0 k) k x⟩, trivial⟩) eq
end U33
namespace U34
abbrev R := (((ByteArray × Unit) × Unit) × Unit)
def f (k : Nat) (a0 : tInstD) : Option R := Option.bind (U31.f k) fun r1 => bif (decide (0 ≤ a0.1)) && (decide (a0.1 < ((List.length r1.2.1 : Nat) : Int))) then (bif decide (ByteArray.size (List.getD r1.2.1 (Int.toNat a0.1) ByteArray.empty) + ByteArray.size (ByteArray.mk #[32]) ≤ big) then (Option.bind (U32.f k a0.2.1) fun r2 => bif decide (ByteArray.size ((List.getD r1.2.1 (Int.toNat a0.1) ByteArray.empty) ++ (ByteArray.mk #[32])) + ByteArray.size r2.1.1.1 ≤ big) then (bif decide (a0.1 = 21) then (bif decide (ByteArray.size (((List.getD r1.2.1 (Int.toNat a0.1) ByteArray.empty) ++ (ByteArray.mk #[32])) ++ r2.1.1.1) + ByteArray.size (ByteArray.mk #[32]) ≤ big) then (Option.bind (U32.f k a0.2.2.2.2.2.1) fun r3 => bif decide (ByteArray.size ((((List.getD r1.2.1 (Int.toNat a0.1) ByteArray.empty) ++ (ByteArray.mk #[32])) ++ r2.1.1.1) ++ (ByteArray.mk #[32])) + ByteArray.size r3.1.1.1 ≤ big) then (Option.bind (U21.f k a0) fun r4 => Option.bind (U33.f k r4.2.1) fun r5 => bif decide (ByteArray.size (((((List.getD r1.2.1 (Int.toNat a0.1) ByteArray.empty) ++ (ByteArray.mk #[32])) ++ r2.1.1.1) ++ (ByteArray.mk #[32])) ++ r3.1.1.1) + ByteArray.size r5.1.1.1 ≤ big) then (some ((((((((List.getD r1.2.1 (Int.toNat a0.1) ByteArray.empty) ++ (ByteArray.mk #[32])) ++ r2.1.1.1) ++ (ByteArray.mk #[32])) ++ r3.1.1.1) ++ r5.1.1.1, ()), ()), ())) else none) else none) else none) else (bif decide (a0.1 = 26) then (bif decide (ByteArray.size (((List.getD r1.2.1 (Int.toNat a0.1) ByteArray.empty) ++ (ByteArray.mk #[32])) ++ r2.1.1.1) + ByteArray.size (ByteArray.mk #[32]) ≤ big) then (Option.bind (U32.f k a0.2.2.2.2.2.1) fun r6 => bif decide (ByteArray.size ((((List.getD r1.2.1 (Int.toNat a0.1) ByteArray.empty) ++ (ByteArray.mk #[32])) ++ r2.1.1.1) ++ (ByteArray.mk #[32])) + ByteArray.size r6.1.1.1 ≤ big) then (Option.bind (U21.f k a0) fun r7 => Option.bind (U33.f k r7.2.1) fun r8 => bif decide (ByteArray.size (((((List.getD r1.2.1 (Int.toNat a0.1) ByteArray.empty) ++ (ByteArray.mk #[32])) ++ r2.1.1.1) ++ (ByteArray.mk #[32])) ++ r6.1.1.1) + ByteArray.size r8.1.1.1 ≤ big) then (some ((((((((List.getD r1.2.1 (Int.toNat a0.1) ByteArray.empty) ++ (ByteArray.mk #[32])) ++ r2.1.1.1) ++ (ByteArray.mk #[32])) ++ r6.1.1.1) ++ r8.1.1.1, ()), ()), ())) else none) else none) else none) else (Option.bind (U21.f k a0) fun r9 => Option.bind (U33.f k r9.2.1) fun r10 => bif decide (ByteArray.size (((List.getD r1.2.1 (Int.toNat a0.1) ByteArray.empty) ++ (ByteArray.mk #[32])) ++ r2.1.1.1) + ByteArray.size r10.1.1.1 ≤ big) then (some ((((((List.getD r1.2.1 (Int.toNat a0.1) ByteArray.empty) ++ (ByteArray.mk #[32])) ++ r2.1.1.1) ++ r10.1.1.1, ()), ()), ())) else none))) else none) else none) else none
abbrev S : ShapeParts := ⟨[⟨true, [.int .i64, .int .i64, .int .i64, .int .i64, .int .i64, .int .i64, .lst (.int .i64)]⟩], [], false, [⟨false, [.str]⟩], [], []⟩
def s (k : Nat) : FS := S.fs fun x => f k x.1.1
def E (k : Nat) : Ents := [(⟨98, []⟩, U31.s k), (⟨99, []⟩, U32.s k), (⟨96, []⟩, U21.s k), (⟨100, []⟩, U33.s k)]
def L : List (LS R) := []
def c : Code := Tryz.f64.body.getD .skip
theorem eq (k : Nat) (x) : (s k).pf x = execF tab (E k) Tryz.f64 c (s k) L x := by kernel_rfl
theorem sound : ∀ k, Sound Tryz.prog 64 (s k) := snd S (fun k => (s k).pf) E (fun k => (EntsOK.cons (U31.sound k) (EntsOK.cons (U32.sound k) (EntsOK.cons (U21.sound k) (EntsOK.cons (U33.sound k) EntsOK.nil))))) (fun k => L) (fun k => trivial) eq
end U34
namespace U35
abbrev R := (((ByteArray × Unit) × (Bool × Unit) × Unit) × Unit)
def f (k : Nat) (a0 : tFuncD) (a1 : Int) : Option R := Option.bind (U28.f k a0 a1) fun r1 => bif !r1.1.2.1.1 then (some (((ByteArray.empty, ()), (false, ()), ()), ())) else (bif decide (23 ≤ r1.1.1.1) then (some (((ByteArray.empty, ()), (false, ()), ()), ())) else (Option.bind (U29.f k r1.1.1) fun r2 => Option.bind (U30.f k r2.1.1.1) fun r3 => bif r3.1.1.1 then (bif decide (r2.1.1.2.2.2.1 < r2.1.1.2.2.1) then (Option.bind (U34.f k (r2.1.1.1, r2.1.1.2.1, r2.1.1.2.2.2.1, r2.1.1.2.2.1, r2.1.1.2.2.2.2.1, r2.1.1.2.2.2.2.2.1, r2.2.1, ())) fun r4 => some (((r4.1.1.1, ()), (true, ()), ()), ())) else (Option.bind (U34.f k (r2.1.1.1, r2.1.1.2.1, r2.1.1.2.2.1, r2.1.1.2.2.2.1, r2.1.1.2.2.2.2.1, r2.1.1.2.2.2.2.2.1, r2.2.1, ())) fun r5 => some (((r5.1.1.1, ()), (true, ()), ()), ()))) else (Option.bind (U34.f k (r2.1.1.1, r2.1.1.2.1, r2.1.1.2.2.1, r2.1.1.2.2.2.1, r2.1.1.2.2.2.2.1, r2.1.1.2.2.2.2.2.1, r2.2.1, ())) fun r6 => some (((r6.1.1.1, ()), (true, ()), ()), ()))))
abbrev S : ShapeParts := ⟨[⟨true, [.lst (.int .i64), .int .i64, .lst tBlock]⟩, ⟨false, [.int .i64]⟩], [], true, [⟨false, [.str]⟩, ⟨false, [.bool]⟩], [], []⟩
def s (k : Nat) : FS := S.fs fun x => f k x.1.1 x.1.2.1.1
def E (k : Nat) : Ents := [(⟨61, []⟩, U28.s k), (⟨62, []⟩, U29.s k), (⟨63, []⟩, U30.s k), (⟨64, []⟩, U34.s k)]
def L : List (LS R) := []
def c : Code := Tryz.f29.body.getD .skip
theorem eq (k : Nat) (x) : (s k).pf x = execF tab (E k) Tryz.f29 c (s k) L x := by kernel_rfl
theorem sound : ∀ k, Sound Tryz.prog 29 (s k) := snd S (fun k => (s k).pf) E (fun k => (EntsOK.cons (U28.sound k) (EntsOK.cons (U29.sound k) (EntsOK.cons (U30.sound k) (EntsOK.cons (U34.sound k) EntsOK.nil))))) (fun k => L) (fun k => trivial) eq
end U35
namespace U36
abbrev R := (((ByteArray × Unit) × (Bool × Unit) × Unit) × Unit)
def f (k : Nat) (a0 : tFuncD) (a1 : Int) : Option R := Option.bind (U26.f k a0 3) fun r1 => bif !r1.1.1.1 then (some (((ByteArray.empty, ()), (false, ()), ()), ())) else (Option.bind (U35.f k a0 a1) fun r2 => some (((r2.1.1.1, ()), (r2.1.2.1.1, ()), ()), ()))
abbrev S : ShapeParts := ⟨[⟨true, [.lst (.int .i64), .int .i64, .lst tBlock]⟩, ⟨false, [.int .i64]⟩], [], true, [⟨false, [.str]⟩, ⟨false, [.bool]⟩], [], []⟩
def s (k : Nat) : FS := S.fs fun x => f k x.1.1 x.1.2.1.1
def E (k : Nat) : Ents := [(⟨28, []⟩, U26.s k), (⟨29, []⟩, U35.s k)]
def L : List (LS R) := []
def c : Code := Tryz.f13.body.getD .skip
theorem eq (k : Nat) (x) : (s k).pf x = execF tab (E k) Tryz.f13 c (s k) L x := by kernel_rfl
theorem sound : ∀ k, Sound Tryz.prog 13 (s k) := snd S (fun k => (s k).pf) E (fun k => (EntsOK.cons (U26.sound k) (EntsOK.cons (U35.sound k) EntsOK.nil))) (fun k => L) (fun k => trivial) eq
end U36
namespace U37
abbrev R := (((Bool × Unit) × Unit) × Unit)
def f (k : Nat) (a0 : Int) : Option R := bif decide (a0 = 1) then (some (((true, ()), ()), ())) else (bif decide (a0 = 8) then (some (((true, ()), ()), ())) else (bif decide (a0 = 16) then (some (((true, ()), ()), ())) else (some (((decide (a0 = 32), ()), ()), ()))))
abbrev S : ShapeParts := ⟨[⟨false, [.int .i64]⟩], [], false, [⟨false, [.bool]⟩], [], []⟩
def s (k : Nat) : FS := S.fs fun x => f k x.1.1.1
def E (k : Nat) : Ents := []
def L : List (LS R) := []
def c : Code := Tryz.f104.body.getD .skip
theorem eq (k : Nat) (x) : (s k).pf x = execF tab (E k) Tryz.f104 c (s k) L x := by kernel_rfl
theorem sound : ∀ k, Sound Tryz.prog 104 (s k) := snd S (fun k => (s k).pf) E (fun k => EntsOK.nil) (fun k => L) (fun k => trivial) eq
end U37
namespace U38
abbrev R := (((Bool × Unit) × Unit) × Unit)
def f (k : Nat) (a0 : Int) (a1 : Int) (a2 : Int) : Option R := bif decide (a1 ≤ a0) then (some (((decide (a0 ≤ a2), ()), ()), ())) else (some (((false, ()), ()), ()))
abbrev S : ShapeParts := ⟨[⟨false, [.int .i64]⟩, ⟨false, [.int .i64]⟩, ⟨false, [.int .i64]⟩], [], false, [⟨false, [.bool]⟩], [], []⟩
def s (k : Nat) : FS := S.fs fun x => f k x.1.1.1 x.1.2.1.1 x.1.2.2.1.1
def E (k : Nat) : Ents := []
def L : List (LS R) := []
def c : Code := Tryz.f105.body.getD .skip
theorem eq (k : Nat) (x) : (s k).pf x = execF tab (E k) Tryz.f105 c (s k) L x := by kernel_rfl
theorem sound : ∀ k, Sound Tryz.prog 105 (s k) := snd S (fun k => (s k).pf) E (fun k => EntsOK.nil) (fun k => L) (fun k => trivial) eq
end U38
namespace U39
abbrev R := (((Bool × Unit) × Unit) × Unit)
def f (k : Nat) (a0 : Int) : Option R := Option.bind (U37.f k a0) fun r1 => some (((!r1.1.1.1, ()), ()), ())
abbrev S : ShapeParts := ⟨[⟨false, [.int .i64]⟩], [], false, [⟨false, [.bool]⟩], [], []⟩
def s (k : Nat) : FS := S.fs fun x => f k x.1.1.1
def E (k : Nat) : Ents := [(⟨104, []⟩, U37.s k)]
def L : List (LS R) := []
def c : Code := Tryz.f107.body.getD .skip
theorem eq (k : Nat) (x) : (s k).pf x = execF tab (E k) Tryz.f107 c (s k) L x := by kernel_rfl
theorem sound : ∀ k, Sound Tryz.prog 107 (s k) := snd S (fun k => (s k).pf) E (fun k => (EntsOK.cons (U37.sound k) EntsOK.nil)) (fun k => L) (fun k => trivial) eq
end U39
namespace U40
abbrev R := (((Int × Unit) × Unit) × Unit)
abbrev T0 : Type := (List Int) → Int → Int → Option R
def l0_ (k : Nat) (l0 : T0) (a0 : List Int) (a1 : Int) (a2 : Int) : Option R := bif decide (a2 < a1) then (bif (decide (0 ≤ a2)) && (decide (a2 < ((List.length a0 : Nat) : Int))) then (Option.bind (U39.f k (List.getD a0 (Int.toNat a2) 0)) fun r1 => bif r1.1.1.1 then (some (((a2, ()), ()), ())) else (l0 a0 a1 (IntKind.wrap .i64 (a2 + 1)))) else none) else (some (((-1, ()), ()), ()))
def all : Nat → (T0) × Unit
 | 0 => (fun _ _ _ => none, ())
 | k + 1 => (l0_ k (all k).1, ())
def l0 (k : Nat) : T0 := (all k).1
def f (k : Nat) (a0 : List Int) : Option R := l0 k a0 ((List.length a0 : Nat) : Int) 0
abbrev S : ShapeParts := ⟨[⟨false, [.lst (.int .i64)]⟩, ⟨false, [.fn 107 []]⟩], [], false, [⟨false, [.int .i64]⟩], [], []⟩
def s (k : Nat) : FS := S.fs fun x => f k x.1.1.1
def E (k : Nat) : Ents := [(⟨107, []⟩, U39.s k)]
def L0 (l : T0) : LS R := ⟨[], [(0, ⟨false, [.lst (.int .i64)]⟩), (1, ⟨false, [.fn 107 []]⟩), (7, ⟨false, [.int .i64]⟩), (8, ⟨false, [.int .i64]⟩)], [], fun x => l x.1.1.1 x.1.2.2.1.1 x.1.2.2.2.1.1⟩
def L (l0 : T0) : List (LS R) := [L0 l0]
def c : Code := Tryz.f136.body.getD .skip
theorem eq (k : Nat) (x) : (s k).pf x = execF tab (E k) Tryz.f136 c (s k) (L (l0 k)) x := by kernel_rfl
theorem r0 (l0 : T0) (k : Nat) (x) : (L0 (l0_ k l0)).l x = roundOf tab (E k) (L l0) c (fin tab Tryz.f136 (s k)) 0 (L0 l0) x := by kernel_rfl
theorem sound : ∀ k, Sound Tryz.prog 136 (s k) := snd S (fun k => (s k).pf) E (fun k => (EntsOK.cons (U39.sound k) EntsOK.nil)) (fun k => L (l0 k)) (fun k => ⟨⟨(L0 (l0 (k + 1))).l, rfl, fun x => r0 (l0 k) k x⟩, trivial⟩) eq
end U40
namespace U41
abbrev R := (((Bool × Unit) × Unit) × Unit)
def f (k : Nat) (a0 : List Int) : Option R := Option.bind (U40.f k a0) fun r1 => some (((decide (0 ≤ r1.1.1.1), ()), ()), ())
abbrev S : ShapeParts := ⟨[⟨false, [.lst (.int .i64)]⟩, ⟨false, [.fn 107 []]⟩], [], false, [⟨false, [.bool]⟩], [], []⟩
def s (k : Nat) : FS := S.fs fun x => f k x.1.1.1
def E (k : Nat) : Ents := [(⟨136, [107]⟩, U40.s k)]
def L : List (LS R) := []
def c : Code := Tryz.f106.body.getD .skip
theorem eq (k : Nat) (x) : (s k).pf x = execF tab (E k) Tryz.f106 c (s k) L x := by kernel_rfl
theorem sound : ∀ k, Sound Tryz.prog 106 (s k) := snd S (fun k => (s k).pf) E (fun k => (EntsOK.cons (U40.sound k) EntsOK.nil)) (fun k => L) (fun k => trivial) eq
end U41
namespace U42
abbrev R := (((Int × Unit) × Unit) × Unit)
abbrev T0 : Type := Int → (List tBlockD) → Int → Int → Option R
def l0_ (k : Nat) (l0 : T0) (a0 : Int) (a1 : List tBlockD) (a2 : Int) (a3 : Int) : Option R := bif decide (a3 < a2) then (bif (decide (0 ≤ a3)) && (decide (a3 < ((List.length a1 : Nat) : Int))) then (l0 (IntKind.wrap .i64 (a0 + (IntKind.wrap .i64 (((List.length ((List.getD a1 (Int.toNat a3) tBlockZ).1) : Nat) : Int) + ((List.length ((List.getD a1 (Int.toNat a3) tBlockZ).2.1) : Nat) : Int))))) a1 a2 (IntKind.wrap .i64 (a3 + 1))) else none) else (some (((a0, ()), ()), ()))
def all : Nat → (T0) × Unit
 | 0 => (fun _ _ _ _ => none, ())
 | k + 1 => (l0_ k (all k).1, ())
def l0 (k : Nat) : T0 := (all k).1
def f (k : Nat) (a0 : tFuncD) : Option R := l0 k ((List.length a0.1 : Nat) : Int) a0.2.2.1 ((List.length a0.2.2.1 : Nat) : Int) 0
abbrev S : ShapeParts := ⟨[⟨true, [.lst (.int .i64), .int .i64, .lst tBlock]⟩], [], false, [⟨false, [.int .i64]⟩], [], []⟩
def s (k : Nat) : FS := S.fs fun x => f k x.1.1
def E (k : Nat) : Ents := []
def L0 (l : T0) : LS R := ⟨[], [(3, ⟨false, [.int .i64]⟩), (10, ⟨false, [.lst tBlock]⟩), (11, ⟨false, [.int .i64]⟩), (12, ⟨false, [.int .i64]⟩)], [], fun x => l x.1.1.1 x.1.2.1.1 x.1.2.2.1.1 x.1.2.2.2.1.1⟩
def L (l0 : T0) : List (LS R) := [L0 l0]
def c : Code := Tryz.f87.body.getD .skip
theorem eq (k : Nat) (x) : (s k).pf x = execF tab (E k) Tryz.f87 c (s k) (L (l0 k)) x := by kernel_rfl
theorem r0 (l0 : T0) (k : Nat) (x) : (L0 (l0_ k l0)).l x = roundOf tab (E k) (L l0) c (fin tab Tryz.f87 (s k)) 0 (L0 l0) x := by kernel_rfl
theorem sound : ∀ k, Sound Tryz.prog 87 (s k) := snd S (fun k => (s k).pf) E (fun k => EntsOK.nil) (fun k => L (l0 k)) (fun k => ⟨⟨(L0 (l0 (k + 1))).l, rfl, fun x => r0 (l0 k) k x⟩, trivial⟩) eq
end U42
namespace U43
abbrev R := (((Bool × Unit) × Unit) × Unit)
def f (k : Nat) (a0 : Int) (a1 : Int) : Option R := Option.bind (U38.f k a0 0 (IntKind.wrap .i64 (a1 - 1))) fun r1 => some (((!r1.1.1.1, ()), ()), ())
abbrev S : ShapeParts := ⟨[⟨false, [.int .i64]⟩, ⟨false, [.ptr 0 0]⟩], [(0, .cbox [.int .i64])], false, [⟨false, [.bool]⟩], [], []⟩
def s (k : Nat) : FS := S.fs fun x => f k x.1.1.1 x.2.1.1
def E (k : Nat) : Ents := [(⟨105, []⟩, U38.s k)]
def L : List (LS R) := []
def c : Code := Tryz.f110.body.getD .skip
theorem eq (k : Nat) (x) : (s k).pf x = execF tab (E k) Tryz.f110 c (s k) L x := by kernel_rfl
theorem sound : ∀ k, Sound Tryz.prog 110 (s k) := snd S (fun k => (s k).pf) E (fun k => (EntsOK.cons (U38.sound k) EntsOK.nil)) (fun k => L) (fun k => trivial) eq
end U43
namespace U44
abbrev R := (((Int × Unit) × Unit) × Unit)
abbrev T0 : Type := (List Int) → Int → Int → Int → Option R
def l0_ (k : Nat) (l0 : T0) (a0 : List Int) (a1 : Int) (a2 : Int) (a3 : Int) : Option R := bif decide (a2 < a1) then (bif (decide (0 ≤ a2)) && (decide (a2 < ((List.length a0 : Nat) : Int))) then (Option.bind (U43.f k (List.getD a0 (Int.toNat a2) 0) a3) fun r1 => bif r1.1.1.1 then (some (((a2, ()), ()), ())) else (l0 a0 a1 (IntKind.wrap .i64 (a2 + 1)) a3)) else none) else (some (((-1, ()), ()), ()))
def all : Nat → (T0) × Unit
 | 0 => (fun _ _ _ _ => none, ())
 | k + 1 => (l0_ k (all k).1, ())
def l0 (k : Nat) : T0 := (all k).1
def f (k : Nat) (a0 : List Int) (a1 : Int) : Option R := l0 k a0 ((List.length a0 : Nat) : Int) 0 a1
abbrev S : ShapeParts := ⟨[⟨false, [.lst (.int .i64)]⟩, ⟨false, [.fn 110 [(0, 0)]]⟩], [(0, .cbox [.int .i64])], false, [⟨false, [.int .i64]⟩], [], []⟩
def s (k : Nat) : FS := S.fs fun x => f k x.1.1.1 x.2.1.1
def E (k : Nat) : Ents := [(⟨110, []⟩, U43.s k)]
def L0 (l : T0) : LS R := ⟨[], [(0, ⟨false, [.lst (.int .i64)]⟩), (1, ⟨false, [.fn 110 [(0, 0)]]⟩), (7, ⟨false, [.int .i64]⟩), (8, ⟨false, [.int .i64]⟩)], [(0, .cbox [.int .i64])], fun x => l x.1.1.1 x.1.2.2.1.1 x.1.2.2.2.1.1 x.2.1.1⟩
def L (l0 : T0) : List (LS R) := [L0 l0]
def c : Code := Tryz.f136.body.getD .skip
theorem eq (k : Nat) (x) : (s k).pf x = execF tab (E k) Tryz.f136 c (s k) (L (l0 k)) x := by kernel_rfl
theorem r0 (l0 : T0) (k : Nat) (x) : (L0 (l0_ k l0)).l x = roundOf tab (E k) (L l0) c (fin tab Tryz.f136 (s k)) 0 (L0 l0) x := by kernel_rfl
theorem sound : ∀ k, Sound Tryz.prog 136 (s k) := snd S (fun k => (s k).pf) E (fun k => (EntsOK.cons (U43.sound k) EntsOK.nil)) (fun k => L (l0 k)) (fun k => ⟨⟨(L0 (l0 (k + 1))).l, rfl, fun x => r0 (l0 k) k x⟩, trivial⟩) eq
end U44
namespace U45
abbrev R := (((Bool × Unit) × Unit) × Unit)
def f (k : Nat) (a0 : List Int) (a1 : Int) : Option R := Option.bind (U44.f k a0 a1) fun r1 => some (((decide (0 ≤ r1.1.1.1), ()), ()), ())
abbrev S : ShapeParts := ⟨[⟨false, [.lst (.int .i64)]⟩, ⟨false, [.fn 110 [(0, 0)]]⟩], [(0, .cbox [.int .i64])], false, [⟨false, [.bool]⟩], [], []⟩
def s (k : Nat) : FS := S.fs fun x => f k x.1.1.1 x.2.1.1
def E (k : Nat) : Ents := [(⟨136, [110]⟩, U44.s k)]
def L : List (LS R) := []
def c : Code := Tryz.f106.body.getD .skip
theorem eq (k : Nat) (x) : (s k).pf x = execF tab (E k) Tryz.f106 c (s k) L x := by kernel_rfl
theorem sound : ∀ k, Sound Tryz.prog 106 (s k) := snd S (fun k => (s k).pf) E (fun k => (EntsOK.cons (U44.sound k) EntsOK.nil)) (fun k => L) (fun k => trivial) eq
end U45
namespace U46
abbrev R := (((Bool × Unit) × Unit) × Unit)
def f (k : Nat) (a0 : tPhiD) (a1 : Int) : Option R := Option.bind (U37.f k a0.1) fun r1 => bif !r1.1.1.1 then (some (((true, ()), ()), ())) else (bif decide (10 < ((List.length a0.2.1 : Nat) : Int)) then (some (((true, ()), ()), ())) else (Option.bind (U45.f k a0.2.1 a1) fun r2 => some (((r2.1.1.1, ()), ()), ())))
abbrev S : ShapeParts := ⟨[⟨true, [.int .i64, .lst (.int .i64)]⟩, ⟨false, [.ptr 0 0]⟩], [(0, .cbox [.int .i64])], false, [⟨false, [.bool]⟩], [], []⟩
def s (k : Nat) : FS := S.fs fun x => f k x.1.1 x.2.1.1
def E (k : Nat) : Ents := [(⟨104, []⟩, U37.s k), (⟨106, [110]⟩, U45.s k)]
def L : List (LS R) := []
def c : Code := Tryz.f109.body.getD .skip
theorem eq (k : Nat) (x) : (s k).pf x = execF tab (E k) Tryz.f109 c (s k) L x := by kernel_rfl
theorem sound : ∀ k, Sound Tryz.prog 109 (s k) := snd S (fun k => (s k).pf) E (fun k => (EntsOK.cons (U37.sound k) (EntsOK.cons (U45.sound k) EntsOK.nil))) (fun k => L) (fun k => trivial) eq
end U46
namespace U47
abbrev R := (((Int × Unit) × Unit) × Unit)
abbrev T0 : Type := (List tPhiD) → Int → Int → Int → Option R
def l0_ (k : Nat) (l0 : T0) (a0 : List tPhiD) (a1 : Int) (a2 : Int) (a3 : Int) : Option R := bif decide (a2 < a1) then (bif (decide (0 ≤ a2)) && (decide (a2 < ((List.length a0 : Nat) : Int))) then (Option.bind (U46.f k (List.getD a0 (Int.toNat a2) tPhiZ) a3) fun r1 => bif r1.1.1.1 then (some (((a2, ()), ()), ())) else (l0 a0 a1 (IntKind.wrap .i64 (a2 + 1)) a3)) else none) else (some (((-1, ()), ()), ()))
def all : Nat → (T0) × Unit
 | 0 => (fun _ _ _ _ => none, ())
 | k + 1 => (l0_ k (all k).1, ())
def l0 (k : Nat) : T0 := (all k).1
def f (k : Nat) (a0 : List tPhiD) (a1 : Int) : Option R := l0 k a0 ((List.length a0 : Nat) : Int) 0 a1
abbrev S : ShapeParts := ⟨[⟨false, [.lst tPhi]⟩, ⟨false, [.fn 109 [(0, 0)]]⟩], [(0, .cbox [.int .i64])], false, [⟨false, [.int .i64]⟩], [], []⟩
def s (k : Nat) : FS := S.fs fun x => f k x.1.1.1 x.2.1.1
def E (k : Nat) : Ents := [(⟨109, []⟩, U46.s k)]
def L0 (l : T0) : LS R := ⟨[], [(0, ⟨false, [.lst tPhi]⟩), (1, ⟨false, [.fn 109 [(0, 0)]]⟩), (7, ⟨false, [.int .i64]⟩), (8, ⟨false, [.int .i64]⟩)], [(0, .cbox [.int .i64])], fun x => l x.1.1.1 x.1.2.2.1.1 x.1.2.2.2.1.1 x.2.1.1⟩
def L (l0 : T0) : List (LS R) := [L0 l0]
def c : Code := Tryz.f137.body.getD .skip
theorem eq (k : Nat) (x) : (s k).pf x = execF tab (E k) Tryz.f137 c (s k) (L (l0 k)) x := by kernel_rfl
theorem r0 (l0 : T0) (k : Nat) (x) : (L0 (l0_ k l0)).l x = roundOf tab (E k) (L l0) c (fin tab Tryz.f137 (s k)) 0 (L0 l0) x := by kernel_rfl
theorem sound : ∀ k, Sound Tryz.prog 137 (s k) := snd S (fun k => (s k).pf) E (fun k => (EntsOK.cons (U46.sound k) EntsOK.nil)) (fun k => L (l0 k)) (fun k => ⟨⟨(L0 (l0 (k + 1))).l, rfl, fun x => r0 (l0 k) k x⟩, trivial⟩) eq
end U47
namespace U48
abbrev R := (((Bool × Unit) × Unit) × Unit)
def f (k : Nat) (a0 : List tPhiD) (a1 : Int) : Option R := Option.bind (U47.f k a0 a1) fun r1 => some (((decide (0 ≤ r1.1.1.1), ()), ()), ())
abbrev S : ShapeParts := ⟨[⟨false, [.lst tPhi]⟩, ⟨false, [.fn 109 [(0, 0)]]⟩], [(0, .cbox [.int .i64])], false, [⟨false, [.bool]⟩], [], []⟩
def s (k : Nat) : FS := S.fs fun x => f k x.1.1.1 x.2.1.1
def E (k : Nat) : Ents := [(⟨137, [109]⟩, U47.s k)]
def L : List (LS R) := []
def c : Code := Tryz.f108.body.getD .skip
theorem eq (k : Nat) (x) : (s k).pf x = execF tab (E k) Tryz.f108 c (s k) L x := by kernel_rfl
theorem sound : ∀ k, Sound Tryz.prog 108 (s k) := snd S (fun k => (s k).pf) E (fun k => (EntsOK.cons (U47.sound k) EntsOK.nil)) (fun k => L) (fun k => trivial) eq
end U48
namespace U49
abbrev R := (((Bool × Unit) × Unit) × Unit)
def f (k : Nat) (a0 : Int) : Option R := Option.bind (U38.f k a0 1 17) fun r1 => some (((r1.1.1.1, ()), ()), ())
abbrev S : ShapeParts := ⟨[⟨false, [.int .i64]⟩], [], false, [⟨false, [.bool]⟩], [], []⟩
def s (k : Nat) : FS := S.fs fun x => f k x.1.1.1
def E (k : Nat) : Ents := [(⟨105, []⟩, U38.s k)]
def L : List (LS R) := []
def c : Code := Tryz.f129.body.getD .skip
theorem eq (k : Nat) (x) : (s k).pf x = execF tab (E k) Tryz.f129 c (s k) L x := by kernel_rfl
theorem sound : ∀ k, Sound Tryz.prog 129 (s k) := snd S (fun k => (s k).pf) E (fun k => (EntsOK.cons (U38.sound k) EntsOK.nil)) (fun k => L) (fun k => trivial) eq
end U49
namespace U50
abbrev R := (((Bool × Unit) × Unit) × Unit)
def f (k : Nat) (a0 : Int) : Option R := Option.bind (U38.f k a0 18 20) fun r1 => some (((r1.1.1.1, ()), ()), ())
abbrev S : ShapeParts := ⟨[⟨false, [.int .i64]⟩], [], false, [⟨false, [.bool]⟩], [], []⟩
def s (k : Nat) : FS := S.fs fun x => f k x.1.1.1
def E (k : Nat) : Ents := [(⟨105, []⟩, U38.s k)]
def L : List (LS R) := []
def c : Code := Tryz.f148.body.getD .skip
theorem eq (k : Nat) (x) : (s k).pf x = execF tab (E k) Tryz.f148 c (s k) L x := by kernel_rfl
theorem sound : ∀ k, Sound Tryz.prog 148 (s k) := snd S (fun k => (s k).pf) E (fun k => (EntsOK.cons (U38.sound k) EntsOK.nil)) (fun k => L) (fun k => trivial) eq
end U50
namespace U51
abbrev R := (((Unit × Unit) × Unit) × ((List Int) × Unit))
def f (k : Nat) (a0 : tInstD) : Option R := Option.bind (U49.f k a0.1) fun r1 => bif r1.1.1.1 then (some ((((), ()), ()), ([a0.2.2.1, a0.2.2.2.1], ()))) else (bif decide (a0.1 = 24) then (some ((((), ()), ()), ([a0.2.2.1, a0.2.2.2.1], ()))) else (Option.bind (U50.f k a0.1) fun r2 => bif r2.1.1.1 then (some ((((), ()), ()), ([a0.2.2.1], ()))) else (bif decide (a0.1 = 23) then (some ((((), ()), ()), ([a0.2.2.1], ()))) else (bif decide (a0.1 = 25) then (some ((((), ()), ()), ([a0.2.2.1], ()))) else (bif decide (a0.1 = 27) then (some ((((), ()), ()), ([a0.2.2.1], ()))) else (bif decide (a0.1 = 22) then (some ((((), ()), ()), ([a0.2.2.1, a0.2.2.2.1, a0.2.2.2.2.1], ()))) else (bif decide (a0.1 = 26) then (Option.bind (slices_Clone_int64_int64.f k a0.2.2.2.2.2.2.1) fun r3 => some ((((), ()), ()), (r3.2.1, ()))) else (some ((((), ()), ()), (([] : List Int), ()))))))))))
abbrev S : ShapeParts := ⟨[⟨true, [.int .i64, .int .i64, .int .i64, .int .i64, .int .i64, .int .i64, .lst (.int .i64)]⟩], [], false, [⟨false, [.own 100]⟩], [(100, .row true (.int .i64))], []⟩
def s (k : Nat) : FS := S.fs fun x => f k x.1.1
def E (k : Nat) : Ents := [(⟨129, []⟩, U49.s k), (⟨148, []⟩, U50.s k), (⟨84, []⟩, slices_Clone_int64_int64.s k)]
def L : List (LS R) := []
def c : Code := Tryz.f120.body.getD .skip
theorem eq (k : Nat) (x) : (s k).pf x = execF tab (E k) Tryz.f120 c (s k) L x := by kernel_rfl
theorem sound : ∀ k, Sound Tryz.prog 120 (s k) := snd S (fun k => (s k).pf) E (fun k => (EntsOK.cons (U49.sound k) (EntsOK.cons (U50.sound k) (EntsOK.cons (slices_Clone_int64_int64.sound k) EntsOK.nil)))) (fun k => L) (fun k => trivial) eq
end U51
namespace U52
abbrev R := (((Bool × Unit) × Unit) × Unit)
def f (k : Nat) (a0 : Int) (a1 : Int) : Option R := Option.bind (U38.f k a0 0 (IntKind.wrap .i64 (a1 - 1))) fun r1 => some (((!r1.1.1.1, ()), ()), ())
abbrev S : ShapeParts := ⟨[⟨false, [.int .i64]⟩, ⟨false, [.ptr 0 0]⟩], [(0, .cbox [.int .i64])], false, [⟨false, [.bool]⟩], [], []⟩
def s (k : Nat) : FS := S.fs fun x => f k x.1.1.1 x.2.1.1
def E (k : Nat) : Ents := [(⟨105, []⟩, U38.s k)]
def L : List (LS R) := []
def c : Code := Tryz.f139.body.getD .skip
theorem eq (k : Nat) (x) : (s k).pf x = execF tab (E k) Tryz.f139 c (s k) L x := by kernel_rfl
theorem sound : ∀ k, Sound Tryz.prog 139 (s k) := snd S (fun k => (s k).pf) E (fun k => (EntsOK.cons (U38.sound k) EntsOK.nil)) (fun k => L) (fun k => trivial) eq
end U52
namespace U53
abbrev R := (((Int × Unit) × Unit) × Unit)
abbrev T0 : Type := (List Int) → Int → Int → Int → Option R
def l0_ (k : Nat) (l0 : T0) (a0 : List Int) (a1 : Int) (a2 : Int) (a3 : Int) : Option R := bif decide (a2 < a1) then (bif (decide (0 ≤ a2)) && (decide (a2 < ((List.length a0 : Nat) : Int))) then (Option.bind (U52.f k (List.getD a0 (Int.toNat a2) 0) a3) fun r1 => bif r1.1.1.1 then (some (((a2, ()), ()), ())) else (l0 a0 a1 (IntKind.wrap .i64 (a2 + 1)) a3)) else none) else (some (((-1, ()), ()), ()))
def all : Nat → (T0) × Unit
 | 0 => (fun _ _ _ _ => none, ())
 | k + 1 => (l0_ k (all k).1, ())
def l0 (k : Nat) : T0 := (all k).1
def f (k : Nat) (a0 : List Int) (a1 : Int) : Option R := l0 k a0 ((List.length a0 : Nat) : Int) 0 a1
abbrev S : ShapeParts := ⟨[⟨false, [.lst (.int .i64)]⟩, ⟨false, [.fn 139 [(0, 0)]]⟩], [(0, .cbox [.int .i64])], false, [⟨false, [.int .i64]⟩], [], []⟩
def s (k : Nat) : FS := S.fs fun x => f k x.1.1.1 x.2.1.1
def E (k : Nat) : Ents := [(⟨139, []⟩, U52.s k)]
def L0 (l : T0) : LS R := ⟨[], [(0, ⟨false, [.lst (.int .i64)]⟩), (1, ⟨false, [.fn 139 [(0, 0)]]⟩), (7, ⟨false, [.int .i64]⟩), (8, ⟨false, [.int .i64]⟩)], [(0, .cbox [.int .i64])], fun x => l x.1.1.1 x.1.2.2.1.1 x.1.2.2.2.1.1 x.2.1.1⟩
def L (l0 : T0) : List (LS R) := [L0 l0]
def c : Code := Tryz.f136.body.getD .skip
theorem eq (k : Nat) (x) : (s k).pf x = execF tab (E k) Tryz.f136 c (s k) (L (l0 k)) x := by kernel_rfl
theorem r0 (l0 : T0) (k : Nat) (x) : (L0 (l0_ k l0)).l x = roundOf tab (E k) (L l0) c (fin tab Tryz.f136 (s k)) 0 (L0 l0) x := by kernel_rfl
theorem sound : ∀ k, Sound Tryz.prog 136 (s k) := snd S (fun k => (s k).pf) E (fun k => (EntsOK.cons (U52.sound k) EntsOK.nil)) (fun k => L (l0 k)) (fun k => ⟨⟨(L0 (l0 (k + 1))).l, rfl, fun x => r0 (l0 k) k x⟩, trivial⟩) eq
end U53
namespace U54
abbrev R := (((Bool × Unit) × Unit) × Unit)
def f (k : Nat) (a0 : List Int) (a1 : Int) : Option R := Option.bind (U53.f k a0 a1) fun r1 => some (((decide (0 ≤ r1.1.1.1), ()), ()), ())
abbrev S : ShapeParts := ⟨[⟨false, [.lst (.int .i64)]⟩, ⟨false, [.fn 139 [(0, 0)]]⟩], [(0, .cbox [.int .i64])], false, [⟨false, [.bool]⟩], [], []⟩
def s (k : Nat) : FS := S.fs fun x => f k x.1.1.1 x.2.1.1
def E (k : Nat) : Ents := [(⟨136, [139]⟩, U53.s k)]
def L : List (LS R) := []
def c : Code := Tryz.f106.body.getD .skip
theorem eq (k : Nat) (x) : (s k).pf x = execF tab (E k) Tryz.f106 c (s k) L x := by kernel_rfl
theorem sound : ∀ k, Sound Tryz.prog 106 (s k) := snd S (fun k => (s k).pf) E (fun k => (EntsOK.cons (U53.sound k) EntsOK.nil)) (fun k => L) (fun k => trivial) eq
end U54
namespace U55
abbrev R := (((Bool × Unit) × Unit) × Unit)
def f (k : Nat) (a0 : Int) : Option R := some (((!decide (a0 = 0), ()), ()), ())
abbrev S : ShapeParts := ⟨[⟨false, [.int .i64]⟩], [], false, [⟨false, [.bool]⟩], [], []⟩
def s (k : Nat) : FS := S.fs fun x => f k x.1.1.1
def E (k : Nat) : Ents := []
def L : List (LS R) := []
def c : Code := Tryz.f140.body.getD .skip
theorem eq (k : Nat) (x) : (s k).pf x = execF tab (E k) Tryz.f140 c (s k) L x := by kernel_rfl
theorem sound : ∀ k, Sound Tryz.prog 140 (s k) := snd S (fun k => (s k).pf) E (fun k => EntsOK.nil) (fun k => L) (fun k => trivial) eq
end U55
namespace U56
abbrev R := (((Int × Unit) × Unit) × Unit)
abbrev T0 : Type := (List Int) → Int → Int → Option R
def l0_ (k : Nat) (l0 : T0) (a0 : List Int) (a1 : Int) (a2 : Int) : Option R := bif decide (a2 < a1) then (bif (decide (0 ≤ a2)) && (decide (a2 < ((List.length a0 : Nat) : Int))) then (Option.bind (U55.f k (List.getD a0 (Int.toNat a2) 0)) fun r1 => bif r1.1.1.1 then (some (((a2, ()), ()), ())) else (l0 a0 a1 (IntKind.wrap .i64 (a2 + 1)))) else none) else (some (((-1, ()), ()), ()))
def all : Nat → (T0) × Unit
 | 0 => (fun _ _ _ => none, ())
 | k + 1 => (l0_ k (all k).1, ())
def l0 (k : Nat) : T0 := (all k).1
def f (k : Nat) (a0 : List Int) : Option R := l0 k a0 ((List.length a0 : Nat) : Int) 0
abbrev S : ShapeParts := ⟨[⟨false, [.lst (.int .i64)]⟩, ⟨false, [.fn 140 []]⟩], [], false, [⟨false, [.int .i64]⟩], [], []⟩
def s (k : Nat) : FS := S.fs fun x => f k x.1.1.1
def E (k : Nat) : Ents := [(⟨140, []⟩, U55.s k)]
def L0 (l : T0) : LS R := ⟨[], [(0, ⟨false, [.lst (.int .i64)]⟩), (1, ⟨false, [.fn 140 []]⟩), (7, ⟨false, [.int .i64]⟩), (8, ⟨false, [.int .i64]⟩)], [], fun x => l x.1.1.1 x.1.2.2.1.1 x.1.2.2.2.1.1⟩
def L (l0 : T0) : List (LS R) := [L0 l0]
def c : Code := Tryz.f136.body.getD .skip
theorem eq (k : Nat) (x) : (s k).pf x = execF tab (E k) Tryz.f136 c (s k) (L (l0 k)) x := by kernel_rfl
theorem r0 (l0 : T0) (k : Nat) (x) : (L0 (l0_ k l0)).l x = roundOf tab (E k) (L l0) c (fin tab Tryz.f136 (s k)) 0 (L0 l0) x := by kernel_rfl
theorem sound : ∀ k, Sound Tryz.prog 136 (s k) := snd S (fun k => (s k).pf) E (fun k => (EntsOK.cons (U55.sound k) EntsOK.nil)) (fun k => L (l0 k)) (fun k => ⟨⟨(L0 (l0 (k + 1))).l, rfl, fun x => r0 (l0 k) k x⟩, trivial⟩) eq
end U56
namespace U57
abbrev R := (((Bool × Unit) × Unit) × Unit)
def f (k : Nat) (a0 : List Int) : Option R := Option.bind (U56.f k a0) fun r1 => some (((decide (0 ≤ r1.1.1.1), ()), ()), ())
abbrev S : ShapeParts := ⟨[⟨false, [.lst (.int .i64)]⟩, ⟨false, [.fn 140 []]⟩], [], false, [⟨false, [.bool]⟩], [], []⟩
def s (k : Nat) : FS := S.fs fun x => f k x.1.1.1
def E (k : Nat) : Ents := [(⟨136, [140]⟩, U56.s k)]
def L : List (LS R) := []
def c : Code := Tryz.f106.body.getD .skip
theorem eq (k : Nat) (x) : (s k).pf x = execF tab (E k) Tryz.f106 c (s k) L x := by kernel_rfl
theorem sound : ∀ k, Sound Tryz.prog 106 (s k) := snd S (fun k => (s k).pf) E (fun k => (EntsOK.cons (U56.sound k) EntsOK.nil)) (fun k => L) (fun k => trivial) eq
end U57
namespace U58
abbrev R := (((Bool × Unit) × Unit) × Unit)
def f (k : Nat) (a0 : tInstD) : Option R := bif decide (a0.1 = 24) then (bif decide (a0.1 = 24) then (some (((decide (a0.2.1 = 0), ()), ()), ())) else (bif decide (a0.1 = 23) then (some (((decide (a0.2.1 = 8), ()), ()), ())) else (Option.bind (U37.f k a0.2.1) fun r1 => some (((r1.1.1.1, ()), ()), ())))) else (bif decide (a0.1 = 25) then (some (((decide (a0.2.1 = 0), ()), ()), ())) else (bif decide (a0.1 = 23) then (some (((decide (a0.2.1 = 8), ()), ()), ())) else (Option.bind (U37.f k a0.2.1) fun r2 => some (((r2.1.1.1, ()), ()), ()))))
abbrev S : ShapeParts := ⟨[⟨true, [.int .i64, .int .i64, .int .i64, .int .i64, .int .i64, .int .i64, .lst (.int .i64)]⟩], [], false, [⟨false, [.bool]⟩], [], []⟩
def s (k : Nat) : FS := S.fs fun x => f k x.1.1
def E (k : Nat) : Ents := [(⟨104, []⟩, U37.s k)]
def L : List (LS R) := []
def c : Code := Tryz.f141.body.getD .skip
theorem eq (k : Nat) (x) : (s k).pf x = execF tab (E k) Tryz.f141 c (s k) L x := by kernel_rfl
theorem sound : ∀ k, Sound Tryz.prog 141 (s k) := snd S (fun k => (s k).pf) E (fun k => (EntsOK.cons (U37.sound k) EntsOK.nil)) (fun k => L) (fun k => trivial) eq
end U58
namespace U59
abbrev R := (((Int × Unit) × Unit) × Unit)
def f (k : Nat) (a0 : Int) : Option R := bif decide (0 ≤ a0) then (some (((IntKind.wrap .i64 ((V.shl .i64 1 a0) - 1), ()), ()), ())) else none
abbrev S : ShapeParts := ⟨[⟨false, [.int .i64]⟩], [], false, [⟨false, [.int .i64]⟩], [], []⟩
def s (k : Nat) : FS := S.fs fun x => f k x.1.1.1
def E (k : Nat) : Ents := []
def L : List (LS R) := []
def c : Code := Tryz.f164.body.getD .skip
theorem eq (k : Nat) (x) : (s k).pf x = execF tab (E k) Tryz.f164 c (s k) L x := by kernel_rfl
theorem sound : ∀ k, Sound Tryz.prog 164 (s k) := snd S (fun k => (s k).pf) E (fun k => EntsOK.nil) (fun k => L) (fun k => trivial) eq
end U59
namespace U60
abbrev R := (((Bool × Unit) × Unit) × Unit)
def f (k : Nat) (a0 : Int) (a1 : Int) : Option R := Option.bind (U37.f k a0) fun r1 => bif r1.1.1.1 then (Option.bind (U59.f k a0) fun r2 => Option.bind (U38.f k a1 0 r2.1.1.1) fun r3 => some (((r3.1.1.1, ()), ()), ())) else (some (((false, ()), ()), ()))
abbrev S : ShapeParts := ⟨[⟨false, [.int .i64]⟩, ⟨false, [.int .i64]⟩], [], false, [⟨false, [.bool]⟩], [], []⟩
def s (k : Nat) : FS := S.fs fun x => f k x.1.1.1 x.1.2.1.1
def E (k : Nat) : Ents := [(⟨104, []⟩, U37.s k), (⟨164, []⟩, U59.s k), (⟨105, []⟩, U38.s k)]
def L : List (LS R) := []
def c : Code := Tryz.f153.body.getD .skip
theorem eq (k : Nat) (x) : (s k).pf x = execF tab (E k) Tryz.f153 c (s k) L x := by kernel_rfl
theorem sound : ∀ k, Sound Tryz.prog 153 (s k) := snd S (fun k => (s k).pf) E (fun k => (EntsOK.cons (U37.sound k) (EntsOK.cons (U59.sound k) (EntsOK.cons (U38.sound k) EntsOK.nil)))) (fun k => L) (fun k => trivial) eq
end U60
namespace U61
abbrev R := (((Bool × Unit) × Unit) × Unit)
def f (k : Nat) (a0 : tInstD) (a1 : Int) : Option R := bif decide (a0.1 = 21) then (Option.bind (U60.f k a0.2.1 a0.2.2.2.2.2.1) fun r1 => some (((r1.1.1.1, ()), ()), ())) else (bif decide (a0.1 = 26) then (Option.bind (U38.f k a0.2.2.2.2.2.1 0 (IntKind.wrap .i64 (a1 - 1))) fun r2 => some (((r2.1.1.1, ()), ()), ())) else (some (((decide (a0.2.2.2.2.2.1 = 0), ()), ()), ())))
abbrev S : ShapeParts := ⟨[⟨true, [.int .i64, .int .i64, .int .i64, .int .i64, .int .i64, .int .i64, .lst (.int .i64)]⟩, ⟨false, [.int .i64]⟩], [], false, [⟨false, [.bool]⟩], [], []⟩
def s (k : Nat) : FS := S.fs fun x => f k x.1.1 x.1.2.1.1
def E (k : Nat) : Ents := [(⟨153, []⟩, U60.s k), (⟨105, []⟩, U38.s k)]
def L : List (LS R) := []
def c : Code := Tryz.f142.body.getD .skip
theorem eq (k : Nat) (x) : (s k).pf x = execF tab (E k) Tryz.f142 c (s k) L x := by kernel_rfl
theorem sound : ∀ k, Sound Tryz.prog 142 (s k) := snd S (fun k => (s k).pf) E (fun k => (EntsOK.cons (U60.sound k) (EntsOK.cons (U38.sound k) EntsOK.nil))) (fun k => L) (fun k => trivial) eq
end U61
namespace U62
abbrev R := (((Bool × Unit) × Unit) × Unit)
def f (k : Nat) (a0 : tInstD) (a1 : Int) (a2 : Int) : Option R := Option.bind (U38.f k a0.1 1 27) fun r1 => bif !r1.1.1.1 then (some (((false, ()), ()), ())) else (bif decide (4 < ((List.length a0.2.2.2.2.2.2.1 : Nat) : Int)) then (some (((false, ()), ()), ())) else (bif decide (0 < ((List.length a0.2.2.2.2.2.2.1 : Nat) : Int)) then (bif !decide (a0.1 = 26) then (some (((false, ()), ()), ())) else (Option.bind (U51.f k a0) fun r2 => Option.bind (U54.f k r2.2.1 a1) fun r3 => bif r3.1.1.1 then (some (((false, ()), ()), ())) else (bif decide (a0.1 = 26) then (bif (decide (0 ≤ 0)) && (decide (0 ≤ ((List.length [a0.2.2.1, a0.2.2.2.1, a0.2.2.2.2.1] : Nat) : Int))) then (Option.bind (U57.f k [a0.2.2.1, a0.2.2.2.1, a0.2.2.2.2.1]) fun r4 => bif r4.1.1.1 then (some (((false, ()), ()), ())) else (Option.bind (U58.f k a0) fun r5 => bif r5.1.1.1 then (Option.bind (U61.f k a0 a2) fun r6 => some (((r6.1.1.1, ()), ()), ())) else (some (((false, ()), ()), ())))) else none) else (bif (decide (0 ≤ ((List.length r2.2.1 : Nat) : Int))) && (decide (((List.length r2.2.1 : Nat) : Int) ≤ ((List.length [a0.2.2.1, a0.2.2.2.1, a0.2.2.2.2.1] : Nat) : Int))) then (Option.bind (U57.f k (List.drop (Int.toNat ((List.length r2.2.1 : Nat) : Int)) [a0.2.2.1, a0.2.2.2.1, a0.2.2.2.2.1])) fun r7 => bif r7.1.1.1 then (some (((false, ()), ()), ())) else (Option.bind (U58.f k a0) fun r8 => bif r8.1.1.1 then (Option.bind (U61.f k a0 a2) fun r9 => some (((r9.1.1.1, ()), ()), ())) else (some (((false, ()), ()), ())))) else none)))) else (Option.bind (U51.f k a0) fun r10 => Option.bind (U54.f k r10.2.1 a1) fun r11 => bif r11.1.1.1 then (some (((false, ()), ()), ())) else (bif decide (a0.1 = 26) then (bif (decide (0 ≤ 0)) && (decide (0 ≤ ((List.length [a0.2.2.1, a0.2.2.2.1, a0.2.2.2.2.1] : Nat) : Int))) then (Option.bind (U57.f k [a0.2.2.1, a0.2.2.2.1, a0.2.2.2.2.1]) fun r12 => bif r12.1.1.1 then (some (((false, ()), ()), ())) else (Option.bind (U58.f k a0) fun r13 => bif r13.1.1.1 then (Option.bind (U61.f k a0 a2) fun r14 => some (((r14.1.1.1, ()), ()), ())) else (some (((false, ()), ()), ())))) else none) else (bif (decide (0 ≤ ((List.length r10.2.1 : Nat) : Int))) && (decide (((List.length r10.2.1 : Nat) : Int) ≤ ((List.length [a0.2.2.1, a0.2.2.2.1, a0.2.2.2.2.1] : Nat) : Int))) then (Option.bind (U57.f k (List.drop (Int.toNat ((List.length r10.2.1 : Nat) : Int)) [a0.2.2.1, a0.2.2.2.1, a0.2.2.2.2.1])) fun r15 => bif r15.1.1.1 then (some (((false, ()), ()), ())) else (Option.bind (U58.f k a0) fun r16 => bif r16.1.1.1 then (Option.bind (U61.f k a0 a2) fun r17 => some (((r17.1.1.1, ()), ()), ())) else (some (((false, ()), ()), ())))) else none)))))
abbrev S : ShapeParts := ⟨[⟨true, [.int .i64, .int .i64, .int .i64, .int .i64, .int .i64, .int .i64, .lst (.int .i64)]⟩, ⟨false, [.int .i64]⟩, ⟨false, [.int .i64]⟩], [], false, [⟨false, [.bool]⟩], [], []⟩
def s (k : Nat) : FS := S.fs fun x => f k x.1.1 x.1.2.1.1 x.1.2.2.1.1
def E (k : Nat) : Ents := [(⟨105, []⟩, U38.s k), (⟨120, []⟩, U51.s k), (⟨106, [139]⟩, U54.s k), (⟨106, [140]⟩, U57.s k), (⟨141, []⟩, U58.s k), (⟨142, []⟩, U61.s k)]
def L : List (LS R) := []
def c : Code := Tryz.f113.body.getD .skip
theorem eq (k : Nat) (x) : (s k).pf x = execF tab (E k) Tryz.f113 c (s k) L x := by kernel_rfl
theorem sound : ∀ k, Sound Tryz.prog 113 (s k) := snd S (fun k => (s k).pf) E (fun k => (EntsOK.cons (U38.sound k) (EntsOK.cons (U51.sound k) (EntsOK.cons (U54.sound k) (EntsOK.cons (U57.sound k) (EntsOK.cons (U58.sound k) (EntsOK.cons (U61.sound k) EntsOK.nil))))))) (fun k => L) (fun k => trivial) eq
end U62
namespace U63
abbrev R := (((Bool × Unit) × Unit) × Unit)
def f (k : Nat) (a0 : tInstD) (a1 : Int) (a2 : Int) : Option R := Option.bind (U62.f k a0 a1 a2) fun r1 => some (((!r1.1.1.1, ()), ()), ())
abbrev S : ShapeParts := ⟨[⟨true, [.int .i64, .int .i64, .int .i64, .int .i64, .int .i64, .int .i64, .lst (.int .i64)]⟩, ⟨false, [.ptr 0 0]⟩, ⟨false, [.ptr 1 0]⟩], [(0, .cbox [.int .i64]), (1, .cbox [.int .i64])], false, [⟨false, [.bool]⟩], [], []⟩
def s (k : Nat) : FS := S.fs fun x => f k x.1.1 x.2.1.1 x.2.2.1.1
def E (k : Nat) : Ents := [(⟨113, []⟩, U62.s k)]
def L : List (LS R) := []
def c : Code := Tryz.f112.body.getD .skip
theorem eq (k : Nat) (x) : (s k).pf x = execF tab (E k) Tryz.f112 c (s k) L x := by kernel_rfl
theorem sound : ∀ k, Sound Tryz.prog 112 (s k) := snd S (fun k => (s k).pf) E (fun k => (EntsOK.cons (U62.sound k) EntsOK.nil)) (fun k => L) (fun k => trivial) eq
end U63
namespace U64
abbrev R := (((Int × Unit) × Unit) × Unit)
abbrev T0 : Type := (List tInstD) → Int → Int → Int → Int → Option R
def l0_ (k : Nat) (l0 : T0) (a0 : List tInstD) (a1 : Int) (a2 : Int) (a3 : Int) (a4 : Int) : Option R := bif decide (a2 < a1) then (bif (decide (0 ≤ a2)) && (decide (a2 < ((List.length a0 : Nat) : Int))) then (Option.bind (U63.f k (List.getD a0 (Int.toNat a2) tInstZ) a3 a4) fun r1 => bif r1.1.1.1 then (some (((a2, ()), ()), ())) else (l0 a0 a1 (IntKind.wrap .i64 (a2 + 1)) a3 a4)) else none) else (some (((-1, ()), ()), ()))
def all : Nat → (T0) × Unit
 | 0 => (fun _ _ _ _ _ => none, ())
 | k + 1 => (l0_ k (all k).1, ())
def l0 (k : Nat) : T0 := (all k).1
def f (k : Nat) (a0 : List tInstD) (a1 : Int) (a2 : Int) : Option R := l0 k a0 ((List.length a0 : Nat) : Int) 0 a1 a2
abbrev S : ShapeParts := ⟨[⟨false, [.lst tInst]⟩, ⟨false, [.fn 112 [(0, 0), (1, 0)]]⟩], [(0, .cbox [.int .i64]), (1, .cbox [.int .i64])], false, [⟨false, [.int .i64]⟩], [], []⟩
def s (k : Nat) : FS := S.fs fun x => f k x.1.1.1 x.2.1.1 x.2.2.1.1
def E (k : Nat) : Ents := [(⟨112, []⟩, U63.s k)]
def L0 (l : T0) : LS R := ⟨[], [(0, ⟨false, [.lst tInst]⟩), (1, ⟨false, [.fn 112 [(0, 0), (1, 0)]]⟩), (7, ⟨false, [.int .i64]⟩), (8, ⟨false, [.int .i64]⟩)], [(0, .cbox [.int .i64]), (1, .cbox [.int .i64])], fun x => l x.1.1.1 x.1.2.2.1.1 x.1.2.2.2.1.1 x.2.1.1 x.2.2.1.1⟩
def L (l0 : T0) : List (LS R) := [L0 l0]
def c : Code := Tryz.f138.body.getD .skip
theorem eq (k : Nat) (x) : (s k).pf x = execF tab (E k) Tryz.f138 c (s k) (L (l0 k)) x := by kernel_rfl
theorem r0 (l0 : T0) (k : Nat) (x) : (L0 (l0_ k l0)).l x = roundOf tab (E k) (L l0) c (fin tab Tryz.f138 (s k)) 0 (L0 l0) x := by kernel_rfl
theorem sound : ∀ k, Sound Tryz.prog 138 (s k) := snd S (fun k => (s k).pf) E (fun k => (EntsOK.cons (U63.sound k) EntsOK.nil)) (fun k => L (l0 k)) (fun k => ⟨⟨(L0 (l0 (k + 1))).l, rfl, fun x => r0 (l0 k) k x⟩, trivial⟩) eq
end U64
namespace U65
abbrev R := (((Bool × Unit) × Unit) × Unit)
def f (k : Nat) (a0 : List tInstD) (a1 : Int) (a2 : Int) : Option R := Option.bind (U64.f k a0 a1 a2) fun r1 => some (((decide (0 ≤ r1.1.1.1), ()), ()), ())
abbrev S : ShapeParts := ⟨[⟨false, [.lst tInst]⟩, ⟨false, [.fn 112 [(0, 0), (1, 0)]]⟩], [(0, .cbox [.int .i64]), (1, .cbox [.int .i64])], false, [⟨false, [.bool]⟩], [], []⟩
def s (k : Nat) : FS := S.fs fun x => f k x.1.1.1 x.2.1.1 x.2.2.1.1
def E (k : Nat) : Ents := [(⟨138, [112]⟩, U64.s k)]
def L : List (LS R) := []
def c : Code := Tryz.f111.body.getD .skip
theorem eq (k : Nat) (x) : (s k).pf x = execF tab (E k) Tryz.f111 c (s k) L x := by kernel_rfl
theorem sound : ∀ k, Sound Tryz.prog 111 (s k) := snd S (fun k => (s k).pf) E (fun k => (EntsOK.cons (U64.sound k) EntsOK.nil)) (fun k => L) (fun k => trivial) eq
end U65
namespace U66
abbrev R := (((Bool × Unit) × Unit) × Unit)
def f (k : Nat) (a0 : Int) (a1 : tFuncD) : Option R := Option.bind (U38.f k a0 0 (IntKind.wrap .i64 (((List.length a1.2.2.1 : Nat) : Int) - 1))) fun r1 => some (((r1.1.1.1, ()), ()), ())
abbrev S : ShapeParts := ⟨[⟨false, [.int .i64]⟩, ⟨false, [.ptr 0 0]⟩], [(0, .cbox [.lst (.int .i64), .int .i64, .lst tBlock])], false, [⟨false, [.bool]⟩], [], []⟩
def s (k : Nat) : FS := S.fs fun x => f k x.1.1.1 x.2.1
def E (k : Nat) : Ents := [(⟨105, []⟩, U38.s k)]
def L : List (LS R) := []
def c : Code := Tryz.f143.body.getD .skip
theorem eq (k : Nat) (x) : (s k).pf x = execF tab (E k) Tryz.f143 c (s k) L x := by kernel_rfl
theorem sound : ∀ k, Sound Tryz.prog 143 (s k) := snd S (fun k => (s k).pf) E (fun k => (EntsOK.cons (U38.sound k) EntsOK.nil)) (fun k => L) (fun k => trivial) eq
end U66
namespace U67
abbrev R := (((Bool × Unit) × Unit) × Unit)
def f (k : Nat) (a0 : tFuncD) (a1 : tTermD) (a2 : Int) : Option R := bif decide (a1.1 = 1) then (Option.bind (U38.f k a1.2.1 0 (IntKind.wrap .i64 (a2 - 1))) fun r1 => bif r1.1.1.1 then (bif decide (a1.2.2.1 = 0) then (some (((decide (a1.2.2.2.1 = 0), ()), ()), ())) else (some (((false, ()), ()), ()))) else (some (((false, ()), ()), ()))) else (bif decide (a1.1 = 2) then (bif decide (a1.2.1 = 0) then (Option.bind (U66.f k a1.2.2.1 a0) fun r2 => bif r2.1.1.1 then (some (((decide (a1.2.2.2.1 = 0), ()), ()), ())) else (some (((false, ()), ()), ()))) else (some (((false, ()), ()), ()))) else (bif decide (a1.1 = 3) then (Option.bind (U38.f k a1.2.1 0 (IntKind.wrap .i64 (a2 - 1))) fun r3 => bif r3.1.1.1 then (Option.bind (U66.f k a1.2.2.1 a0) fun r4 => bif r4.1.1.1 then (Option.bind (U66.f k a1.2.2.2.1 a0) fun r5 => bif r5.1.1.1 then (some (((!decide (a1.2.2.1 = a1.2.2.2.1), ()), ()), ())) else (some (((false, ()), ()), ()))) else (some (((false, ()), ()), ()))) else (some (((false, ()), ()), ()))) else (bif decide (a1.1 = 4) then (bif decide (a1.2.1 = 0) then (bif decide (a1.2.2.1 = 0) then (some (((decide (a1.2.2.2.1 = 0), ()), ()), ())) else (some (((false, ()), ()), ()))) else (some (((false, ()), ()), ()))) else (some (((false, ()), ()), ())))))
abbrev S : ShapeParts := ⟨[⟨true, [.lst (.int .i64), .int .i64, .lst tBlock]⟩, ⟨true, [.int .i64, .int .i64, .int .i64, .int .i64]⟩, ⟨false, [.int .i64]⟩], [], false, [⟨false, [.bool]⟩], [], []⟩
def s (k : Nat) : FS := S.fs fun x => f k x.1.1 x.1.2.1 x.1.2.2.1.1
def E (k : Nat) : Ents := [(⟨105, []⟩, U38.s k), (⟨143, []⟩, U66.s k)]
def L : List (LS R) := []
def c : Code := Tryz.f114.body.getD .skip
theorem eq (k : Nat) (x) : (s k).pf x = execF tab (E k) Tryz.f114 c (s k) L x := by kernel_rfl
theorem sound : ∀ k, Sound Tryz.prog 114 (s k) := snd S (fun k => (s k).pf) E (fun k => (EntsOK.cons (U38.sound k) (EntsOK.cons (U66.sound k) EntsOK.nil))) (fun k => L) (fun k => trivial) eq
end U67
namespace U68
abbrev R := (((Bool × Unit) × Unit) × Unit)
abbrev T0 : Type := (List tBlockD) → Int → Int → tFuncD → Int → Int → Option R
def l0_ (k : Nat) (l0 : T0) (a0 : List tBlockD) (a1 : Int) (a2 : Int) (a3 : tFuncD) (a4 : Int) (a5 : Int) : Option R := bif decide (a2 < a1) then (bif (decide (0 ≤ a2)) && (decide (a2 < ((List.length a0 : Nat) : Int))) then (Option.bind (U48.f k ((List.getD a0 (Int.toNat a2) tBlockZ).1) a5) fun r1 => bif r1.1.1.1 then (some (((false, ()), ()), ())) else (Option.bind (U65.f k ((List.getD a0 (Int.toNat a2) tBlockZ).2.1) a5 a4) fun r2 => bif r2.1.1.1 then (some (((false, ()), ()), ())) else (Option.bind (U67.f k a3 ((List.getD a0 (Int.toNat a2) tBlockZ).2.2) a5) fun r3 => bif !r3.1.1.1 then (some (((false, ()), ()), ())) else (l0 a0 a1 (IntKind.wrap .i64 (a2 + 1)) a3 a4 a5)))) else none) else (some (((true, ()), ()), ()))
def all : Nat → (T0) × Unit
 | 0 => (fun _ _ _ _ _ _ => none, ())
 | k + 1 => (l0_ k (all k).1, ())
def l0 (k : Nat) : T0 := (all k).1
def f (k : Nat) (a0 : tFuncD) (a1 : Int) : Option R := bif decide (4 < ((List.length a0.1 : Nat) : Int)) then (some (((false, ()), ()), ())) else (Option.bind (U37.f k a0.2.1) fun r1 => bif !r1.1.1.1 then (some (((false, ()), ()), ())) else (Option.bind (U38.f k ((List.length a0.2.2.1 : Nat) : Int) 1 10) fun r2 => bif !r2.1.1.1 then (some (((false, ()), ()), ())) else (Option.bind (U41.f k a0.1) fun r3 => bif r3.1.1.1 then (some (((false, ()), ()), ())) else (Option.bind (U42.f k a0) fun r4 => bif decide (60 < r4.1.1.1) then (some (((false, ()), ()), ())) else (l0 k a0.2.2.1 ((List.length a0.2.2.1 : Nat) : Int) 0 a0 a1 r4.1.1.1)))))
abbrev S : ShapeParts := ⟨[⟨true, [.lst (.int .i64), .int .i64, .lst tBlock]⟩, ⟨false, [.int .i64]⟩], [], false, [⟨false, [.bool]⟩], [], []⟩
def s (k : Nat) : FS := S.fs fun x => f k x.1.1 x.1.2.1.1
def E (k : Nat) : Ents := [(⟨104, []⟩, U37.s k), (⟨105, []⟩, U38.s k), (⟨106, [107]⟩, U41.s k), (⟨87, []⟩, U42.s k), (⟨108, [109]⟩, U48.s k), (⟨111, [112]⟩, U65.s k), (⟨114, []⟩, U67.s k)]
def L0 (l : T0) : LS R := ⟨[], [(2, ⟨false, [.ptr 100000 0]⟩), (3, ⟨false, [.ptr 100001 0]⟩), (5, ⟨false, [.ptr 100002 0]⟩), (35, ⟨false, [.lst tBlock]⟩), (36, ⟨false, [.int .i64]⟩), (37, ⟨false, [.int .i64]⟩)], [(100000, .box [.lst (.int .i64), .int .i64, .lst tBlock]), (100001, .box [.int .i64]), (100002, .box [.int .i64])], fun x => l x.1.2.2.2.1.1 x.1.2.2.2.2.1.1 x.1.2.2.2.2.2.1.1 x.2.1 x.2.2.1.1 x.2.2.2.1.1⟩
def L (l0 : T0) : List (LS R) := [L0 l0]
def c : Code := Tryz.f66.body.getD .skip
theorem eq (k : Nat) (x) : (s k).pf x = execF tab (E k) Tryz.f66 c (s k) (L (l0 k)) x := by kernel_rfl
theorem r0 (l0 : T0) (k : Nat) (x) : (L0 (l0_ k l0)).l x = roundOf tab (E k) (L l0) c (fin tab Tryz.f66 (s k)) 0 (L0 l0) x := by kernel_rfl
theorem sound : ∀ k, Sound Tryz.prog 66 (s k) := snd S (fun k => (s k).pf) E (fun k => (EntsOK.cons (U37.sound k) (EntsOK.cons (U38.sound k) (EntsOK.cons (U41.sound k) (EntsOK.cons (U42.sound k) (EntsOK.cons (U48.sound k) (EntsOK.cons (U65.sound k) (EntsOK.cons (U67.sound k) EntsOK.nil)))))))) (fun k => L (l0 k)) (fun k => ⟨⟨(L0 (l0 (k + 1))).l, rfl, fun x => r0 (l0 k) k x⟩, trivial⟩) eq
end U68
namespace U69
abbrev R := (((Bool × Unit) × Unit) × Unit)
def f (k : Nat) (a0 : tFuncD) : Option R := Option.bind (U68.f k a0 3) fun r1 => some (((r1.1.1.1, ()), ()), ())
abbrev S : ShapeParts := ⟨[⟨true, [.lst (.int .i64), .int .i64, .lst tBlock]⟩], [], false, [⟨false, [.bool]⟩], [], []⟩
def s (k : Nat) : FS := S.fs fun x => f k x.1.1
def E (k : Nat) : Ents := [(⟨66, []⟩, U68.s k)]
def L : List (LS R) := []
def c : Code := Tryz.f32.body.getD .skip
theorem eq (k : Nat) (x) : (s k).pf x = execF tab (E k) Tryz.f32 c (s k) L x := by kernel_rfl
theorem sound : ∀ k, Sound Tryz.prog 32 (s k) := snd S (fun k => (s k).pf) E (fun k => (EntsOK.cons (U68.sound k) EntsOK.nil)) (fun k => L) (fun k => trivial) eq
end U69
namespace U70
abbrev R := (((Bool × Unit) × Unit) × Unit)
def f (k : Nat) (a0 : tFuncD) (a1 : Int) : Option R := Option.bind (U42.f k a0) fun r1 => Option.bind (U38.f k a1 0 (IntKind.wrap .i64 (r1.1.1.1 - 1))) fun r2 => some (((r2.1.1.1, ()), ()), ())
abbrev S : ShapeParts := ⟨[⟨true, [.lst (.int .i64), .int .i64, .lst tBlock]⟩, ⟨false, [.int .i64]⟩], [], false, [⟨false, [.bool]⟩], [], []⟩
def s (k : Nat) : FS := S.fs fun x => f k x.1.1 x.1.2.1.1
def E (k : Nat) : Ents := [(⟨87, []⟩, U42.s k), (⟨105, []⟩, U38.s k)]
def L : List (LS R) := []
def c : Code := Tryz.f144.body.getD .skip
theorem eq (k : Nat) (x) : (s k).pf x = execF tab (E k) Tryz.f144 c (s k) L x := by kernel_rfl
theorem sound : ∀ k, Sound Tryz.prog 144 (s k) := snd S (fun k => (s k).pf) E (fun k => (EntsOK.cons (U42.sound k) (EntsOK.cons (U38.sound k) EntsOK.nil))) (fun k => L) (fun k => trivial) eq
end U70
namespace U71
abbrev R := (((Int × Unit) × (Int × Unit) × Unit) × Unit)
abbrev T0 : Type := Int → Int → (List tBlockD) → Int → Int → Option R
def l0_ (k : Nat) (l0 : T0) (a0 : Int) (a1 : Int) (a2 : List tBlockD) (a3 : Int) (a4 : Int) : Option R := bif decide (a4 < a3) then (bif (decide (0 ≤ a4)) && (decide (a4 < ((List.length a2 : Nat) : Int))) then (bif decide (a0 < IntKind.wrap .i64 (a1 + (IntKind.wrap .i64 (((List.length ((List.getD a2 (Int.toNat a4) tBlockZ).1) : Nat) : Int) + ((List.length ((List.getD a2 (Int.toNat a4) tBlockZ).2.1) : Nat) : Int))))) then (some (((a4, ()), (IntKind.wrap .i64 (a0 - a1), ()), ()), ())) else (l0 a0 (IntKind.wrap .i64 (a1 + (IntKind.wrap .i64 (((List.length ((List.getD a2 (Int.toNat a4) tBlockZ).1) : Nat) : Int) + ((List.length ((List.getD a2 (Int.toNat a4) tBlockZ).2.1) : Nat) : Int))))) a2 a3 (IntKind.wrap .i64 (a4 + 1)))) else none) else (some (((-2, ()), (0, ()), ()), ()))
def all : Nat → (T0) × Unit
 | 0 => (fun _ _ _ _ _ => none, ())
 | k + 1 => (l0_ k (all k).1, ())
def l0 (k : Nat) : T0 := (all k).1
def f (k : Nat) (a0 : tFuncD) (a1 : Int) : Option R := Option.bind (U70.f k a0 a1) fun r1 => bif !r1.1.1.1 then (some (((-2, ()), (0, ()), ()), ())) else (bif decide (a1 < ((List.length a0.1 : Nat) : Int)) then (some (((-1, ()), (a1, ()), ()), ())) else (l0 k a1 ((List.length a0.1 : Nat) : Int) a0.2.2.1 ((List.length a0.2.2.1 : Nat) : Int) 0))
abbrev S : ShapeParts := ⟨[⟨true, [.lst (.int .i64), .int .i64, .lst tBlock]⟩, ⟨false, [.int .i64]⟩], [], true, [⟨false, [.int .i64]⟩, ⟨false, [.int .i64]⟩], [], []⟩
def s (k : Nat) : FS := S.fs fun x => f k x.1.1 x.1.2.1.1
def E (k : Nat) : Ents := [(⟨144, []⟩, U70.s k)]
def L0 (l : T0) : LS R := ⟨[], [(1, ⟨false, [.int .i64]⟩), (6, ⟨false, [.int .i64]⟩), (22, ⟨false, [.lst tBlock]⟩), (23, ⟨false, [.int .i64]⟩), (24, ⟨false, [.int .i64]⟩)], [], fun x => l x.1.1.1 x.1.2.1.1 x.1.2.2.1.1 x.1.2.2.2.1.1 x.1.2.2.2.2.1.1⟩
def L (l0 : T0) : List (LS R) := [L0 l0]
def c : Code := Tryz.f115.body.getD .skip
theorem eq (k : Nat) (x) : (s k).pf x = execF tab (E k) Tryz.f115 c (s k) (L (l0 k)) x := by kernel_rfl
theorem r0 (l0 : T0) (k : Nat) (x) : (L0 (l0_ k l0)).l x = roundOf tab (E k) (L l0) c (fin tab Tryz.f115 (s k)) 0 (L0 l0) x := by kernel_rfl
theorem sound : ∀ k, Sound Tryz.prog 115 (s k) := snd S (fun k => (s k).pf) E (fun k => (EntsOK.cons (U70.sound k) EntsOK.nil)) (fun k => L (l0 k)) (fun k => ⟨⟨(L0 (l0 (k + 1))).l, rfl, fun x => r0 (l0 k) k x⟩, trivial⟩) eq
end U71
end
end Go.Proofs.YtebgkcjpocfmmaaGreatDoor.V
