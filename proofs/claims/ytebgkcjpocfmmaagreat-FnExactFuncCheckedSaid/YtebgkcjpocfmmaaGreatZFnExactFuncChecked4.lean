/- PROVED HERE: what the functions that the law FnExactFuncChecked reaches do in memory, each as a plain Lean function, and what these tell: part 5 of 6 of the proof of that law; no condition beyond those written out at each theorem. -/
import Derived.Test.YtebgkcjpocfmmaaGreatZFnExactFuncChecked1
import Derived.Test.YtebgkcjpocfmmaaGreatZFnExactFuncChecked2
import Derived.Test.YtebgkcjpocfmmaaGreatZFnExactFuncChecked3
namespace Go.Proofs.YtebgkcjpocfmmaaGreat.V
open Go
set_option linter.unusedVariables false
set_option linter.unusedSimpArgs false
abbrev IIR := (((Int × Unit) × (Int × Unit) × Unit) × Unit)
abbrev two (p : Int × Int) : IIR := (((p.1, ()), (p.2, ()), ()), ())
structure Fm (funcs : Int) (f : tFuncD) : Prop where
  p4 : f.1.length ≤ 4
  b1 : 1 ≤ f.2.2.1.length
  b10 : f.2.2.1.length ≤ 10
  cnt : cntB f ≤ 60
  pw : ∀ w ∈ f.1, wOk w = true
  ph : ∀ x ∈ f.2.2.1, ∀ p ∈ x.1, phiB (cntB f) p = true
  ins : ∀ x ∈ f.2.2.1, ∀ i ∈ x.2.1, instB (cntB f) funcs i = true
  tm : ∀ x ∈ f.2.2.1, termB (cntB f) (f.2.2.1.length : Int) x.2.2 = true
theorem inB_iff {lo hi x : Int} : inB lo hi x = true ↔ lo ≤ x ∧ x ≤ hi := by simp [inB]
theorem Fm.of {funcs : Int} {f : tFuncD} (h : funcB funcs f = true) : Fm funcs f := by
  simp only [funcB, Bool.and_eq_true, decide_eq_true_eq, List.all_eq_true, inB_iff, blockB] at h
  obtain ⟨⟨⟨⟨⟨h1, h2⟩, h3⟩, h4⟩, h5⟩, h6⟩ := h
  exact ⟨h1, by omega, by omega, h4, h5, fun x hx => (h6 x hx).1.1, fun x hx => (h6 x hx).1.2, fun x hx => (h6 x hx).2⟩
/-- How many ids a block gives. -/
def wB (x : tBlockD) : Int := ((x.1.length : Nat) : Int) + ((x.2.1.length : Nat) : Int)
theorem wB_nonneg (x : tBlockD) : 0 ≤ wB x := by unfold wB; omega
theorem cntB_eq (f : tFuncD) : cntB f = (f.1.length : Int) + sumB wB f.2.2.1 := rfl
theorem sumB_nonneg {α : Type} {w : α → Int} : ∀ {l : List α}, (∀ x ∈ l, 0 ≤ w x) → 0 ≤ sumB w l
  | [], _ => Int.le_refl _
  | x :: l, h => by
    have := h x (by simp)
    have := sumB_nonneg (l := l) fun y hy => h y (by simp [hy])
    simp only [sumB]; omega
theorem le_sumB {α : Type} {w : α → Int} {l : List α} (h : ∀ x ∈ l, 0 ≤ w x) {x : α} (hx : x ∈ l) : w x ≤ sumB w l := by
  induction l with
  | nil => cases hx
  | cons y l ih =>
    have hn := sumB_nonneg (l := l) fun z hz => h z (by simp [hz])
    simp only [sumB]
    rcases List.mem_cons.1 hx with rfl | hx
    · omega
    · have := ih (fun z hz => h z (by simp [hz])) hx
      have := h y (by simp)
      omega
theorem Fm.w60 {funcs : Int} {f : tFuncD} (h : Fm funcs f) {x : tBlockD} (hx : x ∈ f.2.2.1) : wB x ≤ 60 := by
  have := le_sumB (w := wB) (fun y _ => wB_nonneg y) hx
  have := h.cnt
  rw [cntB_eq] at this
  omega
theorem Fm.phis {funcs : Int} {f : tFuncD} (h : Fm funcs f) {x : tBlockD} (hx : x ∈ f.2.2.1) : x.1.length ≤ 60 ∧ x.2.1.length ≤ 60 := by
  have := h.w60 hx
  unfold wB at this
  omega
/-- The place of an id that is counted from block b on. -/
def placeL : List tBlockD → Nat → Int → Int × Int
  | [], _, _ => (-2, 0)
  | x :: l, b, id => if id < wB x then ((b : Int), id) else placeL l (b + 1) (id - wB x)
def placeOf (f : tFuncD) (id : Int) : Int × Int := if id < (f.1.length : Int) then (-1, id) else placeL f.2.2.1 0 (id - (f.1.length : Int))
theorem placeL_in : ∀ (l : List tBlockD) (b : Nat) (id : Int), 0 ≤ id → id < sumB wB l → ∃ j : Nat, ∃ h : j < l.length, placeL l b id = (((b + j : Nat) : Int), id - sumB wB (l.take j)) ∧ 0 ≤ id - sumB wB (l.take j) ∧ id - sumB wB (l.take j) < wB l[j]
  | [], _, id, h0, h => by simp [sumB] at h; omega
  | x :: l, b, id, h0, h => by
    simp only [sumB] at h
    unfold placeL
    by_cases c : id < wB x
    · exact ⟨0, by simp, by rw [if_pos c]; simp [sumB], by simpa [sumB] using h0, by simpa [sumB] using c⟩
    · obtain ⟨j, hj, e, a, b'⟩ := placeL_in l (b + 1) (id - wB x) (by omega) (by omega)
      refine ⟨j + 1, by simpa using hj, ?_, ?_, ?_⟩
      · rw [if_neg c, e]
        simp only [List.take_succ_cons, sumB]
        refine Prod.ext ?_ ?_
        · show ((b + 1 + j : Nat) : Int) = ((b + (j + 1) : Nat) : Int); omega
        · show _ = _; omega
      · simp only [List.take_succ_cons, sumB]; omega
      · simp only [List.take_succ_cons, sumB, List.getElem_cons_succ]; omega
section
variable {funcs : Int} {f : tFuncD}
/-- Where an id stands. -/
theorem place_cases (id : Int) (h0 : 0 ≤ id) (h1 : id < cntB f) : (id < (f.1.length : Int) ∧ placeOf f id = (-1, id)) ∨ ((f.1.length : Int) ≤ id ∧ ∃ j : Nat, ∃ hj : j < f.2.2.1.length, placeOf f id = ((j : Int), id - (f.1.length : Int) - sumB wB (f.2.2.1.take j)) ∧ 0 ≤ id - (f.1.length : Int) - sumB wB (f.2.2.1.take j) ∧ id - (f.1.length : Int) - sumB wB (f.2.2.1.take j) < wB f.2.2.1[j]) := by
  rw [cntB_eq] at h1
  unfold placeOf
  by_cases c : id < (f.1.length : Int)
  · exact .inl ⟨c, if_pos c⟩
  · obtain ⟨j, hj, e, a, b⟩ := placeL_in f.2.2.1 0 (id - (f.1.length : Int)) (by omega) (by omega)
    refine .inr ⟨by omega, j, hj, ?_, a, b⟩
    rw [if_neg c, e, Nat.zero_add]
theorem blk_wrap {x : tBlockD} (h : wB x ≤ 60) : IntKind.wrap .i64 (((List.length x.1 : Nat) : Int) + ((List.length x.2.1 : Nat) : Int)) = wB x := wrap_id (by omega) (by unfold wB at h; omega)
theorem specPlace_l (hf : Fm funcs f) : ∀ (d i : Nat) (id : Int), i + d = f.2.2.1.length → 0 ≤ id → id ≤ 100 → Ev (fun k => spec_l2Place.l0 k id i f) (two (placeL (f.2.2.1.drop i) i id)) := by
  intro d
  induction d with
  | zero =>
    intro i id hi h0 h1
    obtain rfl : i = f.2.2.1.length := by omega
    rw [List.drop_length]
    refine Ev.step (g' := fun _ => some (two (-2, 0))) (Ev.cst rfl) fun k => ?_
    show spec_l2Place.l0_ k (spec_l2Place.l0 k) id _ f = _
    unfold spec_l2Place.l0_
    simp only [head_end, cond_false]
  | succ d ih =>
    intro i id hi h0 h1
    have hlt : i < f.2.2.1.length := by omega
    have hb := hf.w60 (List.getElem_mem hlt)
    have hc := wB_nonneg f.2.2.1[i]
    have h10 := hf.b10
    rw [List.drop_eq_getElem_cons hlt]
    refine Ev.succ ?_
    show Ev (fun k => spec_l2Place.l0_ k (spec_l2Place.l0 k) id _ f) _
    unfold spec_l2Place.l0_ placeL
    simp only [head_in hlt, head_0, Bool.and_self, cond_true, get_in hlt, blk_wrap hb, wrap_nat (show i < 9223372036854775807 by omega)]
    by_cases c : id < wB f.2.2.1[i]
    · rw [if_pos c]
      exact Ev.dp c (Ev.cst rfl)
    · rw [if_neg c]
      refine Ev.dn c ?_
      rw [wrap_id (x := id - wB f.2.2.1[i]) (by omega) (by omega)]
      exact ih (i + 1) _ (by omega) (by omega) (by omega)
theorem specPlace (hf : Fm funcs f) {id : Int} (h0 : 0 ≤ id) (h1 : id < cntB f) : Ev (fun k => spec_l2Place.f k f id) (two (placeOf f id)) := by
  have h60 := hf.cnt
  have h4 := hf.p4
  unfold spec_l2Place.f placeOf
  refine Ev.dn (by omega) ?_
  by_cases c : id < (f.1.length : Int)
  · rw [if_pos c]; exact Ev.dp c (Ev.cst rfl)
  · rw [if_neg c]
    refine Ev.dn c ?_
    rw [wrap_id (by omega) (by omega)]
    exact specPlace_l hf f.2.2.1.length 0 _ (by omega) (by omega) (by omega)
theorem implPlace_l (hf : Fm funcs f) (id : Int) (h1 : id ≤ 100) : ∀ (d i : Nat) (n : Int), i + d = f.2.2.1.length → 0 ≤ n → n ≤ id → Ev (fun k => impl_PlaceOf.l0 k id n f.2.2.1 ((List.length f.2.2.1 : Nat) : Int) i) (two (placeL (f.2.2.1.drop i) i (id - n))) := by
  intro d
  induction d with
  | zero =>
    intro i n hi h0 hn
    obtain rfl : i = f.2.2.1.length := by omega
    rw [List.drop_length]
    refine Ev.step (g' := fun _ => some (two (-2, 0))) (Ev.cst rfl) fun k => ?_
    show impl_PlaceOf.l0_ k (impl_PlaceOf.l0 k) id n _ _ _ = _
    unfold impl_PlaceOf.l0_
    simp only [head_end, cond_false]
  | succ d ih =>
    intro i n hi h0 hn
    have hlt : i < f.2.2.1.length := by omega
    have hb := hf.w60 (List.getElem_mem hlt)
    have hc := wB_nonneg f.2.2.1[i]
    have h10 := hf.b10
    rw [List.drop_eq_getElem_cons hlt]
    refine Ev.succ ?_
    show Ev (fun k => impl_PlaceOf.l0_ k (impl_PlaceOf.l0 k) id n _ _ _) _
    unfold impl_PlaceOf.l0_ placeL
    simp only [head_in hlt, head_0, Bool.and_self, cond_true, get_in hlt, blk_wrap hb, wrap_nat (show i < 9223372036854775807 by omega), wrap_id (x := n + wB f.2.2.1[i]) (by omega) (by omega), wrap_id (x := id - n) (by omega) (by omega)]
    by_cases c : id < n + wB f.2.2.1[i]
    · rw [if_pos (show id - n < wB f.2.2.1[i] by omega)]
      exact Ev.dp c (Ev.cst rfl)
    · rw [if_neg (show ¬ id - n < wB f.2.2.1[i] by omega)]
      refine Ev.dn c ?_
      rw [show id - n - wB f.2.2.1[i] = id - (n + wB f.2.2.1[i]) by omega]
      exact ih (i + 1) _ (by omega) (by omega) (by omega)
theorem implIsId (hs : Small tFunc f) {id : Int} (h0 : 0 ≤ id) (h1 : id < cntB f) : Ev (fun k => impl_isId.f k f id) (one true) := by
  obtain ⟨c0, c1⟩ := cntB_le hs
  refine Ev.bind (implCount hs) (Ev.bind (Ev.all fun k => implIn k _ _ _) (Ev.cst ?_))
  rw [show IntKind.wrap .i64 ((one (cntB f)).1.1.1 - 1) = cntB f - 1 from wrap_id (by show -9223372036854775808 ≤ cntB f - 1; omega) (by show cntB f - 1 ≤ _; omega)]
  rw [show inB 0 (cntB f - 1) id = true from inB_iff.2 ⟨h0, by omega⟩]
theorem implPlace (hs : Small tFunc f) (hf : Fm funcs f) {id : Int} (h0 : 0 ≤ id) (h1 : id < cntB f) : Ev (fun k => impl_PlaceOf.f k f id) (two (placeOf f id)) := by
  have h60 := hf.cnt
  have h4 := hf.p4
  unfold impl_PlaceOf.f placeOf
  refine Ev.bind (implIsId hs h0 h1) (Ev.neg rfl ?_)
  by_cases c : id < (f.1.length : Int)
  · rw [if_pos c]; exact Ev.dp c (Ev.cst rfl)
  · rw [if_neg c]
    exact Ev.dn c (implPlace_l hf id (by omega) f.2.2.1.length 0 _ (by omega) (by omega) (by omega))
end
end Go.Proofs.YtebgkcjpocfmmaaGreat.V
namespace Go.Proofs.YtebgkcjpocfmmaaGreat.V
open Go
set_option linter.unusedVariables false
set_option linter.unusedSimpArgs false
def resW (op w : Int) : Int := bif !wOk w then 0 else bif decide (14 ≤ op) then 1 else w
def widthI (i : tInstD) : Int := bif inB 1 17 i.1 then resW i.1 i.2.1 else i.2.1
theorem specWidth (k : Nat) (i : tInstD) : spec_l2Width.f k i = some (one (widthI i)) := by
  unfold spec_l2Width.f widthI spec_ResultWidth.f resW
  simp only [specIn, specW, Option.bind_some]
  cases inB 1 17 i.1 <;> cases wOk i.2.1 <;> cases decide (14 ≤ i.1) <;> rfl
theorem implWidth (k : Nat) {i : tInstD} (h : i.1 = 24 ∨ i.1 = 25 → i.2.1 = 0) : impl_widthOf.f k i = some (one (widthI i)) := by
  unfold impl_widthOf.f widthI impl_ResultWidth.f resW
  simp only [implBin, implW, Option.bind_some]
  cases hb : inB 1 17 i.1
  · by_cases h4 : i.1 = 24
    · rw [dpos h4, h (.inl h4)]; rfl
    · by_cases h5 : i.1 = 25
      · rw [dneg h4, dpos h5, h (.inr h5)]; rfl
      · rw [dneg h4, dneg h5]; rfl
  · cases wOk i.2.1 <;> cases decide (14 ≤ i.1) <;> rfl
def typeOf (f : tFuncD) (id : Int) : Int :=
  if (placeOf f id).1 = -1 then f.1.getD (placeOf f id).2.toNat 0 else
    if (placeOf f id).2 < ((f.2.2.1.getD (placeOf f id).1.toNat tBlockZ).1.length : Int) then ((f.2.2.1.getD (placeOf f id).1.toNat tBlockZ).1.getD (placeOf f id).2.toNat tPhiZ).1
    else widthI ((f.2.2.1.getD (placeOf f id).1.toNat tBlockZ).2.1.getD ((placeOf f id).2 - ((f.2.2.1.getD (placeOf f id).1.toNat tBlockZ).1.length : Int)).toNat tInstZ)
section
variable {funcs : Int} {f : tFuncD}
theorem instB_void {count funcs : Int} {i : tInstD} (h : instB count funcs i = true) : (i.1 = 24 ∨ i.1 = 25 → i.2.1 = 0) := by
  intro ho
  simp only [instB, Bool.and_eq_true, widB] at h
  have h1 := h.1.2
  have : (decide (i.1 = 24) || decide (i.1 = 25)) = true := by simpa using ho
  rw [this] at h1
  simpa using h1
theorem specType (hf : Fm funcs f) {id : Int} (h0 : 0 ≤ id) (h1 : id < cntB f) : Ev (fun k => spec_TypeOf.f k f id) (one (typeOf f id)) := by
  have h10 := hf.b10
  unfold spec_TypeOf.f typeOf
  refine Ev.bind (specPlace hf h0 h1) ?_
  rcases place_cases id h0 h1 with ⟨hl, hp⟩ | ⟨hl, j, hj, hp, ha, hb⟩
  · rw [hp, if_pos rfl]
    exact Ev.dn (show ¬ ((-1 : Int) = -2) by decide) (Ev.dp rfl (Ev.dd h0 hl (Ev.cst rfl)))
  · rw [hp]
    generalize id - (f.1.length : Int) - sumB wB (f.2.2.1.take j) = at' at ha hb
    have hx := hf.w60 (List.getElem_mem hj)
    have hxl := hf.phis (List.getElem_mem hj)
    rw [if_neg (by show ¬ ((j : Int) = -1); omega)]
    show Ev (fun k => bif decide ((j : Int) = -2) then _ else _) _
    refine Ev.dn (by omega) (Ev.dn (by show ¬ ((j : Int) = -1); omega) (Ev.dd (show 0 ≤ (j : Int) by omega) (show (j : Int) < (f.2.2.1.length : Int) by omega) ?_))
    show Ev (fun k => bif decide (at' < ((List.length (f.2.2.1.getD (Int.toNat (j : Int)) tBlockZ).1 : Nat) : Int)) then _ else _) _
    rw [get_in hj]
    unfold wB at hb hx
    by_cases c : at' < ((List.length f.2.2.1[j].1 : Nat) : Int)
    · rw [if_pos c]
      exact Ev.dp c (Ev.dd ha c (Ev.cst rfl))
    · rw [if_neg c]
      refine Ev.dn c ?_
      have hw : IntKind.wrap .i64 (at' - ((List.length f.2.2.1[j].1 : Nat) : Int)) = at' - ((List.length f.2.2.1[j].1 : Nat) : Int) := wrap_id (by omega) (by omega)
      show Ev (fun k => bif decide (0 ≤ IntKind.wrap .i64 (at' - ((List.length f.2.2.1[j].1 : Nat) : Int))) && decide (IntKind.wrap .i64 (at' - ((List.length f.2.2.1[j].1 : Nat) : Int)) < ((List.length f.2.2.1[j].2.1 : Nat) : Int)) then Option.bind (spec_l2Width.f k (f.2.2.1[j].2.1.getD (Int.toNat (IntKind.wrap .i64 (at' - ((List.length f.2.2.1[j].1 : Nat) : Int)))) tInstZ)) _ else none) _
      rw [hw]
      exact Ev.dd (by omega) (by omega) (Ev.bind (Ev.all fun k => specWidth k _) (Ev.cst rfl))
theorem implType (hs : Small tFunc f) (hf : Fm funcs f) {id : Int} (h0 : 0 ≤ id) (h1 : id < cntB f) : Ev (fun k => impl_TypeOf.f k f id) (one (typeOf f id)) := by
  have h10 := hf.b10
  unfold impl_TypeOf.f typeOf
  refine Ev.bind (implPlace hs hf h0 h1) ?_
  have hpl := implPlace hs hf h0 h1
  rcases place_cases id h0 h1 with ⟨hl, hp⟩ | ⟨hl, j, hj, hp, ha, hb⟩
  · rw [hp, if_pos rfl]
    exact Ev.dn (show ¬ ((-1 : Int) = -2) by decide) (Ev.dp rfl (Ev.dd h0 hl (Ev.cst rfl)))
  · rw [hp] at hpl ⊢
    generalize id - (f.1.length : Int) - sumB wB (f.2.2.1.take j) = at' at ha hb hpl
    have hx := hf.w60 (List.getElem_mem hj)
    have hxl := hf.phis (List.getElem_mem hj)
    rw [if_neg (by show ¬ ((j : Int) = -1); omega)]
    show Ev (fun k => bif decide ((j : Int) = -2) then _ else _) _
    refine Ev.dn (by omega) (Ev.dn (by show ¬ ((j : Int) = -1); omega) (Ev.dd (show 0 ≤ (j : Int) by omega) (show (j : Int) < (f.2.2.1.length : Int) by omega) ?_))
    show Ev (fun k => bif decide (at' < ((List.length (f.2.2.1.getD (Int.toNat (j : Int)) tBlockZ).1 : Nat) : Int)) then _ else _) _
    rw [get_in hj]
    unfold wB at hb hx
    by_cases c : at' < ((List.length f.2.2.1[j].1 : Nat) : Int)
    · rw [if_pos c]
      exact Ev.dp c (Ev.dd (show 0 ≤ (j : Int) by omega) (show (j : Int) < (f.2.2.1.length : Int) by omega) (Ev.dd ha c (Ev.cst rfl)))
    · rw [if_neg c]
      refine Ev.dn c ?_
      have hw : IntKind.wrap .i64 (at' - ((List.length f.2.2.1[j].1 : Nat) : Int)) = at' - ((List.length f.2.2.1[j].1 : Nat) : Int) := wrap_id (by omega) (by omega)
      have hlt : (at' - ((List.length f.2.2.1[j].1 : Nat) : Int)).toNat < f.2.2.1[j].2.1.length := by omega
      have hi : Ev (fun k => impl_instOf.f k f id) (((f.2.2.1[j].2.1.getD (at' - ((List.length f.2.2.1[j].1 : Nat) : Int)).toNat tInstZ, (true, ()), ()), ())) := by
        unfold impl_instOf.f
        refine Ev.bind hpl (Ev.dn (show ¬ ((j : Int) < 0) by omega) (Ev.dd (show 0 ≤ (j : Int) by omega) (show (j : Int) < (f.2.2.1.length : Int) by omega) ?_))
        show Ev (fun k => bif decide (at' < ((List.length (f.2.2.1.getD (Int.toNat (j : Int)) tBlockZ).1 : Nat) : Int)) then _ else (bif decide (0 ≤ (j : Int)) && decide ((j : Int) < (f.2.2.1.length : Int)) then (bif decide (0 ≤ (j : Int)) && decide ((j : Int) < (f.2.2.1.length : Int)) then (bif decide (0 ≤ IntKind.wrap .i64 (at' - ((List.length (f.2.2.1.getD (Int.toNat (j : Int)) tBlockZ).1 : Nat) : Int))) && decide (IntKind.wrap .i64 (at' - ((List.length (f.2.2.1.getD (Int.toNat (j : Int)) tBlockZ).1 : Nat) : Int)) < ((List.length (f.2.2.1.getD (Int.toNat (j : Int)) tBlockZ).2.1 : Nat) : Int)) then some ((((f.2.2.1.getD (Int.toNat (j : Int)) tBlockZ).2.1.getD (Int.toNat (IntKind.wrap .i64 (at' - ((List.length (f.2.2.1.getD (Int.toNat (j : Int)) tBlockZ).1 : Nat) : Int)))) tInstZ, (true, ()), ()), ())) else none) else none) else none)) _
        rw [get_in hj, hw]
        exact Ev.dn c (Ev.dd (by omega) (by omega) (Ev.dd (by omega) (by omega) (Ev.dd (by omega) (by omega) (Ev.cst rfl))))
      refine Ev.bind hi (Ev.bind (Ev.all fun k => implWidth k (i := f.2.2.1[j].2.1.getD (at' - ((List.length f.2.2.1[j].1 : Nat) : Int)).toNat tInstZ) ?_) (Ev.cst rfl))
      rw [getD_at _ _ _ hlt]
      exact instB_void (hf.ins _ (List.getElem_mem hj) _ (List.getElem_mem hlt))
theorem wOk_pos {w : Int} (h : wOk w = true) : 0 < w := by rcases wOk_cases h with rfl | rfl | rfl | rfl <;> decide
theorem typeOf_nonneg (hf : Fm funcs f) {id : Int} (h0 : 0 ≤ id) (h1 : id < cntB f) : 0 ≤ typeOf f id := by
  unfold typeOf
  rcases place_cases id h0 h1 with ⟨hl, hp⟩ | ⟨hl, j, hj, hp, ha, hb⟩
  · rw [hp, if_pos rfl]
    show 0 ≤ f.1.getD id.toNat 0
    rw [getD_at _ _ _ (by omega)]
    exact Int.le_of_lt (wOk_pos (hf.pw _ (List.getElem_mem _)))
  · rw [hp]
    generalize id - (f.1.length : Int) - sumB wB (f.2.2.1.take j) = at' at ha hb
    rw [if_neg (by show ¬ ((j : Int) = -1); omega)]
    show 0 ≤ if at' < ((List.length (f.2.2.1.getD (Int.toNat (j : Int)) tBlockZ).1 : Nat) : Int) then ((f.2.2.1.getD (Int.toNat (j : Int)) tBlockZ).1.getD at'.toNat tPhiZ).1 else widthI ((f.2.2.1.getD (Int.toNat (j : Int)) tBlockZ).2.1.getD (at' - ((List.length (f.2.2.1.getD (Int.toNat (j : Int)) tBlockZ).1 : Nat) : Int)).toNat tInstZ)
    rw [get_in hj]
    unfold wB at hb
    split
    · rename_i c
      rw [getD_at _ _ _ (by omega)]
      have := hf.ph _ (List.getElem_mem hj) _ (List.getElem_mem (show at'.toNat < f.2.2.1[j].1.length by omega))
      simp only [phiB, Bool.and_eq_true] at this
      exact Int.le_of_lt (wOk_pos this.1.1)
    · rename_i c
      rw [getD_at _ _ _ (by omega)]
      have := hf.ins _ (List.getElem_mem hj) _ (List.getElem_mem (show (at' - ((List.length f.2.2.1[j].1 : Nat) : Int)).toNat < f.2.2.1[j].2.1.length by omega))
      simp only [instB, Bool.and_eq_true, widB] at this
      have hw := this.1.2
      generalize f.2.2.1[j].2.1[(at' - ((List.length f.2.2.1[j].1 : Nat) : Int)).toNat] = i at hw
      have h0 : 0 ≤ i.2.1 := by
        cases h1 : (decide (i.1 = 24) || decide (i.1 = 25)) <;> cases h2 : decide (i.1 = 23) <;> simp only [h1, h2, cond_true, cond_false, decide_eq_true_eq] at hw
        · exact Int.le_of_lt (wOk_pos hw)
        · omega
        · omega
        · omega
      unfold widthI resW
      cases inB 1 17 i.1 <;> cases wOk i.2.1 <;> cases decide (14 ≤ i.1) <;> simp [h0]
end
end Go.Proofs.YtebgkcjpocfmmaaGreat.V
namespace Go.Proofs.YtebgkcjpocfmmaaGreat.V
open Go
set_option linter.unusedVariables false
set_option linter.unusedSimpArgs false
theorem ev_if {g : Nat → Option BR} {b c : Bool} (h : b = true → Ev g (one c)) : Ev (fun k => bif b then g k else some (one false)) (one (b && c)) := by
  cases b with
  | true => exact Ev.pos rfl (h rfl)
  | false => exact Ev.neg rfl (Ev.cst rfl)
/-! ### who leads to a block -/
def predsL (b : Int) : List tBlockD → Nat → List Int
  | [], _ => []
  | x :: l, i => bif decide (b ∈ succsOf x) then (i : Int) :: predsL b l (i + 1) else predsL b l (i + 1)
theorem predsL_len (b : Int) : ∀ (l : List tBlockD) (i : Nat), (predsL b l i).length ≤ l.length
  | [], i => by simp [predsL]
  | x :: l, i => by
    have := predsL_len b l (i + 1)
    simp only [predsL]
    cases decide (b ∈ succsOf x) <;> simp <;> omega
theorem predsL_in (b : Int) : ∀ (l : List tBlockD) (i : Nat) (p : Int), p ∈ predsL b l i → (i : Int) ≤ p ∧ p < ((i + l.length : Nat) : Int)
  | [], i, p, h => by simp [predsL] at h
  | x :: l, i, p, h => by
    have ih := predsL_in b l (i + 1) p
    simp only [predsL] at h
    simp only [List.length_cons]
    cases hb : decide (b ∈ succsOf x) <;> simp only [hb, cond_true, cond_false] at h
    · have := ih h; omega
    · rcases List.mem_cons.1 h with rfl | h
      · omega
      · have := ih h; omega
theorem implHas (l : List Int) (n : Int) (h : l.length ≤ 1048576) : Ev (fun k => slices_Contains_int64_int64.f k l n) (one (decide (n ∈ l))) := by
  have := index_ev (z := 0) (l := l) (p := fun x => decide (n = x)) (L := fun k b a => slices_Index_int64_int64.l0 k l n b a) (q := fun k x => some (one (decide (n = x)))) (by omega) (fun k b a => rfl) (fun x _ => Ev.cst rfl)
  refine this.rw ?_
  congr 1
  rw [Bool.eq_iff_iff, List.any_eq_true, decide_eq_true_eq]
  constructor
  · rintro ⟨x, hx, e⟩
    simp only [decide_eq_true_eq] at e
    rw [e]; exact hx
  · intro hm
    exact ⟨n, hm, by simp⟩
section
variable {funcs : Int} {f : tFuncD}
theorem specPreds_l (h10 : f.2.2.1.length ≤ 10) (b : Int) : ∀ (d i : Nat) (acc : List Int), i + d = f.2.2.1.length → acc.length ≤ i → Ev (fun k => spec_l3Preds.l0 k b i f acc) (rowR (acc ++ predsL b (f.2.2.1.drop i) i)) := by
  intro d
  induction d with
  | zero =>
    intro i acc hi ha
    obtain rfl : i = f.2.2.1.length := by omega
    rw [List.drop_length]
    refine Ev.step (g' := fun _ => some (rowR acc)) (Ev.cst (by simp [predsL])) fun k => ?_
    show spec_l3Preds.l0_ k (spec_l3Preds.l0 k) b _ f acc = _
    unfold spec_l3Preds.l0_
    simp only [head_end, cond_false]
  | succ d ih =>
    intro i acc hi ha
    have hlt : i < f.2.2.1.length := by omega
    rw [List.drop_eq_getElem_cons hlt]
    refine Ev.succ ?_
    show Ev (fun k => spec_l3Preds.l0_ k (spec_l3Preds.l0 k) b _ f acc) _
    unfold spec_l3Preds.l0_ predsL
    simp only [head_in hlt, cond_true, wrap_nat (show i < 9223372036854775807 by omega)]
    refine Ev.bind (Ev.all fun k => specSuccs k f i (by omega) (by omega)) ?_
    rw [get_in hlt]
    refine Ev.bind (has_ev (succsOf f.2.2.1[i]) b (smI_small (by have := succsOf_len f.2.2.1[i]; omega))) ?_
    cases hb : decide (b ∈ succsOf f.2.2.1[i]) with
    | true =>
      refine Ev.pos rfl (Ev.dp (by simp only [List.length_cons, List.length_nil]; omega) ((ih (i + 1) (acc ++ [(i : Int)]) (by omega) (by simp; omega)).rw ?_))
      simp
    | false => exact Ev.neg rfl (ih (i + 1) acc (by omega) (by omega))
theorem specPreds (h10 : f.2.2.1.length ≤ 10) (b : Int) : Ev (fun k => spec_l3Preds.f k f b) (rowR (predsL b f.2.2.1 0)) := by
  have := specPreds_l h10 b f.2.2.1.length 0 [] (by omega) (by simp)
  exact this
theorem implPreds_l (h10 : f.2.2.1.length ≤ 10) (b : Int) : ∀ (d i : Nat) (acc : List Int), i + d = f.2.2.1.length → acc.length ≤ i → Ev (fun k => impl_predsOf.l0 k b f.2.2.1 ((List.length f.2.2.1 : Nat) : Int) i acc) (rowR (acc ++ predsL b (f.2.2.1.drop i) i)) := by
  intro d
  induction d with
  | zero =>
    intro i acc hi ha
    obtain rfl : i = f.2.2.1.length := by omega
    rw [List.drop_length]
    refine Ev.step (g' := fun _ => some (rowR acc)) (Ev.cst (by simp [predsL])) fun k => ?_
    show impl_predsOf.l0_ k (impl_predsOf.l0 k) b _ _ _ acc = _
    unfold impl_predsOf.l0_
    simp only [head_end, cond_false]
  | succ d ih =>
    intro i acc hi ha
    have hlt : i < f.2.2.1.length := by omega
    rw [List.drop_eq_getElem_cons hlt]
    refine Ev.succ ?_
    show Ev (fun k => impl_predsOf.l0_ k (impl_predsOf.l0 k) b _ _ _ acc) _
    unfold impl_predsOf.l0_ predsL
    simp only [head_in hlt, head_0, Bool.and_self, cond_true, get_in hlt, wrap_nat (show i < 9223372036854775807 by omega)]
    refine Ev.bind (Ev.all fun k => implLeads k _) ?_
    refine Ev.bind (implHas (succsOf f.2.2.1[i]) b (by have := succsOf_len f.2.2.1[i]; omega)) ?_
    cases hb : decide (b ∈ succsOf f.2.2.1[i]) with
    | true =>
      refine Ev.pos rfl (Ev.dp (by simp only [List.length_cons, List.length_nil]; omega) ((ih (i + 1) (acc ++ [(i : Int)]) (by omega) (by simp; omega)).rw ?_))
      simp
    | false => exact Ev.neg rfl (ih (i + 1) acc (by omega) (by omega))
theorem implPreds (h10 : f.2.2.1.length ≤ 10) (b : Int) : Ev (fun k => impl_predsOf.f k f b) (rowR (predsL b f.2.2.1 0)) := by
  have := implPreds_l h10 b f.2.2.1.length 0 [] (by omega) (by simp)
  exact this
def preds (f : tFuncD) (b : Int) : List Int := predsL b f.2.2.1 0
theorem preds_len (f : tFuncD) (b : Int) : (preds f b).length ≤ f.2.2.1.length := predsL_len b _ 0
/-! ### the entry, the phis -/
def entryB (f : tFuncD) : Bool := decide ((f.2.2.1.getD 0 tBlockZ).1.length = 0) && decide ((preds f 0).length = 0)
def allI {α : Type} (p : Nat → α → Bool) : List α → Nat → Bool
  | [], _ => true
  | x :: l, i => p i x && allI p l (i + 1)
def phiN (f : tFuncD) (i : Nat) (x : tBlockD) : Bool := x.1.all fun p => decide (p.2.1.length = (preds f i).length)
theorem implEntry (h1 : 1 ≤ f.2.2.1.length) (h10 : f.2.2.1.length ≤ 10) : Ev (fun k => impl_isEntry.f k f) (one (entryB f)) := by
  unfold impl_isEntry.f entryB
  refine Ev.dd (by omega) (by omega) ?_
  have e : ∀ {α : Type} (l : List α), decide (((List.length l : Nat) : Int) = 0) = decide (l.length = 0) := fun l => by
    by_cases h : l.length = 0
    · rw [dpos h, dpos (by omega)]
    · rw [dneg h, dneg (by omega)]
  rw [e]
  exact ev_if fun _ => Ev.bind (implPreds h10 0) (Ev.cst (by rw [e]; rfl))
theorem len_eq {α β : Type} (l : List α) (m : List β) : decide (((List.length l : Nat) : Int) = ((List.length m : Nat) : Int)) = decide (l.length = m.length) := by
  by_cases h : l.length = m.length
  · rw [dpos h, dpos (by omega)]
  · rw [dneg h, dneg (by omega)]
theorem implPhiN {l : List tPhiD} (h : l.length ≤ 1048576) (n : List Int) : Ev (fun k => slices_ContainsFunc_impl_Phi_impl_Phi_2.f k l ((List.length n : Nat) : Int)) (one (!l.all fun p => decide (p.2.1.length = n.length))) := by
  rw [← any_not]
  exact index_ev (z := tPhiZ) (L := fun k b a => slices_IndexFunc_impl_Phi_impl_Phi_2.l0 k l b a ((List.length n : Nat) : Int)) (q := fun k x => impl_arePhis_1.f k x ((List.length n : Nat) : Int)) (by omega) (fun k b a => rfl) fun x _ => Ev.all fun k => by
    unfold impl_arePhis_1.f
    rw [len_eq]
theorem implArePhis (hs : Small tFunc f) (h10 : f.2.2.1.length ≤ 10) : Ev (fun k => impl_arePhis.f k f) (one (allI (phiN f) f.2.2.1 0)) := by
  have key := Ev.down (G := fun i k => impl_arePhis.l0 k f.2.2.1 ((List.length f.2.2.1 : Nat) : Int) (i : Int) f) (V := fun i => one (allI (phiN f) (f.2.2.1.drop i) i)) f.2.2.1.length ?_ ?_ 0 (Nat.zero_le _)
  · exact key
  · rw [List.drop_length]
    refine Ev.step (g' := fun _ => some (one true)) (Ev.cst rfl) fun k => ?_
    show impl_arePhis.l0_ k (impl_arePhis.l0 k) _ _ _ f = _
    unfold impl_arePhis.l0_
    simp only [head_end, cond_false]
  · intro i hi ih
    rw [List.drop_eq_getElem_cons hi]
    refine Ev.succ ?_
    show Ev (fun k => impl_arePhis.l0_ k (impl_arePhis.l0 k) _ _ _ f) _
    unfold impl_arePhis.l0_
    simp only [head_in hi, head_0, Bool.and_self, cond_true, get_in hi, wrap_nat (show i < 9223372036854775807 by omega)]
    refine Ev.bind (implPreds h10 i) (Ev.bind (implPhiN (n := preds f i) (blk_small hs _ (List.getElem_mem hi)).1) ?_)
    have e : allI (phiN f) (f.2.2.1[i] :: f.2.2.1.drop (i + 1)) i = (!(!phiN f i f.2.2.1[i]) && allI (phiN f) (f.2.2.1.drop (i + 1)) (i + 1)) := by rw [Bool.not_not]; rfl
    rw [e]
    exact ev_and' ih
theorem specArePhis (hf : Fm funcs f) : Ev (fun k => spec_l4Phis.f k f) (one (allI (phiN f) f.2.2.1 0)) := by
  have h10 := hf.b10
  have key := Ev.down (G := fun i k => spec_l4Phis.l0 k (i : Int) f) (V := fun i => one (allI (phiN f) (f.2.2.1.drop i) i)) f.2.2.1.length ?_ ?_ 0 (Nat.zero_le _)
  · exact key
  · rw [List.drop_length]
    refine Ev.step (g' := fun _ => some (one true)) (Ev.cst rfl) fun k => ?_
    show spec_l4Phis.l0_ k (spec_l4Phis.l0 k) (spec_l4Phis.l1 k) _ f = _
    unfold spec_l4Phis.l0_
    simp only [head_end, cond_false]
  · intro i hi ih
    have hp := (hf.phis (List.getElem_mem hi)).1
    have inner := Ev.down (G := fun j k => spec_l4Phis.l1 k (i : Int) ((List.length (preds f i) : Nat) : Int) (j : Int) f) (V := fun j => one ((f.2.2.1[i].1.drop j).all (fun p => decide (p.2.1.length = (preds f i).length)) && allI (phiN f) (f.2.2.1.drop (i + 1)) (i + 1))) f.2.2.1[i].1.length ?_ ?_ 0 (Nat.zero_le _)
    · rw [List.drop_eq_getElem_cons hi]
      refine Ev.succ ?_
      show Ev (fun k => spec_l4Phis.l0_ k (spec_l4Phis.l0 k) (spec_l4Phis.l1 k) _ f) _
      unfold spec_l4Phis.l0_
      simp only [head_in hi, cond_true]
      exact Ev.bind (specPreds h10 i) inner
    · rw [List.drop_length]
      refine Ev.step ih fun k => ?_
      show spec_l4Phis.l1_ k (spec_l4Phis.l0 k) (spec_l4Phis.l1 k) _ _ _ f = _
      unfold spec_l4Phis.l1_
      simp only [head_in hi, head_0, Bool.and_self, cond_true, get_in hi, head_end, cond_false, wrap_nat (show i < 9223372036854775807 by omega)]
    · intro j hj ihj
      rw [List.drop_eq_getElem_cons hj, List.all_cons, Bool.and_assoc]
      refine Ev.succ ?_
      show Ev (fun k => spec_l4Phis.l1_ k (spec_l4Phis.l0 k) (spec_l4Phis.l1 k) _ _ _ f) _
      unfold spec_l4Phis.l1_
      simp only [head_in hi, head_0, Bool.and_self, cond_true, get_in hi, head_in hj, get_in hj, wrap_nat (show j < 9223372036854775807 by omega), len_eq]
      exact ev_and ihj
/-! ### operands -/
def argsB (f : tFuncD) (i : tInstD) : Bool :=
  bif inB 1 17 i.1 then decide (typeOf f i.2.2.1 = i.2.1) && decide (typeOf f i.2.2.2.1 = i.2.1) else
  bif decide (i.1 = 27) then decide (typeOf f i.2.2.1 = i.2.1) else
  bif decide (i.1 = 18) then decide (0 < typeOf f i.2.2.1) && decide (typeOf f i.2.2.1 < i.2.1) else
  bif decide (i.1 = 19) then decide (0 < typeOf f i.2.2.1) && decide (typeOf f i.2.2.1 < i.2.1) else
  bif decide (i.1 = 20) then decide (i.2.1 < typeOf f i.2.2.1) else
  bif decide (i.1 = 22) then decide (typeOf f i.2.2.1 = 1) && (decide (typeOf f i.2.2.2.1 = i.2.1) && decide (typeOf f i.2.2.2.2.1 = i.2.1)) else
  bif decide (i.1 = 23) then decide (typeOf f i.2.2.1 = 32) else
  bif decide (i.1 = 24) then decide (typeOf f i.2.2.1 = 32) && decide (typeOf f i.2.2.2.1 = 8) else
  bif decide (i.1 = 25) then decide (0 < typeOf f i.2.2.1) else true
def vid (f : tFuncD) (id : Int) : Prop := 0 ≤ id ∧ id < cntB f
structure Vi (f : tFuncD) (i : tInstD) : Prop where
  a : vid f i.2.2.1
  b : inB 1 17 i.1 = true ∨ i.1 = 24 ∨ i.1 = 22 → vid f i.2.2.2.1
  c : i.1 = 22 → vid f i.2.2.2.2.1
theorem vid_of {id : Int} (h : inB 0 (cntB f - 1) id = true) : vid f id := by
  have := inB_iff.1 h
  exact ⟨this.1, by omega⟩
theorem Fm.vi (hf : Fm funcs f) {x : tBlockD} (hx : x ∈ f.2.2.1) {i : tInstD} (hi : i ∈ x.2.1) : Vi f i := by
  have hin := hf.ins x hx i hi
  have hc : 0 < cntB f := by
    have h1 := le_sumB (w := wB) (fun y _ => wB_nonneg y) hx
    have h2 : 0 < x.2.1.length := List.length_pos_of_mem hi
    rw [cntB_eq]
    have h3 : 0 < wB x := by unfold wB; omega
    omega
  simp only [instB, Bool.and_eq_true] at hin
  obtain ⟨⟨⟨⟨⟨⟨g1, g2⟩, g3⟩, g4⟩, g5⟩, g6⟩, g7⟩ := hin
  rw [inB_iff] at g1
  unfold opsB at g4
  by_cases h1 : 1 ≤ i.1 ∧ i.1 ≤ 17
  · rw [inB_iff.2 h1, cond_true] at g4
    simp only [List.all_cons, List.all_nil, Bool.and_true, Bool.and_eq_true] at g4
    exact ⟨vid_of g4.1, fun _ => vid_of g4.2, fun h => by omega⟩
  · have n1 : inB 1 17 i.1 = false := by rw [← Bool.not_eq_true]; exact fun h => h1 (inB_iff.1 h)
    rw [n1, cond_false] at g4
    by_cases h24 : i.1 = 24
    · rw [dpos h24, cond_true] at g4
      simp only [List.all_cons, List.all_nil, Bool.and_true, Bool.and_eq_true] at g4
      exact ⟨vid_of g4.1, fun _ => vid_of g4.2, fun h => by omega⟩
    · rw [dneg h24, cond_false] at g4
      by_cases h22 : i.1 = 22
      · rw [dpos h22, dneg (show ¬ i.1 = 23 by omega), dneg (show ¬ i.1 = 25 by omega), dneg (show ¬ i.1 = 27 by omega), show inB 18 20 i.1 = false from by rw [← Bool.not_eq_true, inB_iff]; omega] at g4
        simp only [cond_true, cond_false, List.all_cons, List.all_nil, Bool.and_true, Bool.and_eq_true] at g4
        exact ⟨vid_of g4.1, fun _ => vid_of g4.2.1, fun _ => vid_of g4.2.2⟩
      · refine ⟨?_, fun h => ?_, fun h => (h22 h).elim⟩
        · by_cases h0 : i.1 = 26 ∨ i.1 = 21
          · have hz : i.2.2.1 = 0 := by
              have hn : named i = 0 := by
                unfold named opsB
                rcases h0 with h0 | h0
                · rw [dpos h0]; rfl
                · rw [n1, h0]; rfl
              unfold zerosB at g5
              rw [hn] at g5
              simp only [List.drop_zero, List.all_cons, Bool.and_eq_true, decide_eq_true_eq] at g5
              exact g5.1
            rw [hz]
            exact ⟨Int.le_refl _, hc⟩
          · rw [dneg h22] at g4
            by_cases h18 : 18 ≤ i.1 ∧ i.1 ≤ 20
            · rw [inB_iff.2 h18, cond_true] at g4
              simp only [List.all_cons, List.all_nil, Bool.and_true] at g4
              exact vid_of g4
            · rw [show inB 18 20 i.1 = false from by rw [← Bool.not_eq_true, inB_iff]; exact h18, cond_false] at g4
              have h3 : i.1 = 23 ∨ i.1 = 25 ∨ i.1 = 27 := by omega
              rcases h3 with h3 | h3 | h3 <;> rw [h3] at g4 <;> simpa [vid_of] using vid_of (f := f) (by simpa using g4)
        · rcases h with h | h | h
          · rw [n1] at h; cases h
          · exact (h24 h).elim
          · exact (h22 h).elim
end
end Go.Proofs.YtebgkcjpocfmmaaGreat.V
namespace Go.Proofs.YtebgkcjpocfmmaaGreat.V
open Go
set_option linter.unusedVariables false
set_option linter.unusedSimpArgs false
section
variable {funcs : Int} {f : tFuncD}
theorem specTy (hf : Fm funcs f) {id : Int} (h : vid f id) : Ev (fun k => spec_TypeOf.f k f id) (one (typeOf f id)) := specType hf h.1 h.2
theorem implTy (hs : Small tFunc f) (hf : Fm funcs f) {id : Int} (h : vid f id) : Ev (fun k => impl_TypeOf.f k f id) (one (typeOf f id)) := implType hs hf h.1 h.2
theorem op_cases (i : tInstD) : inB 1 17 i.1 = true ∨ i.1 = 18 ∨ i.1 = 19 ∨ i.1 = 20 ∨ i.1 = 22 ∨ i.1 = 23 ∨ i.1 = 24 ∨ i.1 = 25 ∨ i.1 = 27 ∨ (inB 1 17 i.1 = false ∧ i.1 ≠ 18 ∧ i.1 ≠ 19 ∧ i.1 ≠ 20 ∧ i.1 ≠ 22 ∧ i.1 ≠ 23 ∧ i.1 ≠ 24 ∧ i.1 ≠ 25 ∧ i.1 ≠ 27) := by
  cases inB 1 17 i.1 with
  | true => exact .inl rfl
  | false => right; simp only [ne_eq, true_and]; omega
theorem specArgs (hf : Fm funcs f) {i : tInstD} (v : Vi f i) : Ev (fun k => spec_l4Args.f k f i) (one (argsB f i)) := by
  unfold spec_l4Args.f
  refine Ev.bind (specTy hf v.a) (Ev.bind (Ev.all fun k => specIn k _ _ _) ?_)
  rcases op_cases i with h | h | h | h | h | h | h | h | h | h
  · unfold argsB
    rw [h, cond_true]
    exact Ev.pos rfl (ev_if fun _ => Ev.bind (specTy hf (v.b (.inl h))) (Ev.cst rfl))
  · have e : argsB f i = (decide (0 < typeOf f i.2.2.1) && decide (typeOf f i.2.2.1 < i.2.1)) := by unfold argsB; rw [h]; rfl
    rw [e, h]
    exact Ev.neg rfl (Ev.dp rfl (ev_if fun _ => Ev.cst rfl))
  · have e : argsB f i = (decide (0 < typeOf f i.2.2.1) && decide (typeOf f i.2.2.1 < i.2.1)) := by unfold argsB; rw [h]; rfl
    rw [e, h]
    exact Ev.neg rfl (Ev.dn (by decide) (Ev.dp rfl (ev_if fun _ => Ev.cst rfl)))
  · have e : argsB f i = decide (i.2.1 < typeOf f i.2.2.1) := by unfold argsB; rw [h]; rfl
    rw [e, h]
    exact Ev.neg rfl (Ev.dn (by decide) (Ev.dn (by decide) (Ev.dp rfl (Ev.cst rfl))))
  · have e : argsB f i = (decide (typeOf f i.2.2.1 = 1) && (decide (typeOf f i.2.2.2.1 = i.2.1) && decide (typeOf f i.2.2.2.2.1 = i.2.1))) := by unfold argsB; rw [h]; rfl
    have vb := v.b (.inr (.inr h))
    have vc := v.c h
    rw [e, h]
    exact Ev.neg rfl (Ev.dn (by decide) (Ev.dn (by decide) (Ev.dn (by decide) (Ev.dp rfl (ev_if fun _ => Ev.bind (specTy hf vb) (ev_if fun _ => Ev.bind (specTy hf vc) (Ev.cst rfl)))))))
  · have e : argsB f i = decide (typeOf f i.2.2.1 = 32) := by unfold argsB; rw [h]; rfl
    rw [e, h]
    exact Ev.neg rfl (Ev.dn (by decide) (Ev.dn (by decide) (Ev.dn (by decide) (Ev.dn (by decide) (Ev.dp rfl (Ev.cst rfl))))))
  · have e : argsB f i = (decide (typeOf f i.2.2.1 = 32) && decide (typeOf f i.2.2.2.1 = 8)) := by unfold argsB; rw [h]; rfl
    have vb := v.b (.inr (.inl h))
    rw [e, h]
    exact Ev.neg rfl (Ev.dn (by decide) (Ev.dn (by decide) (Ev.dn (by decide) (Ev.dn (by decide) (Ev.dn (by decide) (Ev.dp rfl (ev_if fun _ => Ev.bind (specTy hf vb) (Ev.cst rfl))))))))
  · have e : argsB f i = decide (0 < typeOf f i.2.2.1) := by unfold argsB; rw [h]; rfl
    rw [e, h]
    exact Ev.neg rfl (Ev.dn (by decide) (Ev.dn (by decide) (Ev.dn (by decide) (Ev.dn (by decide) (Ev.dn (by decide) (Ev.dn (by decide) (Ev.dp rfl (Ev.cst rfl))))))))
  · have e : argsB f i = decide (typeOf f i.2.2.1 = i.2.1) := by unfold argsB; rw [h]; rfl
    rw [e, h]
    exact Ev.neg rfl (Ev.dn (by decide) (Ev.dn (by decide) (Ev.dn (by decide) (Ev.dn (by decide) (Ev.dn (by decide) (Ev.dn (by decide) (Ev.dn (by decide) (Ev.dp rfl (Ev.cst rfl)))))))))
  · obtain ⟨h0, h1, h2, h3, h4, h5, h6, h7, h8⟩ := h
    have e : argsB f i = true := by
      unfold argsB
      rw [h0, dneg h1, dneg h2, dneg h3, dneg h4, dneg h5, dneg h6, dneg h7, dneg h8]; rfl
    rw [e, h0]
    exact Ev.neg rfl (Ev.dn h1 (Ev.dn h2 (Ev.dn h3 (Ev.dn h4 (Ev.dn h5 (Ev.dn h6 (Ev.dn h7 (Ev.dn h8 (Ev.cst rfl)))))))))
theorem implTy1 (hs : Small tFunc f) (hf : Fm funcs f) {id w : Int} (h : vid f id) : Ev (fun k => impl_areTyped_1.f k id w f) (one (decide (typeOf f id = w))) := Ev.bind (implTy hs hf h) (Ev.cst rfl)
theorem ne_pos (hf : Fm funcs f) {id : Int} (h : vid f id) : decide (0 < typeOf f id) = !decide (typeOf f id = 0) := by
  have := typeOf_nonneg hf h.1 h.2
  by_cases c : typeOf f id = 0
  · rw [dpos c, dneg (by omega)]; rfl
  · rw [dneg c, dpos (by omega)]; rfl
theorem implArgs (hs : Small tFunc f) (hf : Fm funcs f) {i : tInstD} (v : Vi f i) : Ev (fun k => impl_areTyped.f k f i) (one (argsB f i)) := by
  unfold impl_areTyped.f
  refine Ev.bind (implTy hs hf v.a) (Ev.bind (Ev.all fun k => implBin k _) ?_)
  rcases op_cases i with h | h | h | h | h | h | h | h | h | h
  · unfold argsB
    rw [h, cond_true]
    exact Ev.pos rfl (Ev.bind (implTy1 hs hf v.a) (ev_if fun _ => Ev.bind (implTy1 hs hf (v.b (.inl h))) (Ev.cst rfl)))
  · have e : argsB f i = (decide (0 < typeOf f i.2.2.1) && decide (typeOf f i.2.2.1 < i.2.1)) := by unfold argsB; rw [h]; rfl
    rw [e, h, ne_pos hf v.a]
    exact Ev.neg rfl (Ev.dn (by decide) (Ev.dp rfl (ev_if fun _ => Ev.cst rfl)))
  · have e : argsB f i = (decide (0 < typeOf f i.2.2.1) && decide (typeOf f i.2.2.1 < i.2.1)) := by unfold argsB; rw [h]; rfl
    rw [e, h, ne_pos hf v.a]
    exact Ev.neg rfl (Ev.dn (by decide) (Ev.dn (by decide) (Ev.dp rfl (ev_if fun _ => Ev.cst rfl))))
  · have e : argsB f i = decide (i.2.1 < typeOf f i.2.2.1) := by unfold argsB; rw [h]; rfl
    rw [e, h]
    exact Ev.neg rfl (Ev.dn (by decide) (Ev.dn (by decide) (Ev.dn (by decide) (Ev.dp rfl (Ev.cst rfl)))))
  · have e : argsB f i = (decide (typeOf f i.2.2.1 = 1) && (decide (typeOf f i.2.2.2.1 = i.2.1) && decide (typeOf f i.2.2.2.2.1 = i.2.1))) := by unfold argsB; rw [h]; rfl
    have vb := v.b (.inr (.inr h))
    have vc := v.c h
    rw [e, h]
    exact Ev.neg rfl (Ev.dn (by decide) (Ev.dn (by decide) (Ev.dn (by decide) (Ev.dn (by decide) (Ev.dp rfl (Ev.bind (implTy1 hs hf v.a) (ev_if fun _ => Ev.bind (implTy1 hs hf vb) (ev_if fun _ => Ev.bind (implTy1 hs hf vc) (Ev.cst rfl)))))))))
  · have e : argsB f i = decide (typeOf f i.2.2.1 = 32) := by unfold argsB; rw [h]; rfl
    rw [e, h]
    exact Ev.neg rfl (Ev.dn (by decide) (Ev.dn (by decide) (Ev.dn (by decide) (Ev.dn (by decide) (Ev.dn (by decide) (Ev.dp rfl (Ev.bind (implTy1 hs hf v.a) (Ev.cst rfl))))))))
  · have e : argsB f i = (decide (typeOf f i.2.2.1 = 32) && decide (typeOf f i.2.2.2.1 = 8)) := by unfold argsB; rw [h]; rfl
    have vb := v.b (.inr (.inl h))
    rw [e, h]
    exact Ev.neg rfl (Ev.dn (by decide) (Ev.dn (by decide) (Ev.dn (by decide) (Ev.dn (by decide) (Ev.dn (by decide) (Ev.dn (by decide) (Ev.dp rfl (Ev.bind (implTy1 hs hf v.a) (ev_if fun _ => Ev.bind (implTy1 hs hf vb) (Ev.cst rfl))))))))))
  · have e : argsB f i = decide (0 < typeOf f i.2.2.1) := by unfold argsB; rw [h]; rfl
    rw [e, h, ne_pos hf v.a]
    exact Ev.neg rfl (Ev.dn (by decide) (Ev.dn (by decide) (Ev.dn (by decide) (Ev.dn (by decide) (Ev.dn (by decide) (Ev.dn (by decide) (Ev.dn (by decide) (Ev.dp rfl (Ev.cst rfl)))))))))
  · have e : argsB f i = decide (typeOf f i.2.2.1 = i.2.1) := by unfold argsB; rw [h]; rfl
    rw [e, h]
    exact Ev.neg rfl (Ev.dp rfl (Ev.bind (implTy1 hs hf v.a) (Ev.cst rfl)))
  · obtain ⟨h0, h1, h2, h3, h4, h5, h6, h7, h8⟩ := h
    have e : argsB f i = true := by
      unfold argsB
      rw [h0, dneg h1, dneg h2, dneg h3, dneg h4, dneg h5, dneg h6, dneg h7, dneg h8]; rfl
    rw [e, h0]
    exact Ev.neg rfl (Ev.dn h8 (Ev.dn h1 (Ev.dn h2 (Ev.dn h3 (Ev.dn h4 (Ev.dn h5 (Ev.dn h6 (Ev.dn h7 (Ev.cst rfl)))))))))
/-! ### all widths -/
def endW (f : tFuncD) (t : tTermD) : Bool := !(decide (t.1 = 1) && !decide (typeOf f t.2.1 = f.2.1)) && !(decide (t.1 = 3) && !decide (typeOf f t.2.1 = 1))
def phiW (f : tFuncD) (p : tPhiD) : Bool := p.2.1.all fun id => decide (typeOf f id = p.1)
def blkW (f : tFuncD) (x : tBlockD) : Bool := x.1.all (phiW f) && (x.2.1.all (argsB f) && endW f x.2.2)
theorem Fm.vt (hf : Fm funcs f) {x : tBlockD} (hx : x ∈ f.2.2.1) (h : x.2.2.1 = 1 ∨ x.2.2.1 = 3) : vid f x.2.2.2.1 := by
  have := hf.tm x hx
  unfold termB at this
  rcases h with h | h <;> rw [h] at this
  · have h2 : (inB 0 (cntB f - 1) x.2.2.2.1 && decide (x.2.2.2.2.1 = 0) && decide (x.2.2.2.2.2.1 = 0)) = true := this
    simp only [Bool.and_eq_true] at h2
    exact vid_of h2.1.1
  · have h2 : (inB 0 (cntB f - 1) x.2.2.2.1 && inB 0 ((f.2.2.1.length : Int) - 1) x.2.2.2.2.1 && inB 0 ((f.2.2.1.length : Int) - 1) x.2.2.2.2.2.1 && !decide (x.2.2.2.2.1 = x.2.2.2.2.2.1)) = true := this
    simp only [Bool.and_eq_true] at h2
    exact vid_of h2.1.1.1
theorem Fm.vp (hf : Fm funcs f) {x : tBlockD} (hx : x ∈ f.2.2.1) {p : tPhiD} (hp : p ∈ x.1) {id : Int} (h : id ∈ p.2.1) : vid f id := by
  have := hf.ph x hx p hp
  simp only [phiB, Bool.and_eq_true, List.all_eq_true] at this
  exact vid_of (this.2 id h)
/-- The end of a block, whoever tells widths. -/
theorem end_ev {T : Nat → Int → Option IR} {t : tTermD} {r : Bool} {g : Nat → Option BR} (ht : t.1 = 1 ∨ t.1 = 3 → Ev (fun k => T k t.2.1) (one (typeOf f t.2.1))) (hg : Ev g (one r)) :
    Ev (fun k => bif decide (t.1 = 1) then (Option.bind (T k t.2.1) fun r2 => bif !decide (r2.1.1.1 = f.2.1) then some (((false, ()), ()), ()) else bif decide (t.1 = 3) then (Option.bind (T k t.2.1) fun r3 => bif !decide (r3.1.1.1 = 1) then some (((false, ()), ()), ()) else g k) else g k)
      else bif decide (t.1 = 3) then (Option.bind (T k t.2.1) fun r4 => bif !decide (r4.1.1.1 = 1) then some (((false, ()), ()), ()) else g k) else g k) (one (endW f t && r)) := by
  unfold endW
  by_cases h1 : t.1 = 1
  · rw [dpos h1, dneg (show ¬ t.1 = 3 by omega), Bool.true_and, Bool.not_not, Bool.false_and, Bool.not_false, Bool.and_true]
    exact Ev.pos rfl (Ev.bind (ht (.inl h1)) (ev_and (Ev.neg rfl hg)))
  · rw [dneg h1, Bool.false_and, Bool.not_false, Bool.true_and]
    refine Ev.neg rfl ?_
    by_cases h3 : t.1 = 3
    · rw [dpos h3, Bool.true_and, Bool.not_not]
      exact Ev.pos rfl (Ev.bind (ht (.inr h3)) (ev_and hg))
    · rw [dneg h3, Bool.false_and, Bool.not_false, Bool.true_and]
      exact Ev.neg rfl hg
theorem specTypes (hf : Fm funcs f) : Ev (fun k => spec_l4Types.f k f) (one (f.2.2.1.all (blkW f))) := by
  have h10 := hf.b10
  have key := Ev.down (G := fun i k => spec_l4Types.l0 k (i : Int) f) (V := fun i => one ((f.2.2.1.drop i).all (blkW f))) f.2.2.1.length ?_ ?_ 0 (Nat.zero_le _)
  · exact key
  · rw [List.drop_length]
    refine Ev.step (g' := fun _ => some (one true)) (Ev.cst rfl) fun k => ?_
    show spec_l4Types.l0_ k (spec_l4Types.l0 k) (spec_l4Types.l1 k) (spec_l4Types.l2 k) (spec_l4Types.l3 k) _ f = _
    unfold spec_l4Types.l0_
    simp only [head_end, cond_false]
  · intro i hi ih
    have hx := List.getElem_mem hi
    obtain ⟨hp, hq⟩ := hf.phis hx
    rw [List.drop_eq_getElem_cons hi, List.all_cons]
    -- the instructions and the end
    have l3 : Ev (fun k => spec_l4Types.l3 k (i : Int) 0 f f.2.2.1[i]) (one (f.2.2.1[i].2.1.all (argsB f) && (endW f f.2.2.1[i].2.2 && (f.2.2.1.drop (i + 1)).all (blkW f)))) := by
      refine each_ev (z := tInstZ) (l := f.2.2.1[i].2.1) (L := fun k a => spec_l4Types.l3 k (i : Int) a f f.2.2.1[i]) (V := fun m => one (m.all (argsB f) && (endW f f.2.2.1[i].2.2 && (f.2.2.1.drop (i + 1)).all (blkW f)))) (q := fun k y g => Option.bind (spec_l4Args.f k f y) fun r1 => bif !r1.1.1.1 then some (((false, ()), ()), ()) else g k)
        (by omega) (fun k a => rfl) ?_ ?_
      · rw [List.all_nil, Bool.true_and]
        have := end_ev (T := fun k id => spec_TypeOf.f k f id) (t := f.2.2.1[i].2.2) (g := fun k => spec_l4Types.l0 k ((i + 1 : Nat) : Int) f) (fun h => specTy hf (hf.vt hx h)) ih
        rw [wrap_nat (show i < 9223372036854775807 by omega)]
        exact this
      · intro y m g hy hg
        rw [List.all_cons, Bool.and_assoc]
        exact Ev.bind (specArgs hf (hf.vi hx hy)) (ev_and hg)
    have l1 := Ev.down (G := fun j k => spec_l4Types.l1 k (i : Int) (j : Int) f f.2.2.1[i]) (V := fun j => one ((f.2.2.1[i].1.drop j).all (phiW f) && (f.2.2.1[i].2.1.all (argsB f) && (endW f f.2.2.1[i].2.2 && (f.2.2.1.drop (i + 1)).all (blkW f))))) f.2.2.1[i].1.length ?_ ?_ 0 (Nat.zero_le _)
    · refine Ev.succ ?_
      show Ev (fun k => spec_l4Types.l0_ k (spec_l4Types.l0 k) (spec_l4Types.l1 k) (spec_l4Types.l2 k) (spec_l4Types.l3 k) _ f) _
      unfold spec_l4Types.l0_
      simp only [head_in hi, head_0, Bool.and_self, cond_true, get_in hi]
      refine Ev.rw (s := one (blkW f f.2.2.1[i] && (f.2.2.1.drop (i + 1)).all (blkW f))) l1 ?_
      unfold blkW
      rw [List.drop_zero, Bool.and_assoc, Bool.and_assoc]
    · rw [List.drop_length]
      refine Ev.step l3 fun k => ?_
      show spec_l4Types.l1_ k (spec_l4Types.l0 k) (spec_l4Types.l1 k) (spec_l4Types.l2 k) (spec_l4Types.l3 k) _ _ f _ = _
      unfold spec_l4Types.l1_
      simp only [head_end, cond_false]
    · intro j hj ihj
      have hpm := List.getElem_mem hj
      have hpl : f.2.2.1[i].1[j].2.1.length ≤ 10 := by
        have := hf.ph _ hx _ hpm
        simp only [phiB, Bool.and_eq_true, decide_eq_true_eq] at this
        exact this.1.2
      have l2 := Ev.down (G := fun q k => spec_l4Types.l2 k (i : Int) (j : Int) (q : Int) f f.2.2.1[i]) (V := fun q => one ((f.2.2.1[i].1[j].2.1.drop q).all (fun id => decide (typeOf f id = f.2.2.1[i].1[j].1)) && ((f.2.2.1[i].1.drop (j + 1)).all (phiW f) && (f.2.2.1[i].2.1.all (argsB f) && (endW f f.2.2.1[i].2.2 && (f.2.2.1.drop (i + 1)).all (blkW f)))))) f.2.2.1[i].1[j].2.1.length ?_ ?_ 0 (Nat.zero_le _)
      · rw [List.drop_eq_getElem_cons hj, List.all_cons, Bool.and_assoc]
        refine Ev.step l2 fun k => ?_
        show spec_l4Types.l1_ k (spec_l4Types.l0 k) (spec_l4Types.l1 k) (spec_l4Types.l2 k) (spec_l4Types.l3 k) _ _ f _ = _
        unfold spec_l4Types.l1_
        simp only [head_in hj, cond_true]
        rfl
      · rw [List.drop_length, List.all_nil, Bool.true_and]
        refine Ev.step ihj fun k => ?_
        show spec_l4Types.l2_ k (spec_l4Types.l0 k) (spec_l4Types.l1 k) (spec_l4Types.l2 k) (spec_l4Types.l3 k) _ _ _ f _ = _
        unfold spec_l4Types.l2_
        simp only [head_in hj, head_0, Bool.and_self, cond_true, get_in hj, head_end, cond_false, wrap_nat (show j < 9223372036854775807 by omega)]
      · intro q hq ihq
        rw [List.drop_eq_getElem_cons hq, List.all_cons, Bool.and_assoc]
        refine Ev.succ ?_
        show Ev (fun k => spec_l4Types.l2_ k (spec_l4Types.l0 k) (spec_l4Types.l1 k) (spec_l4Types.l2 k) (spec_l4Types.l3 k) _ _ _ f _) _
        unfold spec_l4Types.l2_
        simp only [head_in hj, head_0, Bool.and_self, cond_true, get_in hj, head_in hq, get_in hq, wrap_nat (show q < 9223372036854775807 by omega)]
        exact Ev.bind (specTy hf (hf.vp hx hpm (List.getElem_mem hq))) (ev_and ihq)
theorem implPhiW (hs : Small tFunc f) (hf : Fm funcs f) {x : tBlockD} (hx : x ∈ f.2.2.1) {p : tPhiD} (hp : p ∈ x.1) : Ev (fun k => slices_ContainsFunc_int64_int64_5.f k p.2.1 f p) (one (!phiW f p)) := by
  have hpl : p.2.1.length ≤ 10 := by
    have := hf.ph _ hx _ hp
    simp only [phiB, Bool.and_eq_true, decide_eq_true_eq] at this
    exact this.1.2
  unfold phiW
  rw [← any_not]
  exact index_ev (z := 0) (L := fun k b a => slices_IndexFunc_int64_int64_5.l0 k p.2.1 b a f p) (q := fun k y => impl_areTypes_1.f k y f p) (by omega) (fun k b a => rfl) fun y hy => Ev.bind (implTy hs hf (hf.vp hx hp hy)) (Ev.cst rfl)
theorem implInstW (hs : Small tFunc f) (hf : Fm funcs f) {x : tBlockD} (hx : x ∈ f.2.2.1) : Ev (fun k => slices_ContainsFunc_impl_Inst_impl_Inst_2.f k x.2.1 f) (one (!x.2.1.all (argsB f))) := by
  have := (hf.phis hx).2
  rw [← any_not]
  exact index_ev (z := tInstZ) (L := fun k b a => slices_IndexFunc_impl_Inst_impl_Inst_2.l0 k x.2.1 b a f) (q := fun k y => impl_areTypes_2.f k y f) (by omega) (fun k b a => rfl) fun y hy => Ev.bind (implArgs hs hf (hf.vi hx hy)) (Ev.cst rfl)
theorem implTypes (hs : Small tFunc f) (hf : Fm funcs f) : Ev (fun k => impl_areTypes.f k f) (one (f.2.2.1.all (blkW f))) := by
  have h10 := hf.b10
  have key := Ev.down (G := fun i k => impl_areTypes.l0 k f.2.2.1 ((List.length f.2.2.1 : Nat) : Int) (i : Int) f) (V := fun i => one ((f.2.2.1.drop i).all (blkW f))) f.2.2.1.length ?_ ?_ 0 (Nat.zero_le _)
  · exact key
  · rw [List.drop_length]
    refine Ev.step (g' := fun _ => some (one true)) (Ev.cst rfl) fun k => ?_
    show impl_areTypes.l0_ k (impl_areTypes.l0 k) (impl_areTypes.l1 k) _ _ _ f = _
    unfold impl_areTypes.l0_
    simp only [head_end, cond_false]
  · intro i hi ih
    have hx := List.getElem_mem hi
    obtain ⟨hp, hq⟩ := hf.phis hx
    rw [List.drop_eq_getElem_cons hi, List.all_cons]
    have l1 : Ev (fun k => impl_areTypes.l1 k f.2.2.1 ((List.length f.2.2.1 : Nat) : Int) (i : Int) f.2.2.1[i].1 ((List.length f.2.2.1[i].1 : Nat) : Int) 0 f f.2.2.1[i]) (one (f.2.2.1[i].1.all (phiW f) && (f.2.2.1[i].2.1.all (argsB f) && (endW f f.2.2.1[i].2.2 && (f.2.2.1.drop (i + 1)).all (blkW f))))) := by
      refine each_ev (z := tPhiZ) (l := f.2.2.1[i].1) (L := fun k a => impl_areTypes.l1 k f.2.2.1 ((List.length f.2.2.1 : Nat) : Int) (i : Int) f.2.2.1[i].1 ((List.length f.2.2.1[i].1 : Nat) : Int) a f f.2.2.1[i]) (V := fun m => one (m.all (phiW f) && (f.2.2.1[i].2.1.all (argsB f) && (endW f f.2.2.1[i].2.2 && (f.2.2.1.drop (i + 1)).all (blkW f)))))
        (q := fun k y g => Option.bind (slices_ContainsFunc_int64_int64_5.f k y.2.1 f y) fun r1 => bif r1.1.1.1 then some (((false, ()), ()), ()) else g k) (by omega) (fun k a => rfl) ?_ ?_
      · rw [List.all_nil, Bool.true_and]
        have := end_ev (T := fun k id => impl_TypeOf.f k f id) (t := f.2.2.1[i].2.2) (g := fun k => impl_areTypes.l0 k f.2.2.1 ((List.length f.2.2.1 : Nat) : Int) ((i + 1 : Nat) : Int) f) (fun h => implTy hs hf (hf.vt hx h)) ih
        rw [wrap_nat (show i < 9223372036854775807 by omega)]
        have h2 := ev_and' (b := !f.2.2.1[i].2.1.all (argsB f)) this
        rw [Bool.not_not] at h2
        exact Ev.bind (implInstW hs hf hx) h2
      · intro y m g hy hg
        have h2 := ev_and' (b := !phiW f y) hg
        rw [Bool.not_not] at h2
        rw [List.all_cons, Bool.and_assoc]
        exact Ev.bind (implPhiW hs hf hx hy) h2
    refine Ev.succ ?_
    show Ev (fun k => impl_areTypes.l0_ k (impl_areTypes.l0 k) (impl_areTypes.l1 k) _ _ _ f) _
    unfold impl_areTypes.l0_
    simp only [head_in hi, head_0, Bool.and_self, cond_true, get_in hi]
    refine Ev.rw (s := one (blkW f f.2.2.1[i] && (f.2.2.1.drop (i + 1)).all (blkW f))) l1 ?_
    unfold blkW
    rw [Bool.and_assoc, Bool.and_assoc]
end
end Go.Proofs.YtebgkcjpocfmmaaGreat.V
namespace Go.Proofs.YtebgkcjpocfmmaaGreat.V
open Go
set_option linter.unusedVariables false
set_option linter.unusedSimpArgs false
section
variable {m : List tFuncD} {f : tFuncD}
/-! ### calls -/
def zipB (T : Int → Int) : List Int → List Int → Bool
  | a :: as1, p :: ps => decide (T a = p) && zipB T as1 ps
  | _, _ => true
def callee (m : List tFuncD) (i : tInstD) : tFuncD := m.getD i.2.2.2.2.2.1.toNat tFuncZ
def callB (m : List tFuncD) (f : tFuncD) (i : tInstD) : Bool :=
  bif decide (i.1 = 26) then decide (i.2.1 = (callee m i).2.1) && (decide (i.2.2.2.2.2.2.1.length = (callee m i).1.length) && zipB (typeOf f) i.2.2.2.2.2.2.1 (callee m i).1) else true
theorem Fm.call (hf : Fm (m.length : Int) f) {x : tBlockD} (hx : x ∈ f.2.2.1) {i : tInstD} (hi : i ∈ x.2.1) (h : i.1 = 26) : 0 ≤ i.2.2.2.2.2.1 ∧ i.2.2.2.2.2.1 < (m.length : Int) ∧ i.2.2.2.2.2.2.1.length ≤ 4 ∧ ∀ id ∈ i.2.2.2.2.2.2.1, vid f id := by
  have hin := hf.ins x hx i hi
  simp only [instB, Bool.and_eq_true, decide_eq_true_eq] at hin
  obtain ⟨⟨⟨⟨⟨⟨g1, g2⟩, g3⟩, g4⟩, g5⟩, g6⟩, g7⟩ := hin
  unfold immB at g7
  rw [dneg (show ¬ i.1 = 21 by omega), dpos h, cond_false, cond_true, inB_iff] at g7
  have e : opsB i = i.2.2.2.2.2.2.1 := by unfold opsB; rw [h]; rfl
  rw [e, List.all_eq_true] at g4
  exact ⟨g7.1, by omega, g2, fun id hid => vid_of (g4 id hid)⟩
theorem specCalls (hm : ∀ g ∈ m, g.1.length ≤ 4) (hf : Fm (m.length : Int) f) : Ev (fun k => spec_l4Calls.f k (m, ()) f) (one (f.2.2.1.all fun x => x.2.1.all (callB m f))) := by
  have h10 := hf.b10
  have key := Ev.down (G := fun i k => spec_l4Calls.l0 k (i : Int) m f) (V := fun i => one ((f.2.2.1.drop i).all fun x => x.2.1.all (callB m f))) f.2.2.1.length ?_ ?_ 0 (Nat.zero_le _)
  · exact key
  · rw [List.drop_length]
    refine Ev.step (g' := fun _ => some (one true)) (Ev.cst rfl) fun k => ?_
    show spec_l4Calls.l0_ k (spec_l4Calls.l0 k) (spec_l4Calls.l1 k) (spec_l4Calls.l2 k) _ m f = _
    unfold spec_l4Calls.l0_
    simp only [head_end, cond_false]
  · intro i hi ih
    have hx := List.getElem_mem hi
    have hq := (hf.phis hx).2
    have l1 := Ev.down (G := fun j k => spec_l4Calls.l1 k (i : Int) (j : Int) m f) (V := fun j => one ((f.2.2.1[i].2.1.drop j).all (callB m f) && ((f.2.2.1.drop (i + 1)).all fun x => x.2.1.all (callB m f)))) f.2.2.1[i].2.1.length ?_ ?_ 0 (Nat.zero_le _)
    · rw [List.drop_eq_getElem_cons hi, List.all_cons]
      refine Ev.step l1 fun k => ?_
      show spec_l4Calls.l0_ k (spec_l4Calls.l0 k) (spec_l4Calls.l1 k) (spec_l4Calls.l2 k) _ m f = _
      unfold spec_l4Calls.l0_
      simp only [head_in hi, cond_true]
      rfl
    · rw [List.drop_length, List.all_nil, Bool.true_and]
      refine Ev.step ih fun k => ?_
      show spec_l4Calls.l1_ k (spec_l4Calls.l0 k) (spec_l4Calls.l1 k) (spec_l4Calls.l2 k) _ _ m f = _
      unfold spec_l4Calls.l1_
      simp only [head_in hi, head_0, Bool.and_self, cond_true, get_in hi, head_end, cond_false, wrap_nat (show i < 9223372036854775807 by omega)]
    · intro j hj ihj
      have hi2 := List.getElem_mem hj
      rw [List.drop_eq_getElem_cons hj, List.all_cons, Bool.and_assoc]
      refine Ev.succ ?_
      show Ev (fun k => spec_l4Calls.l1_ k (spec_l4Calls.l0 k) (spec_l4Calls.l1 k) (spec_l4Calls.l2 k) _ _ m f) _
      unfold spec_l4Calls.l1_
      simp only [head_in hi, head_0, Bool.and_self, cond_true, get_in hi, head_in hj, get_in hj, wrap_nat (show j < 9223372036854775807 by omega)]
      generalize hins : f.2.2.1[i].2.1[j] = ins at hi2 ⊢
      by_cases h26 : ins.1 = 26
      · obtain ⟨c0, c1, c2, c3⟩ := hf.call hx hi2 h26
        have hlt : ins.2.2.2.2.2.1.toNat < m.length := by omega
        have hg : m.getD ins.2.2.2.2.2.1.toNat tFuncZ = m[ins.2.2.2.2.2.1.toNat] := getD_at _ _ _ hlt
        have hg4 := hm _ (List.getElem_mem hlt)
        have ec : callB m f ins = (decide (ins.2.1 = (m[ins.2.2.2.2.2.1.toNat]).2.1) && (decide (ins.2.2.2.2.2.2.1.length = (m[ins.2.2.2.2.2.1.toNat]).1.length) && zipB (typeOf f) ins.2.2.2.2.2.2.1 (m[ins.2.2.2.2.2.1.toNat]).1)) := by
          unfold callB callee
          rw [dpos h26, hg]; rfl
        rw [ec, hg, Bool.and_assoc, Bool.and_assoc]
        generalize m[ins.2.2.2.2.2.1.toNat] = g at hg4 ⊢
        refine Ev.neg (by rw [dpos h26]; rfl) (Ev.dd c0 c1 (ev_and ?_))
        rw [len_eq]
        by_cases hl : ins.2.2.2.2.2.2.1.length = g.1.length
        · rw [dpos hl, Bool.true_and]
          refine Ev.neg rfl ?_
          have l2 := Ev.down (G := fun q k => spec_l4Calls.l2 k (i : Int) (j : Int) (q : Int) m f ins g) (V := fun q => one (zipB (typeOf f) (ins.2.2.2.2.2.2.1.drop q) (g.1.drop q) && ((f.2.2.1[i].2.1.drop (j + 1)).all (callB m f) && ((f.2.2.1.drop (i + 1)).all fun x => x.2.1.all (callB m f))))) ins.2.2.2.2.2.2.1.length ?_ ?_ 0 (Nat.zero_le _)
          · exact l2
          · rw [List.drop_length]
            refine Ev.step ihj fun k => ?_
            show spec_l4Calls.l2_ k (spec_l4Calls.l0 k) (spec_l4Calls.l1 k) (spec_l4Calls.l2 k) _ _ _ m f _ _ = _
            unfold spec_l4Calls.l2_
            simp only [head_end, cond_false, wrap_nat (show j < 9223372036854775807 by omega)]
          · intro q hq2 ihq
            have hq3 : q < g.1.length := by omega
            rw [List.drop_eq_getElem_cons hq2, List.drop_eq_getElem_cons hq3]
            unfold zipB
            rw [Bool.and_assoc]
            refine Ev.succ ?_
            show Ev (fun k => spec_l4Calls.l2_ k (spec_l4Calls.l0 k) (spec_l4Calls.l1 k) (spec_l4Calls.l2 k) _ _ _ m f _ _) _
            unfold spec_l4Calls.l2_
            simp only [head_in hq2, head_0, Bool.and_self, cond_true, get_in hq2, head_in hq3, get_in hq3, wrap_nat (show q < 9223372036854775807 by omega)]
            exact Ev.bind (specTy hf (c3 _ (List.getElem_mem hq2))) (ev_and ihq)
        · rw [dneg hl]
          exact Ev.pos rfl (Ev.cst rfl)
      · have ec : callB m f ins = true := by
          unfold callB
          rw [dneg h26]; rfl
        rw [ec, Bool.true_and]
        exact Ev.pos (by rw [dneg h26]; rfl) ihj
theorem implCall (hs : Small tFunc f) (hm : ∀ g ∈ m, g.1.length ≤ 4) (hf : Fm (m.length : Int) f) {x : tBlockD} (hx : x ∈ f.2.2.1) {i : tInstD} (hi : i ∈ x.2.1) : Ev (fun k => impl_checked_1.f k i m f) (one (!callB m f i)) := by
  unfold impl_checked_1.f
  by_cases h26 : i.1 = 26
  · obtain ⟨c0, c1, c2, c3⟩ := hf.call hx hi h26
    have hlt : i.2.2.2.2.2.1.toNat < m.length := by omega
    have hg : m.getD i.2.2.2.2.2.1.toNat tFuncZ = m[i.2.2.2.2.2.1.toNat] := getD_at _ _ _ hlt
    have hg4 := hm _ (List.getElem_mem hlt)
    have hc : Ev (fun k => impl_isCall.f k (m, ()) f i) (one (callB m f i)) := by
      have ec : callB m f i = (decide (i.2.1 = (m[i.2.2.2.2.2.1.toNat]).2.1) && (decide (i.2.2.2.2.2.2.1.length = (m[i.2.2.2.2.2.1.toNat]).1.length) && zipB (typeOf f) i.2.2.2.2.2.2.1 (m[i.2.2.2.2.2.1.toNat]).1)) := by
        unfold callB callee
        rw [dpos h26, hg]; rfl
      unfold impl_isCall.f
      refine Ev.dd c0 c1 ?_
      rw [ec]
      show Ev (fun k => bif !decide (i.2.1 = (m.getD i.2.2.2.2.2.1.toNat tFuncZ).2.1) then some (((false, ()), ()), ()) else bif !decide (((List.length i.2.2.2.2.2.2.1 : Nat) : Int) = ((List.length (m.getD i.2.2.2.2.2.1.toNat tFuncZ).1 : Nat) : Int)) then some (((false, ()), ()), ()) else impl_isCall.l0 k i.2.2.2.2.2.2.1 ((List.length i.2.2.2.2.2.2.1 : Nat) : Int) 0 f (m.getD i.2.2.2.2.2.1.toNat tFuncZ)) _
      rw [hg, len_eq]
      generalize m[i.2.2.2.2.2.1.toNat] = g at hg4 ⊢
      refine ev_and ?_
      by_cases hl : i.2.2.2.2.2.2.1.length = g.1.length
      · rw [dpos hl, Bool.true_and]
        refine Ev.neg rfl ?_
        have l2 := Ev.down (G := fun q k => impl_isCall.l0 k i.2.2.2.2.2.2.1 ((List.length i.2.2.2.2.2.2.1 : Nat) : Int) (q : Int) f g) (V := fun q => one (zipB (typeOf f) (i.2.2.2.2.2.2.1.drop q) (g.1.drop q))) i.2.2.2.2.2.2.1.length ?_ ?_ 0 (Nat.zero_le _)
        · exact l2
        · rw [List.drop_length]
          refine Ev.step (g' := fun _ => some (one true)) (Ev.cst rfl) fun k => ?_
          show impl_isCall.l0_ k (impl_isCall.l0 k) _ _ _ f g = _
          unfold impl_isCall.l0_
          simp only [head_end, cond_false]
        · intro q hq2 ihq
          have hq3 : q < g.1.length := by omega
          rw [List.drop_eq_getElem_cons hq2, List.drop_eq_getElem_cons hq3]
          unfold zipB
          refine Ev.succ ?_
          show Ev (fun k => impl_isCall.l0_ k (impl_isCall.l0 k) _ _ _ f g) _
          unfold impl_isCall.l0_
          simp only [head_in hq2, head_0, Bool.and_self, cond_true, get_in hq2, head_in hq3, get_in hq3, wrap_nat (show q < 9223372036854775807 by omega)]
          exact Ev.bind (implTy hs hf (c3 _ (List.getElem_mem hq2))) (ev_and ihq)
      · rw [dneg hl]
        exact Ev.pos rfl (Ev.cst rfl)
    exact Ev.dp h26 (Ev.bind hc (Ev.cst rfl))
  · have ec : callB m f i = true := by
      unfold callB
      rw [dneg h26]; rfl
    rw [ec]
    exact Ev.dn h26 (Ev.cst rfl)
theorem implCalls (hs : Small tFunc f) (hm : ∀ g ∈ m, g.1.length ≤ 4) (hf : Fm (m.length : Int) f) {x : tBlockD} (hx : x ∈ f.2.2.1) : Ev (fun k => slices_ContainsFunc_impl_Inst_impl_Inst_3.f k x.2.1 m f) (one (!x.2.1.all (callB m f))) := by
  have := (hf.phis hx).2
  rw [← any_not]
  exact index_ev (z := tInstZ) (L := fun k b a => slices_IndexFunc_impl_Inst_impl_Inst_3.l0 k x.2.1 b a m f) (q := fun k y => impl_checked_1.f k y m f) (by omega) (fun k b a => rfl) fun y hy => implCall hs hm hf hx hy
end
section
variable {funcs : Int} {f : tFuncD}
/-! ### what is seen -/
def seesB (f : tFuncD) (id b at' : Int) : Bool := if (placeOf f id).1 = -1 then true else if (placeOf f id).1 = b then decide ((placeOf f id).2 < at') else domB f.2.2.1 (placeOf f id).1 b
theorem Fm.there (hf : Fm funcs f) : There f.2.2.1 := by
  refine ⟨hf.b10, fun x hx s hsx => ?_⟩
  have := hf.tm x hx
  unfold succsOf succsT at hsx
  unfold termB at this
  by_cases h2 : x.2.2.1 = 2
  · rw [dpos h2, cond_true] at hsx
    rw [h2] at this
    have h3 : (decide (x.2.2.2.1 = 0) && inB 0 ((f.2.2.1.length : Int) - 1) x.2.2.2.2.1 && decide (x.2.2.2.2.2.1 = 0)) = true := this
    simp only [Bool.and_eq_true, inB_iff] at h3
    simp only [List.mem_singleton] at hsx
    subst hsx
    omega
  · by_cases h3 : x.2.2.1 = 3
    · rw [dneg h2, dpos h3, cond_false, cond_true] at hsx
      rw [h3] at this
      have h4 : (inB 0 (cntB f - 1) x.2.2.2.1 && inB 0 ((f.2.2.1.length : Int) - 1) x.2.2.2.2.1 && inB 0 ((f.2.2.1.length : Int) - 1) x.2.2.2.2.2.1 && !decide (x.2.2.2.2.1 = x.2.2.2.2.2.1)) = true := this
      simp only [Bool.and_eq_true, inB_iff] at h4
      simp only [List.mem_cons, List.not_mem_nil, or_false] at hsx
      rcases hsx with rfl | rfl <;> omega
    · rw [dneg h2, dneg h3] at hsx
      cases hsx
theorem specSees (hf : Fm funcs f) {id : Int} (v : vid f id) {b : Int} (b0 : 0 ≤ b) (at' : Int) : Ev (fun k => spec_l4Sees.f k f id b at') (one (seesB f id b at')) := by
  unfold spec_l4Sees.f seesB
  refine Ev.bind (specPlace hf v.1 v.2) ?_
  rcases place_cases id v.1 v.2 with ⟨hl, hp⟩ | ⟨hl, j, hj, hp, ha, hb⟩
  · rw [hp, if_pos rfl]
    exact Ev.dp rfl (Ev.cst rfl)
  · rw [hp]
    generalize id - (f.1.length : Int) - sumB wB (f.2.2.1.take j) = pl at ha hb
    rw [if_neg (by show ¬ ((j : Int) = -1); omega)]
    refine Ev.dn (by show ¬ ((j : Int) = -1); omega) ?_
    show Ev (fun k => bif decide ((j : Int) = b) then some (one (decide (pl < at'))) else bif decide (0 ≤ (j : Int)) then Option.bind (spec_l3Dom.f k f (j : Int) b) _ else _) (one (if (j : Int) = b then decide (pl < at') else domB f.2.2.1 (j : Int) b))
    by_cases c : (j : Int) = b
    · rw [if_pos c]; exact Ev.dp c (Ev.cst rfl)
    · rw [if_neg c]
      exact Ev.dn c (Ev.dp (by omega) (Ev.bind (specDom hf.there (by have := hf.b1; omega) _ _ b0) (Ev.cst rfl)))
theorem implSeen (hs : Small tFunc f) (hf : Fm funcs f) {id : Int} (v : vid f id) {b : Int} (b0 : 0 ≤ b) (b1 : b < (f.2.2.1.length : Int)) {at' ahead : Int} (h : (placeOf f id).1 = b → (id < ahead ↔ (placeOf f id).2 < at')) : Ev (fun k => impl_isSeen.f k f id b ahead) (one (seesB f id b at')) := by
  unfold impl_isSeen.f seesB
  refine Ev.bind (implPlace hs hf v.1 v.2) ?_
  rcases place_cases id v.1 v.2 with ⟨hl, hp⟩ | ⟨hl, j, hj, hp, ha, hb⟩
  · rw [hp, if_pos rfl]
    exact Ev.dp rfl (Ev.cst rfl)
  · rw [hp] at h ⊢
    generalize id - (f.1.length : Int) - sumB wB (f.2.2.1.take j) = pl at ha hb h
    rw [if_neg (by show ¬ ((j : Int) = -1); omega)]
    refine Ev.dn (by show ¬ ((j : Int) = -1); omega) ?_
    show Ev (fun k => bif decide ((j : Int) = b) then some (one (decide (id < ahead))) else Option.bind (impl_dominates.f k f (j : Int) b) _) (one (if (j : Int) = b then decide (pl < at') else domB f.2.2.1 (j : Int) b))
    by_cases c : (j : Int) = b
    · rw [if_pos c]
      refine Ev.dp c (Ev.cst ?_)
      have e : decide (id < ahead) = decide (pl < at') := by rw [decide_eq_decide]; exact h c
      rw [e]
    · rw [if_neg c]
      exact Ev.dn c (Ev.bind (implDom hf.there (by have := hf.b1; omega) _ _ b0 b1) (Ev.cst rfl))
/-- The first id of a block. -/
def firstB (f : tFuncD) (b : Nat) : Int := (f.1.length : Int) + sumB wB (f.2.2.1.take b)
theorem implFirst (hf : Fm funcs f) {b : Nat} (hb : b < f.2.2.1.length) : Ev (fun k => impl_firstOf.f k f (b : Int)) (one (firstB f b)) := by
  have h4 := hf.p4
  have h10 := hf.b10
  unfold impl_firstOf.f
  refine Ev.pos (by rw [dpos (show (0 : Nat) ≤ 0 by omega), dpos (show 0 ≤ (b : Int) by omega), dpos (show (b : Int) ≤ (f.2.2.1.length : Int) by omega)]; rfl) ?_
  rw [Int.toNat_natCast]
  exact acc_ev (L := fun k a i => impl_firstOf.l0 k a (f.2.2.1.take b) ((List.length (f.2.2.1.take b) : Nat) : Int) i) (l := f.2.2.1.take b) (w := wB) (fun x hx => ⟨wB_nonneg x, by have := hf.w60 (List.mem_of_mem_take hx); omega⟩) (by rw [List.length_take]; omega) (fun k a i hi => by
      show impl_firstOf.l0_ k (impl_firstOf.l0 k) a _ _ i = _
      unfold impl_firstOf.l0_
      have hlen : (f.2.2.1.take b).length ≤ 10 := by rw [List.length_take]; omega
      simp only [head_in hi, head_0, Bool.and_self, cond_true, get_in hi, wrap_nat (show i < 9223372036854775807 by omega)]
      rfl) (fun k a => by
      show impl_firstOf.l0_ k (impl_firstOf.l0 k) a _ _ _ = _
      unfold impl_firstOf.l0_
      simp only [head_end, cond_false]) (by omega) (by omega)
end
end Go.Proofs.YtebgkcjpocfmmaaGreat.V
namespace Go.Proofs.YtebgkcjpocfmmaaGreat.V
open Go
set_option linter.unusedVariables false
set_option linter.unusedSimpArgs false
section
variable {funcs : Int} {f : tFuncD}
def markB (f : tFuncD) (p : Int) : Bool := (reachB f.2.2.1 (-1)).getD p.toNat false
def allOf (f : tFuncD) (p : Int) : Int := wB (f.2.2.1.getD p.toNat tBlockZ)
def zipS (f : tFuncD) : List Int → List Int → Bool
  | id :: is, q :: qs => (bif markB f q then seesB f id q (allOf f q) else true) && zipS f is qs
  | _, _ => true
theorem zipS_cons {f : tFuncD} {id q : Int} {is qs : List Int} : zipS f (id :: is) (q :: qs) = ((bif markB f q then seesB f id q (allOf f q) else true) && zipS f is qs) := rfl
def instS (f : tFuncD) (b : Int) (x : tBlockD) (i : Nat) (ins : tInstD) : Bool := (opsB ins).all fun id => seesB f id b (((List.length x.1 : Nat) : Int) + (i : Int))
def endS (f : tFuncD) (b : Int) (x : tBlockD) : Bool := bif decide (x.2.2.1 = 1) || decide (x.2.2.1 = 3) then seesB f x.2.2.2.1 b (wB x) else true
def blkS (f : tFuncD) (b : Int) (x : tBlockD) : Bool := x.1.all (fun p => zipS f p.2.1 (preds f b)) && (allI (instS f b x) x.2.1 0 && endS f b x)
theorem allI_get {α : Type} {p : Nat → α → Bool} : ∀ {l : List α} {i : Nat}, allI p l i = true → ∀ j (h : j < l.length), p (i + j) l[j] = true
  | [], i, _, j, h => by simp at h
  | x :: l, i, ha, j, h => by
    simp only [allI, Bool.and_eq_true] at ha
    cases j with
    | zero => exact ha.1
    | succ j =>
      have := allI_get ha.2 j (by simpa using h)
      rw [show i + (j + 1) = i + 1 + j by omega]
      exact this
theorem phiN_len (h : allI (phiN f) f.2.2.1 0 = true) {b : Nat} (hb : b < f.2.2.1.length) {p : tPhiD} (hp : p ∈ f.2.2.1[b].1) : p.2.1.length = (preds f b).length := by
  have := allI_get h b hb
  rw [Nat.zero_add] at this
  unfold phiN at this
  simp only [List.all_eq_true, decide_eq_true_eq] at this
  exact this p hp
theorem Fm.vo (hf : Fm funcs f) {x : tBlockD} (hx : x ∈ f.2.2.1) {i : tInstD} (hi : i ∈ x.2.1) : i.2.2.2.2.2.2.1.length ≤ 4 ∧ ∀ id ∈ opsB i, vid f id := by
  have hin := hf.ins x hx i hi
  simp only [instB, Bool.and_eq_true, decide_eq_true_eq, List.all_eq_true] at hin
  exact ⟨hin.1.1.1.1.1.2, fun id h => vid_of (hin.1.1.1.2 id h)⟩
theorem preds_in {b p : Int} (h : p ∈ preds f b) : 0 ≤ p ∧ p < (f.2.2.1.length : Int) := by
  have := predsL_in b _ 0 p h
  omega
theorem all_wrap (hf : Fm funcs f) {q : Int} (h : 0 ≤ q ∧ q < (f.2.2.1.length : Int)) : IntKind.wrap .i64 (((List.length (f.2.2.1.getD q.toNat tBlockZ).1 : Nat) : Int) + ((List.length (f.2.2.1.getD q.toNat tBlockZ).2.1 : Nat) : Int)) = allOf f q := by
  have hlt : q.toNat < f.2.2.1.length := by omega
  unfold allOf
  rw [getD_at _ _ _ hlt]
  exact blk_wrap (hf.w60 (List.getElem_mem hlt))
theorem mark_iff {q : Int} (h : 0 ≤ q) : decide (q ∈ idx (reachB f.2.2.1 (-1)) 0) = markB f q := by
  unfold markB
  have := mem_idx0 (reachB f.2.2.1 (-1)) q h
  cases hm : (reachB f.2.2.1 (-1)).getD q.toNat false with
  | true => exact dpos (this.2 hm)
  | false => exact dneg fun hh => by rw [this.1 hh] at hm; cases hm
/-- The specification's look at one block. -/
theorem specBlk (hf : Fm funcs f) (hN : allI (phiN f) f.2.2.1 0 = true) {live : List Int} (hl : live = idx (reachB f.2.2.1 (-1)) 0) {a : Nat} (ha : a < 9223372036854775807) {b : Nat} (hb : b < f.2.2.1.length) {r : Bool}
    (hr : Ev (fun k => spec_l4Doms.l0 k live ((a + 1 : Nat) : Int) f) (one r)) : Ev (fun k => spec_l4Doms.l1 k live (a : Int) (b : Int) (wB f.2.2.1[b]) 0 f f.2.2.1[b] (preds f b)) (one (blkS f b f.2.2.1[b] && r)) := by
  have hx := List.getElem_mem hb
  obtain ⟨hp, hq⟩ := hf.phis hx
  have h10 := hf.b10
  have hpl := preds_len f b
  have hlive : smI live := by rw [hl]; exact reach_few hf.b10 _
  -- the end
  have lend : Ev (fun k => spec_l4Doms.l3 k live (a : Int) (b : Int) (wB f.2.2.1[b]) ((List.length f.2.2.1[b].2.1 : Nat) : Int) f f.2.2.1[b]) (one (endS f b f.2.2.1[b] && r)) := by
    refine Ev.succ ?_
    show Ev (fun k => spec_l4Doms.l3_ k (spec_l4Doms.l0 k) (spec_l4Doms.l1 k) (spec_l4Doms.l2 k) (spec_l4Doms.l3 k) (spec_l4Doms.l4 k) _ _ _ _ _ f _) _
    unfold spec_l4Doms.l3_ endS
    simp only [head_end, cond_false, wrap_nat ha]
    by_cases h1 : f.2.2.1[b].2.2.1 = 1
    · rw [dpos h1, Bool.true_or, cond_true]
      exact Ev.pos rfl (Ev.bind (specSees hf (hf.vt hx (.inl h1)) (by omega) _) (ev_and hr))
    · rw [dneg h1, Bool.false_or]
      refine Ev.neg rfl ?_
      by_cases h3 : f.2.2.1[b].2.2.1 = 3
      · rw [dpos h3, cond_true]
        exact Ev.pos rfl (Ev.bind (specSees hf (hf.vt hx (.inr h3)) (by omega) _) (ev_and hr))
      · rw [dneg h3, cond_false, Bool.true_and]
        exact Ev.neg rfl hr
  have l3 := Ev.down (G := fun j k => spec_l4Doms.l3 k live (a : Int) (b : Int) (wB f.2.2.1[b]) (j : Int) f f.2.2.1[b]) (V := fun j => one (allI (instS f b f.2.2.1[b]) (f.2.2.1[b].2.1.drop j) j && (endS f b f.2.2.1[b] && r))) f.2.2.1[b].2.1.length ?_ ?_ 0 (Nat.zero_le _)
  · have l1 := Ev.down (G := fun i k => spec_l4Doms.l1 k live (a : Int) (b : Int) (wB f.2.2.1[b]) (i : Int) f f.2.2.1[b] (preds f b)) (V := fun i => one ((f.2.2.1[b].1.drop i).all (fun p => zipS f p.2.1 (preds f b)) && (allI (instS f b f.2.2.1[b]) f.2.2.1[b].2.1 0 && (endS f b f.2.2.1[b] && r)))) f.2.2.1[b].1.length ?_ ?_ 0 (Nat.zero_le _)
    · refine Ev.rw l1 ?_
      unfold blkS
      rw [List.drop_zero, Bool.and_assoc, Bool.and_assoc]
    · rw [List.drop_length, List.all_nil, Bool.true_and]
      refine Ev.step l3 fun k => ?_
      show spec_l4Doms.l1_ k (spec_l4Doms.l0 k) (spec_l4Doms.l1 k) (spec_l4Doms.l2 k) (spec_l4Doms.l3 k) (spec_l4Doms.l4 k) _ _ _ _ _ f _ _ = _
      unfold spec_l4Doms.l1_
      simp only [head_end, cond_false]
      rfl
    · intro i hi ih
      have hpm := List.getElem_mem hi
      have hlen := phiN_len hN hb hpm
      rw [List.drop_eq_getElem_cons hi, List.all_cons, Bool.and_assoc]
      have l2 := Ev.down (G := fun q k => spec_l4Doms.l2 k live (a : Int) (b : Int) (wB f.2.2.1[b]) (i : Int) (q : Int) f f.2.2.1[b] (preds f b)) (V := fun q => one (zipS f (f.2.2.1[b].1[i].2.1.drop q) ((preds f b).drop q) && ((f.2.2.1[b].1.drop (i + 1)).all (fun p => zipS f p.2.1 (preds f b)) && (allI (instS f b f.2.2.1[b]) f.2.2.1[b].2.1 0 && (endS f b f.2.2.1[b] && r))))) (preds f b).length ?_ ?_ 0 (Nat.zero_le _)
      · refine Ev.step l2 fun k => ?_
        show spec_l4Doms.l1_ k (spec_l4Doms.l0 k) (spec_l4Doms.l1 k) (spec_l4Doms.l2 k) (spec_l4Doms.l3 k) (spec_l4Doms.l4 k) _ _ _ _ _ f _ _ = _
        unfold spec_l4Doms.l1_
        simp only [head_in hi, cond_true]
        rfl
      · rw [← hlen, List.drop_length]
        refine Ev.step ih fun k => ?_
        show spec_l4Doms.l2_ k (spec_l4Doms.l0 k) (spec_l4Doms.l1 k) (spec_l4Doms.l2 k) (spec_l4Doms.l3 k) (spec_l4Doms.l4 k) _ _ _ _ _ _ f _ _ = _
        unfold spec_l4Doms.l2_
        rw [hlen]
        simp only [head_end, cond_false, wrap_nat (show i < 9223372036854775807 by omega)]
      · intro q hq1 ihq
        have hq2 : q < f.2.2.1[b].1[i].2.1.length := by omega
        have hpi := preds_in (List.getElem_mem hq1)
        rw [List.drop_eq_getElem_cons hq1, List.drop_eq_getElem_cons hq2]
        rw [zipS_cons, Bool.and_assoc]
        refine Ev.succ ?_
        show Ev (fun k => spec_l4Doms.l2_ k (spec_l4Doms.l0 k) (spec_l4Doms.l1 k) (spec_l4Doms.l2 k) (spec_l4Doms.l3 k) (spec_l4Doms.l4 k) _ _ _ _ _ _ f _ _) _
        unfold spec_l4Doms.l2_
        simp only [head_in hq1, head_0, Bool.and_self, cond_true, get_in hq1, head_in hi, get_in hi, head_in hq2, get_in hq2, all_wrap hf hpi, wrap_nat (show q < 9223372036854775807 by omega)]
        refine Ev.dd hpi.1 hpi.2 (Ev.bind (has_ev live _ hlive) ?_)
        rw [hl, mark_iff hpi.1]
        cases hm : markB f (preds f b)[q] with
        | true =>
          rw [cond_true]
          rw [← hl]
          exact Ev.pos rfl (Ev.bind (specSees hf (hf.vp hx hpm (List.getElem_mem hq2)) hpi.1 _) (ev_and ihq))
        | false =>
          rw [cond_false, Bool.true_and, ← hl]
          exact Ev.neg rfl ihq
  · rw [List.drop_length]
    exact lend
  · intro j hj ihj
    have hjm := List.getElem_mem hj
    obtain ⟨ho4, hov⟩ := hf.vo hx hjm
    have hol := opsB_len (i := f.2.2.1[b].2.1[j]) (by omega)
    rw [List.drop_eq_getElem_cons hj]
    unfold allI
    rw [Bool.and_assoc]
    have l4 : Ev (fun k => spec_l4Doms.l4 k live (a : Int) (b : Int) (wB f.2.2.1[b]) (j : Int) 0 f f.2.2.1[b] (opsB f.2.2.1[b].2.1[j])) (one (instS f b f.2.2.1[b] j f.2.2.1[b].2.1[j] && (allI (instS f b f.2.2.1[b]) (f.2.2.1[b].2.1.drop (j + 1)) (j + 1) && (endS f b f.2.2.1[b] && r)))) := by
      refine each_ev (z := 0) (l := opsB f.2.2.1[b].2.1[j]) (L := fun k q => spec_l4Doms.l4 k live (a : Int) (b : Int) (wB f.2.2.1[b]) (j : Int) q f f.2.2.1[b] (opsB f.2.2.1[b].2.1[j])) (V := fun m => one ((m.all fun id => seesB f id b (((List.length f.2.2.1[b].1 : Nat) : Int) + (j : Int))) && (allI (instS f b f.2.2.1[b]) (f.2.2.1[b].2.1.drop (j + 1)) (j + 1) && (endS f b f.2.2.1[b] && r))))
        (q := fun k id g => Option.bind (spec_l4Sees.f k f id (b : Int) (IntKind.wrap .i64 (((List.length f.2.2.1[b].1 : Nat) : Int) + (j : Int)))) fun r1 => bif !r1.1.1.1 then some (((false, ()), ()), ()) else g k) (by omega) (fun k q => rfl) ?_ ?_
      · rw [List.all_nil, Bool.true_and, wrap_nat (show j < 9223372036854775807 by omega)]
        exact ihj
      · intro id mm g hid hg
        rw [wrap_id (by omega) (by omega), List.all_cons, Bool.and_assoc]
        exact Ev.bind (specSees hf (hov id hid) (by omega) _) (ev_and hg)
    refine Ev.succ ?_
    show Ev (fun k => spec_l4Doms.l3_ k (spec_l4Doms.l0 k) (spec_l4Doms.l1 k) (spec_l4Doms.l2 k) (spec_l4Doms.l3 k) (spec_l4Doms.l4 k) _ _ _ _ _ f _) _
    unfold spec_l4Doms.l3_
    simp only [head_in hj, head_0, Bool.and_self, cond_true, get_in hj]
    exact Ev.bind (Ev.all fun k => specOps k (by omega)) l4
theorem specDoms (hf : Fm funcs f) (hN : allI (phiN f) f.2.2.1 0 = true) : Ev (fun k => spec_l4Doms.f k f) (one ((idx (reachB f.2.2.1 (-1)) 0).all fun b => blkS f b (f.2.2.1.getD b.toNat tBlockZ))) := by
  have hb1 := hf.b1
  have hin : ∀ b ∈ idx (reachB f.2.2.1 (-1)) 0, 0 ≤ b ∧ b < (f.2.2.1.length : Int) := fun b hb => by
    have h0 := idx_ge _ _ _ hb
    have h1 := (mem_idx0 _ b h0).1 hb
    refine ⟨h0, ?_⟩
    rcases Nat.lt_or_ge b.toNat f.2.2.1.length with h | h
    · omega
    · rw [List.getD, List.getElem?_eq_none (by rw [reachB_length]; exact h)] at h1
      cases h1
  unfold spec_l4Doms.f
  refine Ev.bind (specReach_ev f (-1) hf.there (by omega)) ?_
  generalize hl : idx (reachB f.2.2.1 (-1)) 0 = live at hin
  have hls : live.length ≤ 1048576 := by rw [← hl]; exact reach_few hf.b10 _
  have key := Ev.down (G := fun i k => spec_l4Doms.l0 k live (i : Int) f) (V := fun i => one ((live.drop i).all fun b => blkS f b (f.2.2.1.getD b.toNat tBlockZ))) live.length ?_ ?_ 0 (Nat.zero_le _)
  · exact key
  · rw [List.drop_length]
    refine Ev.step (g' := fun _ => some (one true)) (Ev.cst rfl) fun k => ?_
    show spec_l4Doms.l0_ k (spec_l4Doms.l0 k) (spec_l4Doms.l1 k) (spec_l4Doms.l2 k) (spec_l4Doms.l3 k) (spec_l4Doms.l4 k) _ _ f = _
    unfold spec_l4Doms.l0_
    simp only [head_end, cond_false]
  · intro i hi ih
    obtain ⟨b0, b1⟩ := hin _ (List.getElem_mem hi)
    rw [List.drop_eq_getElem_cons hi, List.all_cons]
    refine Ev.succ ?_
    show Ev (fun k => spec_l4Doms.l0_ k (spec_l4Doms.l0 k) (spec_l4Doms.l1 k) (spec_l4Doms.l2 k) (spec_l4Doms.l3 k) (spec_l4Doms.l4 k) _ _ f) _
    unfold spec_l4Doms.l0_
    simp only [head_in hi, head_0, Bool.and_self, cond_true, get_in hi]
    have hbt : (live[i]).toNat < f.2.2.1.length := by omega
    have hcast : ((live[i].toNat : Nat) : Int) = live[i] := by omega
    have hall := all_wrap hf ⟨b0, b1⟩
    refine Ev.dd b0 b1 (Ev.bind (specPreds hf.b10 _) ?_)
    rw [hall]
    unfold allOf
    have := specBlk (a := i) hf hN hl.symm (by omega) hbt ih
    rw [hcast] at this
    rw [getD_at _ _ _ hbt]
    exact this
end
end Go.Proofs.YtebgkcjpocfmmaaGreat.V
namespace Go.Proofs.YtebgkcjpocfmmaaGreat.V
open Go
set_option linter.unusedVariables false
noncomputable section
/-! ### spec.Checked: function 19 -/
abbrev spec_Checked.R := (((Int × Unit) × Unit) × Unit)
def spec_Checked.l0_ (k : Nat) (l0 : Int → (List tFuncD) → Option spec_Checked.R) (a0 : Int) (a1 : List tFuncD) : Option spec_Checked.R := bif decide (a0 < ((List.length a1 : Nat) : Int)) then (bif (decide (0 ≤ a0)) && (decide (a0 < ((List.length a1 : Nat) : Int))) then (Option.bind (spec_l4Func.f k (a1, ()) (List.getD a1 (Int.toNat a0) tFuncZ)) fun r1 => bif !decide (r1.1.1.1 = 0) then (some (((r1.1.1.1, ()), ()), ())) else (l0 (IntKind.wrap .i64 (a0 + 1)) a1)) else none) else (some (((0, ()), ()), ()))
def spec_Checked.all : Nat → (Int → (List tFuncD) → Option spec_Checked.R) × Unit
  | 0 => (fun _ _ => none, ())
  | k + 1 => (spec_Checked.l0_ k (spec_Checked.all k).1, ())
def spec_Checked.l0 (k : Nat) : Int → (List tFuncD) → Option spec_Checked.R := (spec_Checked.all k).1
def spec_Checked.f (k : Nat) (a0 : tModuleD) : Option spec_Checked.R := Option.bind (spec_ShapeOk.f k (a0.1, ())) fun r1 => bif !r1.1.1.1 then (some (((1, ()), ()), ())) else (spec_Checked.l0 k 0 a0.1)
def spec_Checked.s (k : Nat) : FS := ⟨[⟨true, [.lst tFunc]⟩], [], false, [⟨false, [.int .i64]⟩], [], [], fun x => spec_Checked.f k x.1.1⟩
def spec_Checked.E (k : Nat) : Ents := [(⟨37, []⟩, spec_ShapeOk.s k), (⟨39, []⟩, spec_l4Func.s k)]
def spec_Checked.L0 (l : Int → (List tFuncD) → Option spec_Checked.R) : LS spec_Checked.R := ⟨[], [(1, ⟨false, [.ptr 100000 0]⟩), (3, ⟨false, [.int .i64]⟩)], [(100000, .box [.lst tFunc])], fun x => l x.1.2.1.1 x.2.1.1⟩
def spec_Checked.L (l0 : Int → (List tFuncD) → Option spec_Checked.R) : List (LS spec_Checked.R) := [spec_Checked.L0 l0]
def spec_Checked.c : Code := Tryz.f19.body.getD .skip
theorem spec_Checked.eq (k : Nat) (x) : (spec_Checked.s k).pf x = execF tab (spec_Checked.E k) Tryz.f19 spec_Checked.c (spec_Checked.s k) (spec_Checked.L (spec_Checked.l0 k)) x := by kernel_rfl
theorem spec_Checked.r0 (l0 : Int → (List tFuncD) → Option spec_Checked.R) (k : Nat) (x) : spec_Checked.l0_ k l0 x.1.2.1.1 x.2.1.1 = roundOf tab (spec_Checked.E k) (spec_Checked.L l0) spec_Checked.c (fin tab Tryz.f19 (spec_Checked.s k)) 0 (spec_Checked.L0 l0) x := by kernel_rfl
theorem spec_Checked.sound : ∀ k, Sound Tryz.prog 19 (spec_Checked.s k) := sound_of mixed tab_ok (f := 19) (fn := Tryz.f19) (c := spec_Checked.c) (by kernel_rfl) (by kernel_rfl) (by kernel_rfl) ⟨[⟨true, [.lst tFunc]⟩], [], false, [⟨false, [.int .i64]⟩], [], []⟩ (by kernel_rfl) (by kernel_rfl) (fun k => (spec_Checked.s k).pf) spec_Checked.E (fun k => (EntsOK.cons (spec_ShapeOk.sound k) (EntsOK.cons (spec_l4Func.sound k) EntsOK.nil))) (fun k => spec_Checked.L (spec_Checked.l0 k)) (fun k => ⟨rfl, trivial⟩) ⟨fun _ => rfl, trivial⟩ (fun k => ⟨⟨(spec_Checked.L0 (spec_Checked.l0 (k + 1))).l, rfl, fun x => spec_Checked.r0 (spec_Checked.l0 k) k x⟩, trivial⟩) spec_Checked.eq
end
end Go.Proofs.YtebgkcjpocfmmaaGreat.V
namespace Go.Proofs.YtebgkcjpocfmmaaGreat.V
open Go
set_option linter.unusedVariables false
noncomputable section
/-! ### impl.Checked: function 20 -/
abbrev impl_Checked.R := (((Int × Unit) × Unit) × Unit)
def impl_Checked.l0_ (k : Nat) (l0 : (List tFuncD) → Int → Int → (List tFuncD) → Option impl_Checked.R) (a0 : List tFuncD) (a1 : Int) (a2 : Int) (a3 : List tFuncD) : Option impl_Checked.R := bif decide (a2 < a1) then (bif (decide (0 ≤ a2)) && (decide (a2 < ((List.length a0 : Nat) : Int))) then (Option.bind (impl_checked.f k (a3, ()) (List.getD a0 (Int.toNat a2) tFuncZ)) fun r1 => bif !decide (r1.1.1.1 = 0) then (some (((r1.1.1.1, ()), ()), ())) else (l0 a0 a1 (IntKind.wrap .i64 (a2 + 1)) a3)) else none) else (some (((0, ()), ()), ()))
def impl_Checked.all : Nat → ((List tFuncD) → Int → Int → (List tFuncD) → Option impl_Checked.R) × Unit
  | 0 => (fun _ _ _ _ => none, ())
  | k + 1 => (impl_Checked.l0_ k (impl_Checked.all k).1, ())
def impl_Checked.l0 (k : Nat) : (List tFuncD) → Int → Int → (List tFuncD) → Option impl_Checked.R := (impl_Checked.all k).1
def impl_Checked.f (k : Nat) (a0 : tModuleD) : Option impl_Checked.R := Option.bind (impl_ShapeOk.f k (a0.1, ())) fun r1 => bif !r1.1.1.1 then (some (((1, ()), ()), ())) else (impl_Checked.l0 k a0.1 ((List.length a0.1 : Nat) : Int) 0 a0.1)
def impl_Checked.s (k : Nat) : FS := ⟨[⟨true, [.lst tFunc]⟩], [], false, [⟨false, [.int .i64]⟩], [], [], fun x => impl_Checked.f k x.1.1⟩
def impl_Checked.E (k : Nat) : Ents := [(⟨40, []⟩, impl_ShapeOk.s k), (⟨42, []⟩, impl_checked.s k)]
def impl_Checked.L0 (l : (List tFuncD) → Int → Int → (List tFuncD) → Option impl_Checked.R) : LS impl_Checked.R := ⟨[], [(1, ⟨false, [.ptr 100000 0]⟩), (10, ⟨false, [.lst tFunc]⟩), (11, ⟨false, [.int .i64]⟩), (12, ⟨false, [.int .i64]⟩)], [(100000, .box [.lst tFunc])], fun x => l x.1.2.1.1 x.1.2.2.1.1 x.1.2.2.2.1.1 x.2.1.1⟩
def impl_Checked.L (l0 : (List tFuncD) → Int → Int → (List tFuncD) → Option impl_Checked.R) : List (LS impl_Checked.R) := [impl_Checked.L0 l0]
def impl_Checked.c : Code := Tryz.f20.body.getD .skip
theorem impl_Checked.eq (k : Nat) (x) : (impl_Checked.s k).pf x = execF tab (impl_Checked.E k) Tryz.f20 impl_Checked.c (impl_Checked.s k) (impl_Checked.L (impl_Checked.l0 k)) x := by kernel_rfl
theorem impl_Checked.r0 (l0 : (List tFuncD) → Int → Int → (List tFuncD) → Option impl_Checked.R) (k : Nat) (x) : impl_Checked.l0_ k l0 x.1.2.1.1 x.1.2.2.1.1 x.1.2.2.2.1.1 x.2.1.1 = roundOf tab (impl_Checked.E k) (impl_Checked.L l0) impl_Checked.c (fin tab Tryz.f20 (impl_Checked.s k)) 0 (impl_Checked.L0 l0) x := by kernel_rfl
theorem impl_Checked.sound : ∀ k, Sound Tryz.prog 20 (impl_Checked.s k) := sound_of mixed tab_ok (f := 20) (fn := Tryz.f20) (c := impl_Checked.c) (by kernel_rfl) (by kernel_rfl) (by kernel_rfl) ⟨[⟨true, [.lst tFunc]⟩], [], false, [⟨false, [.int .i64]⟩], [], []⟩ (by kernel_rfl) (by kernel_rfl) (fun k => (impl_Checked.s k).pf) impl_Checked.E (fun k => (EntsOK.cons (impl_ShapeOk.sound k) (EntsOK.cons (impl_checked.sound k) EntsOK.nil))) (fun k => impl_Checked.L (impl_Checked.l0 k)) (fun k => ⟨rfl, trivial⟩) ⟨fun _ => rfl, trivial⟩ (fun k => ⟨⟨(impl_Checked.L0 (impl_Checked.l0 (k + 1))).l, rfl, fun x => impl_Checked.r0 (impl_Checked.l0 k) k x⟩, trivial⟩) impl_Checked.eq
end
end Go.Proofs.YtebgkcjpocfmmaaGreat.V
namespace Go.Proofs.YtebgkcjpocfmmaaGreat.V
open Go
set_option linter.unusedVariables false
set_option linter.unusedSimpArgs false
section
variable {funcs : Int} {f : tFuncD}
theorem place_end (hf : Fm funcs f) {id : Int} (v : vid f id) {q : Int} (hq : 0 ≤ q ∧ q < (f.2.2.1.length : Int)) : (placeOf f id).1 = q → (id < cntB f ↔ (placeOf f id).2 < allOf f q) := by
  intro h
  rcases place_cases id v.1 v.2 with ⟨hl, hp⟩ | ⟨hl, j, hj, hp, ha, hb⟩
  · rw [hp] at h
    have h' : (-1 : Int) = q := h
    omega
  · rw [hp] at h ⊢
    have h' : (j : Int) = q := h
    have hqj : q.toNat = j := by omega
    unfold allOf
    rw [hqj, getD_at _ _ _ hj]
    exact ⟨fun _ => hb, fun _ => v.2⟩
theorem place_at {id : Int} (v : vid f id) {b : Nat} {at' : Int} : (placeOf f id).1 = (b : Int) → (id < firstB f b + at' ↔ (placeOf f id).2 < at') := by
  intro h
  rcases place_cases id v.1 v.2 with ⟨hl, hp⟩ | ⟨hl, j, hj, hp, ha, hb⟩
  · rw [hp] at h
    have h' : (-1 : Int) = (b : Int) := h
    omega
  · rw [hp] at h ⊢
    have h' : (j : Int) = (b : Int) := h
    have e : j = b := by omega
    subst e
    show _ ↔ id - (f.1.length : Int) - sumB wB (f.2.2.1.take j) < at'
    unfold firstB
    omega
theorem sum_take_le (hf : Fm funcs f) (b : Nat) : 0 ≤ sumB wB (f.2.2.1.take b) ∧ sumB wB (f.2.2.1.take b) ≤ 600 := by
  have h10 := hf.b10
  have := sumB_le (w := wB) (m := 60) (l := f.2.2.1.take b) fun x hx => ⟨wB_nonneg x, hf.w60 (List.mem_of_mem_take hx)⟩
  have hl : (f.2.2.1.take b).length ≤ 10 := by rw [List.length_take]; omega
  omega
theorem implBlk (hs : Small tFunc f) (hf : Fm funcs f) (hN : allI (phiN f) f.2.2.1 0 = true) {b : Nat} (hb : b < f.2.2.1.length) : Ev (fun k => impl_areSeen.f k f (b : Int) (reachB f.2.2.1 (-1))) (one (blkS f b f.2.2.1[b])) := by
  have hx := List.getElem_mem hb
  obtain ⟨hp, hq⟩ := hf.phis hx
  have h10 := hf.b10
  have h4 := hf.p4
  have hpl := preds_len f b
  have hst := sum_take_le hf b
  have hml := reachB_length f.2.2.1 (-1)
  obtain ⟨c0, c1⟩ := cntB_le hs
  have tail : ∀ {A : Int}, vid f A → Ev (fun k => Option.bind (impl_CountOf.f k f) fun r3 => Option.bind (impl_isSeen.f k f A (b : Int) r3.1.1.1) fun r4 => some (((r4.1.1.1, ()), ()), ())) (one (seesB f A b (wB f.2.2.1[b]))) := by
    intro A v
    refine Ev.bind (implCount hs) (Ev.bind (implSeen hs hf v (by omega) (by omega) (at' := wB f.2.2.1[b]) ?_) (Ev.cst rfl))
    have := place_end hf v (q := (b : Int)) ⟨by omega, by omega⟩
    unfold allOf at this
    rw [Int.toNat_natCast, getD_at _ _ _ hb] at this
    exact this
  have lend : Ev (fun k => impl_areSeen.l2 k f.2.2.1[b].2.1 ((List.length f.2.2.1[b].2.1 : Nat) : Int) ((List.length f.2.2.1[b].2.1 : Nat) : Int) f (b : Int) f.2.2.1[b] (firstB f b + ((List.length f.2.2.1[b].1 : Nat) : Int))) (one (endS f b f.2.2.1[b])) := by
    refine Ev.succ ?_
    show Ev (fun k => impl_areSeen.l2_ k (impl_areSeen.l0 k) (impl_areSeen.l1 k) (impl_areSeen.l2 k) _ _ _ f _ _ _) _
    unfold impl_areSeen.l2_ endS
    simp only [head_end, cond_false]
    by_cases h1 : f.2.2.1[b].2.2.1 = 1
    · rw [dpos h1, Bool.true_or, cond_true]
      exact Ev.pos rfl (tail (hf.vt hx (.inl h1)))
    · rw [dneg h1, Bool.false_or]
      refine Ev.neg rfl ?_
      by_cases h3 : f.2.2.1[b].2.2.1 = 3
      · rw [dpos h3, cond_true]
        exact Ev.neg rfl (tail (hf.vt hx (.inr h3)))
      · rw [dneg h3, cond_false]
        exact Ev.pos rfl (Ev.cst rfl)
  have l2 := Ev.down (G := fun j k => impl_areSeen.l2 k f.2.2.1[b].2.1 ((List.length f.2.2.1[b].2.1 : Nat) : Int) (j : Int) f (b : Int) f.2.2.1[b] (firstB f b + ((List.length f.2.2.1[b].1 : Nat) : Int))) (V := fun j => one (allI (instS f b f.2.2.1[b]) (f.2.2.1[b].2.1.drop j) j && endS f b f.2.2.1[b])) f.2.2.1[b].2.1.length ?_ ?_ 0 (Nat.zero_le _)
  · have l0 := Ev.down (G := fun i k => impl_areSeen.l0 k (reachB f.2.2.1 (-1)) f.2.2.1[b].1 ((List.length f.2.2.1[b].1 : Nat) : Int) (i : Int) f (b : Int) f.2.2.1[b] (preds f b)) (V := fun i => one ((f.2.2.1[b].1.drop i).all (fun p => zipS f p.2.1 (preds f b)) && (allI (instS f b f.2.2.1[b]) f.2.2.1[b].2.1 0 && endS f b f.2.2.1[b]))) f.2.2.1[b].1.length ?_ ?_ 0 (Nat.zero_le _)
    · unfold impl_areSeen.f
      refine Ev.dd (by omega) (by omega) (Ev.bind (implPreds h10 b) ?_)
      rw [get_in hb]
      exact l0
    · rw [List.drop_length, List.all_nil, Bool.true_and]
      refine Ev.succ ?_
      show Ev (fun k => impl_areSeen.l0_ k (impl_areSeen.l0 k) (impl_areSeen.l1 k) (impl_areSeen.l2 k) _ _ _ _ f _ _ _) _
      unfold impl_areSeen.l0_
      simp only [head_end, cond_false]
      refine Ev.bind (implFirst hf hb) ?_
      rw [show IntKind.wrap .i64 ((one (firstB f b)).1.1.1 + ((List.length f.2.2.1[b].1 : Nat) : Int)) = firstB f b + ((List.length f.2.2.1[b].1 : Nat) : Int) from wrap_id (by show _ ≤ firstB f b + _; unfold firstB; omega) (by show firstB f b + _ ≤ _; unfold firstB; omega)]
      exact l2
    · intro i hi ih
      have hpm := List.getElem_mem hi
      have hlen := phiN_len hN hb hpm
      have l1 := Ev.down (G := fun q k => impl_areSeen.l1 k (reachB f.2.2.1 (-1)) f.2.2.1[b].1 ((List.length f.2.2.1[b].1 : Nat) : Int) (i : Int) f.2.2.1[b].1[i].2.1 ((List.length f.2.2.1[b].1[i].2.1 : Nat) : Int) (q : Int) f (b : Int) f.2.2.1[b] (preds f b)) (V := fun q => one (zipS f (f.2.2.1[b].1[i].2.1.drop q) ((preds f b).drop q) && ((f.2.2.1[b].1.drop (i + 1)).all (fun p => zipS f p.2.1 (preds f b)) && (allI (instS f b f.2.2.1[b]) f.2.2.1[b].2.1 0 && endS f b f.2.2.1[b])))) f.2.2.1[b].1[i].2.1.length ?_ ?_ 0 (Nat.zero_le _)
      · rw [List.drop_eq_getElem_cons hi, List.all_cons, Bool.and_assoc]
        refine Ev.step l1 fun k => ?_
        show impl_areSeen.l0_ k (impl_areSeen.l0 k) (impl_areSeen.l1 k) (impl_areSeen.l2 k) _ _ _ _ f _ _ _ = _
        unfold impl_areSeen.l0_
        simp only [head_in hi, head_0, Bool.and_self, cond_true, get_in hi]
        rfl
      · rw [List.drop_length]
        refine Ev.step ih fun k => ?_
        show impl_areSeen.l1_ k (impl_areSeen.l0 k) (impl_areSeen.l1 k) (impl_areSeen.l2 k) _ _ _ _ _ _ _ f _ _ _ = _
        unfold impl_areSeen.l1_
        simp only [head_end, cond_false, wrap_nat (show i < 9223372036854775807 by omega)]
      · intro q hq1 ihq
        have hq2 : q < (preds f b).length := by omega
        have hpi := preds_in (List.getElem_mem hq2)
        rw [List.drop_eq_getElem_cons hq1, List.drop_eq_getElem_cons hq2, zipS_cons, Bool.and_assoc]
        refine Ev.succ ?_
        show Ev (fun k => impl_areSeen.l1_ k (impl_areSeen.l0 k) (impl_areSeen.l1 k) (impl_areSeen.l2 k) _ _ _ _ _ _ _ f _ _ _) _
        unfold impl_areSeen.l1_
        simp only [head_in hq1, head_0, Bool.and_self, cond_true, get_in hq1, head_in hq2, get_in hq2, wrap_nat (show q < 9223372036854775807 by omega)]
        refine Ev.dd hpi.1 (by omega) ?_
        cases hm : markB f (preds f b)[q] with
        | true =>
          rw [cond_true]
          have v := hf.vp hx hpm (List.getElem_mem hq1)
          exact Ev.pos hm (Ev.bind (implCount hs) (Ev.bind (implSeen hs hf v hpi.1 hpi.2 (place_end hf v hpi)) (ev_and ihq)))
        | false =>
          rw [cond_false, Bool.true_and]
          exact Ev.neg hm ihq
  · rw [List.drop_length]
    exact lend
  · intro j hj ihj
    have hjm := List.getElem_mem hj
    obtain ⟨ho4, hov⟩ := hf.vo hx hjm
    have hol := opsB_len (i := f.2.2.1[b].2.1[j]) (by omega)
    rw [List.drop_eq_getElem_cons hj]
    unfold allI
    rw [Bool.and_assoc]
    have hc : Ev (fun k => slices_ContainsFunc_int64_int64_6.f k (opsB f.2.2.1[b].2.1[j]) f (b : Int) (firstB f b + ((List.length f.2.2.1[b].1 : Nat) : Int)) (j : Int)) (one (!instS f b f.2.2.1[b] j f.2.2.1[b].2.1[j])) := by
      unfold instS
      rw [← any_not]
      refine index_ev (z := 0) (L := fun k e a => slices_IndexFunc_int64_int64_6.l0 k (opsB f.2.2.1[b].2.1[j]) e a f (b : Int) (firstB f b + ((List.length f.2.2.1[b].1 : Nat) : Int)) (j : Int)) (q := fun k y => impl_areSeen_1.f k y f (b : Int) (firstB f b + ((List.length f.2.2.1[b].1 : Nat) : Int)) (j : Int)) (by omega) (fun k e a => rfl) fun id hid => ?_
      unfold impl_areSeen_1.f
      have v := hov id hid
      have hw : IntKind.wrap .i64 (firstB f b + ((List.length f.2.2.1[b].1 : Nat) : Int) + (j : Int)) = firstB f b + (((List.length f.2.2.1[b].1 : Nat) : Int) + (j : Int)) := by
        rw [wrap_id (by unfold firstB; omega) (by unfold firstB; omega)]; omega
      rw [hw]
      exact Ev.bind (implSeen hs hf v (by omega) (by omega) (place_at v)) (Ev.cst rfl)
    refine Ev.succ ?_
    show Ev (fun k => impl_areSeen.l2_ k (impl_areSeen.l0 k) (impl_areSeen.l1 k) (impl_areSeen.l2 k) _ _ _ f _ _ _) _
    unfold impl_areSeen.l2_
    simp only [head_in hj, head_0, Bool.and_self, cond_true, get_in hj, wrap_nat (show j < 9223372036854775807 by omega)]
    have h2 := ev_and' (b := !instS f b f.2.2.1[b] j f.2.2.1[b].2.1[j]) ihj
    rw [Bool.not_not] at h2
    exact Ev.bind (Ev.all fun k => implOps k (by omega)) (Ev.bind hc h2)
/-! ### the code of a function -/
def domsB (f : tFuncD) : Bool := (idx (reachB f.2.2.1 (-1)) 0).all fun b => blkS f b (f.2.2.1.getD b.toNat tBlockZ)
theorem all_idx (p : Int → Bool) : ∀ (l : List Bool) (i : Nat), (idx l (i : Int)).all p = allI (fun j x => !x || p (j : Int)) l i
  | [], i => rfl
  | x :: l, i => by
    have ih := all_idx p l (i + 1)
    simp only [idx, allI]
    rw [show ((i : Int) + 1) = ((i + 1 : Nat) : Int) by omega]
    cases x with
    | true => rw [if_pos rfl, List.all_cons, ih]; rfl
    | false => rw [if_neg (by decide), ih]; rfl
def code (m : List tFuncD) (f : tFuncD) : Int :=
  bif entryB f then (bif allI (phiN f) f.2.2.1 0 then (bif f.2.2.1.all (blkW f) then (bif f.2.2.1.all (fun x => x.2.1.all (callB m f)) then (bif domsB f then 0 else 6) else 5) else 4) else 3) else 2
theorem Ev.cndn {R : Type} {g h : Nat → Option R} {b : Bool} {x y : R} (hg : b = true → Ev g x) (hh : b = false → Ev h y) : Ev (fun k => bif !b then h k else g k) (bif b then x else y) := by
  cases b with
  | true => exact Ev.neg rfl (hg rfl)
  | false => exact Ev.pos rfl (hh rfl)
theorem one_cnd {b : Bool} {x y : Int} : one (bif b then x else y) = bif b then one x else one y := by cases b <;> rfl
variable {m : List tFuncD}
theorem specFn (hm : ∀ g ∈ m, g.1.length ≤ 4) (hf : Fm (m.length : Int) f) : Ev (fun k => spec_l4Func.f k (m, ()) f) (one (code m f)) := by
  have hb1 := hf.b1
  unfold spec_l4Func.f code
  refine Ev.bind (specPreds hf.b10 0) ?_
  have rest : Ev (R := IR) (fun k => Option.bind (spec_l4Phis.f k f) fun r2 => bif !r2.1.1.1 then some (((3, ()), ()), ()) else Option.bind (spec_l4Types.f k f) fun r3 => bif !r3.1.1.1 then some (((4, ()), ()), ()) else Option.bind (spec_l4Calls.f k (m, ()) f) fun r4 => bif !r4.1.1.1 then some (((5, ()), ()), ()) else Option.bind (spec_l4Doms.f k f) fun r5 => bif !r5.1.1.1 then some (((6, ()), ()), ()) else some (((0, ()), ()), ()))
      (one (bif allI (phiN f) f.2.2.1 0 then (bif f.2.2.1.all (blkW f) then (bif f.2.2.1.all (fun x => x.2.1.all (callB m f)) then (bif domsB f then (0 : Int) else 6) else 5) else 4) else 3)) := by
    rw [one_cnd]
    refine Ev.bind (specArePhis hf) (Ev.cndn (fun hN => ?_) fun _ => Ev.cst rfl)
    rw [one_cnd]
    refine Ev.bind (specTypes hf) (Ev.cndn (fun _ => ?_) fun _ => Ev.cst rfl)
    rw [one_cnd]
    refine Ev.bind (specCalls hm hf) (Ev.cndn (fun _ => ?_) fun _ => Ev.cst rfl)
    rw [one_cnd]
    exact Ev.bind (specDoms hf hN) (Ev.cndn (fun _ => Ev.cst rfl) fun _ => Ev.cst rfl)
  unfold entryB
  by_cases h0 : (preds f 0).length = 0
  · rw [dpos h0, Bool.and_true]
    refine Ev.neg (dneg (show ¬ (0 < (((preds f 0).length : Nat) : Int)) by omega)) (Ev.dd (by omega) (by omega) ?_)
    by_cases h1 : (f.2.2.1.getD 0 tBlockZ).1.length = 0
    · rw [dpos h1]
      exact Ev.dn (by omega) rest
    · rw [dneg h1]
      exact Ev.dp (by omega) (Ev.cst rfl)
  · rw [dneg h0, Bool.and_false]
    exact Ev.pos (dpos (show 0 < (((preds f 0).length : Nat) : Int) by omega)) (Ev.cst rfl)
theorem implFn (hs : Small tFunc f) (hm : ∀ g ∈ m, g.1.length ≤ 4) (hf : Fm (m.length : Int) f) : Ev (fun k => impl_checked.f k (m, ()) f) (one (code m f)) := by
  have hb1 := hf.b1
  have h10 := hf.b10
  unfold impl_checked.f code
  rw [one_cnd]
  refine Ev.bind (implEntry hb1 h10) (Ev.cndn (fun _ => ?_) fun _ => Ev.cst rfl)
  rw [one_cnd]
  refine Ev.bind (implArePhis hs h10) (Ev.cndn (fun hN => ?_) fun _ => Ev.cst rfl)
  rw [one_cnd]
  refine Ev.bind (implTypes hs hf) (Ev.cndn (fun _ => ?_) fun _ => Ev.cst rfl)
  -- the blocks that are reached
  have hml := reachB_length f.2.2.1 (-1)
  have l1 := Ev.down (G := fun i k => impl_checked.l1 k ((List.length (reachB f.2.2.1 (-1)) : Nat) : Int) (i : Int) f (reachB f.2.2.1 (-1))) (V := fun i => one (bif allI (fun j x => !x || blkS f (j : Int) (f.2.2.1.getD (Int.toNat (j : Int)) tBlockZ)) ((reachB f.2.2.1 (-1)).drop i) i then (0 : Int) else 6)) (reachB f.2.2.1 (-1)).length ?_ ?_ 0 (Nat.zero_le _)
  · have l1' : Ev (fun k => impl_checked.l1 k ((List.length (reachB f.2.2.1 (-1)) : Nat) : Int) 0 f (reachB f.2.2.1 (-1))) (one (bif domsB f then (0 : Int) else 6)) := by
      refine Ev.rw l1 ?_
      have e : domsB f = allI (fun j x => !x || blkS f (j : Int) (f.2.2.1.getD (Int.toNat (j : Int)) tBlockZ)) (reachB f.2.2.1 (-1)) 0 := all_idx (fun b => blkS f b (f.2.2.1.getD b.toNat tBlockZ)) (reachB f.2.2.1 (-1)) 0
      rw [e]; rfl
    exact each_ev (z := tBlockZ) (l := f.2.2.1) (L := fun k a => impl_checked.l0 k f.2.2.1 ((List.length f.2.2.1 : Nat) : Int) a m f) (V := fun l => one (bif l.all (fun x => x.2.1.all (callB m f)) then (bif domsB f then (0 : Int) else 6) else 5)) (q := fun k x g => Option.bind (slices_ContainsFunc_impl_Inst_impl_Inst_3.f k x.2.1 m f) fun r1 => bif r1.1.1.1 then some (((5, ()), ()), ()) else g k)
      (by omega) (fun k a => rfl) (Ev.bind (implReach_ev f (-1) hf.there (by omega)) l1') fun x l g hx hg => by
        refine Ev.bind (implCalls hs hm hf hx) ?_
        rw [List.all_cons]
        cases x.2.1.all (callB m f) with
        | true => rw [Bool.true_and]; exact Ev.neg rfl hg
        | false => exact Ev.pos rfl (Ev.cst rfl)
  · rw [List.drop_length]
    refine Ev.step (g' := fun _ => some (one (0 : Int))) (Ev.cst rfl) fun k => ?_
    show impl_checked.l1_ k (impl_checked.l0 k) (impl_checked.l1 k) _ _ f _ = _
    unfold impl_checked.l1_
    simp only [head_end, cond_false]
  · intro i hi ih
    have hib : i < f.2.2.1.length := by omega
    rw [List.drop_eq_getElem_cons hi]
    refine Ev.succ ?_
    show Ev (fun k => impl_checked.l1_ k (impl_checked.l0 k) (impl_checked.l1 k) _ _ f _) _
    unfold impl_checked.l1_ allI
    simp only [head_in hi, head_0, Bool.and_self, cond_true, get_in hi, wrap_nat (show i < 9223372036854775807 by omega)]
    cases hmk : (reachB f.2.2.1 (-1))[i] with
    | false =>
      rw [Bool.not_false, Bool.true_or, Bool.true_and]
      exact Ev.neg rfl ih
    | true =>
      rw [Bool.not_true, Bool.false_or]
      refine Ev.pos rfl (Ev.bind (implBlk hs hf hN hib) ?_)
      rw [get_in hib]
      cases blkS f (i : Int) f.2.2.1[i] with
      | true => rw [Bool.true_and]; exact Ev.neg rfl ih
      | false => exact Ev.pos rfl (Ev.cst rfl)
end
/-! ### modules -/
def codeK (m : tModuleD) (k : Int) : Int := bif shapeB m then (bif inB 0 ((m.1.length : Int) - 1) k then code m.1 (m.1.getD k.toNat tFuncZ) else 1) else 1
theorem shape_fm {m : tModuleD} (h : shapeB m = true) : (∀ f ∈ m.1, Fm (m.1.length : Int) f) ∧ ∀ g ∈ m.1, g.1.length ≤ 4 := by
  simp only [shapeB, Bool.and_eq_true, List.all_eq_true] at h
  have h1 : ∀ f ∈ m.1, Fm (m.1.length : Int) f := fun f hf => Fm.of (h.2 f hf)
  exact ⟨h1, fun g hg => (h1 g hg).p4⟩
theorem specK {m : tModuleD} (hs : Small tModule m) (n : Int) : Ev (fun k => spec_FuncChecked.f k m n) (one (codeK m n)) := by
  have hlen : m.1.length ≤ 1048576 := hs.1.1
  unfold spec_FuncChecked.f codeK
  rw [one_cnd]
  refine Ev.bind (specShape (m := (m.1, ())) hs) (Ev.cndn (fun h => ?_) fun _ => Ev.cst rfl)
  obtain ⟨h1, h2⟩ := shape_fm h
  rw [one_cnd, wrap_id (by omega) (by omega)]
  refine Ev.bind (Ev.all fun k => specIn k _ _ _) (Ev.cndn (fun hin => ?_) fun _ => Ev.cst rfl)
  rw [inB_iff] at hin
  have hlt : n.toNat < m.1.length := by omega
  refine Ev.dd hin.1 (by omega) ?_
  rw [getD_at _ _ _ hlt]
  exact Ev.bind (specFn h2 (h1 _ (List.getElem_mem hlt))) (Ev.cst rfl)
theorem implK {m : tModuleD} (hs : Small tModule m) (n : Int) : Ev (fun k => impl_FuncChecked.f k m n) (one (codeK m n)) := by
  have hlen : m.1.length ≤ 1048576 := hs.1.1
  unfold impl_FuncChecked.f codeK
  rw [one_cnd]
  refine Ev.bind (implShape (m := (m.1, ())) hs) (Ev.cndn (fun h => ?_) fun _ => Ev.cst rfl)
  obtain ⟨h1, h2⟩ := shape_fm h
  rw [one_cnd, wrap_id (by omega) (by omega)]
  refine Ev.bind (Ev.all fun k => implIn k _ _ _) (Ev.cndn (fun hin => ?_) fun _ => Ev.cst rfl)
  rw [inB_iff] at hin
  have hlt : n.toNat < m.1.length := by omega
  refine Ev.dd hin.1 (by omega) ?_
  rw [getD_at _ _ _ hlt]
  exact Ev.bind (implFn (hs.1.2 _ (List.getElem_mem hlt)) h2 (h1 _ (List.getElem_mem hlt))) (Ev.cst rfl)
end Go.Proofs.YtebgkcjpocfmmaaGreat.V
namespace Go.Proofs.YtebgkcjpocfmmaaGreat.V
open Go
theorem PureFnExactFuncChecked : ∀ (a0 : tModuleD) (a1 : Int), Wf tModule a0 → Wf (.int .i64) a1 → ∃ k, laws_FnExactFuncChecked.f k a0 a1 = some (((true, ()), ()), ()) := by
  intro a n hw _
  refine Ev.ex (g := fun k => laws_FnExactFuncChecked.f k a n) ?_
  unfold laws_FnExactFuncChecked.f
  refine law_frame hw fun h => ?_
  refine Ev.bind (toModule h) (Ev.bind (specK h n) (Ev.bind (toModule h) (Ev.bind (implK h n) (Ev.neg ?_ (law_end h)))))
  simp
end Go.Proofs.YtebgkcjpocfmmaaGreat.V
