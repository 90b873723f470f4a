/- PROVED HERE: what the functions that the law FnExactShapeOk reaches do in memory, each as a plain Lean function, and what these tell: part 4 of 5 of the proof of that law; no condition beyond those written out at each theorem. -/
import Derived.Test.YtkfehogikjcgkaaZFnExactShapeOk2
namespace Go.Proofs.Ytkfehogikjcgkaa.V
open Go
set_option linter.unusedVariables false
set_option linter.unusedSimpArgs false
theorem any_not {α : Type} {p : α → Bool} : ∀ {l : List α}, (l.any fun x => !p x) = !l.all p
  | [] => rfl
  | x :: l => by simp only [List.any_cons, List.all_cons, any_not (l := l), Bool.not_and]
theorem implIn1 {l : List Int} (h : l.length ≤ 1048576) {count : Int} (h0 : 0 ≤ count) (h1 : count ≤ 9223372036854775807) : Ev (fun k => slices_ContainsFunc_int64_int64_3.f k l count) (one (!l.all (inB 0 (count - 1)))) := by
  rw [← any_not]
  exact index_ev (z := 0) (L := fun k b a => slices_IndexFunc_int64_int64_3.l0 k l b a count) (q := fun k x => impl_isInst_1.f k x count) (by omega) (fun k b a => rfl) fun x _ => Ev.all fun k => by
    unfold impl_isInst_1.f
    rw [implIn, wrap_id (by omega) (by omega)]; rfl
theorem implZero {l : List Int} (h : l.length ≤ 1048576) : Ev (fun k => slices_ContainsFunc_int64_int64_4.f k l) (one (!l.all fun n => decide (n = 0))) := by
  rw [← any_not]
  exact index_ev (z := 0) (L := fun k b a => slices_IndexFunc_int64_int64_4.l0 k l b a) (q := fun k x => impl_isInst_2.f k x) (by omega) (fun k b a => rfl) fun x _ => Ev.all fun k => rfl
theorem opsB_len {i : tInstD} (h : i.2.2.2.2.2.2.1.length ≤ 1048576) : (opsB i).length ≤ 1048576 := by
  unfold opsB
  cases inB 1 17 i.1 <;> cases decide (i.1 = 24) <;> cases inB 18 20 i.1 <;> cases decide (i.1 = 23) <;> cases decide (i.1 = 25) <;> cases decide (i.1 = 27) <;> cases decide (i.1 = 22) <;> cases decide (i.1 = 26) <;> simp only [cond_true, cond_false, List.length_cons, List.length_nil] <;> omega
theorem opsB_few {i : tInstD} (h : i.1 ≠ 26) : (opsB i).length ≤ 3 := by
  unfold opsB
  rw [dneg h]
  cases inB 1 17 i.1 <;> cases decide (i.1 = 24) <;> cases inB 18 20 i.1 <;> cases decide (i.1 = 23) <;> cases decide (i.1 = 25) <;> cases decide (i.1 = 27) <;> cases decide (i.1 = 22) <;> simp
theorem ev_and {g : Nat → Option BR} {b c : Bool} (h : Ev g (one c)) : Ev (fun k => bif !b then some (one false) else g k) (one (b && c)) := by
  cases b with
  | true => exact Ev.neg rfl h
  | false => exact Ev.pos rfl (Ev.cst rfl)
theorem ev_and' {g : Nat → Option BR} {b c : Bool} (h : Ev g (one c)) : Ev (fun k => bif b then some (one false) else g k) (one (!b && c)) := by
  cases b with
  | true => exact Ev.pos rfl (Ev.cst rfl)
  | false => exact Ev.neg rfl h
/-- What comes behind the operands, in the program. -/
theorem implTail {i : tInstD} {l : List Int} (hl : l.length ≤ 1048576) {funcs : Int} (h0 : 0 ≤ funcs) (h1 : funcs ≤ 9223372036854775807) : Ev (fun k => Option.bind (slices_ContainsFunc_int64_int64_4.f k l) fun r4 => bif r4.1.1.1 then some (((false, ()), ()), ()) else Option.bind (impl_isWidth.f k i) fun r5 => bif r5.1.1.1 then Option.bind (impl_isImm.f k i funcs) fun r6 => some (((r6.1.1.1, ()), ()), ()) else some (((false, ()), ()), ())) (one ((l.all fun n => decide (n = 0)) && widB i && immB i funcs)) := by
  refine Ev.bind (implZero hl) ?_
  cases l.all fun n => decide (n = 0) with
  | false => exact Ev.cst rfl
  | true =>
    refine Ev.all fun k => ?_
    simp only [implWid, implImm k i h0 h1, Option.bind_some]
    cases widB i <;> cases immB i funcs <;> rfl
theorem implInst {i : tInstD} (hs : i.2.2.2.2.2.2.1.length ≤ 1048576) {count funcs : Int} (h0 : 0 ≤ count) (h1 : count ≤ 9223372036854775807) (h2 : 0 ≤ funcs) (h3 : funcs ≤ 9223372036854775807) : Ev (fun k => impl_isInst.f k i count funcs) (one (instB count funcs i)) := by
  have rest : i.1 = 26 ∨ i.1 ≠ 26 → Ev (fun k => Option.bind (impl_OperandsOf.f k i) fun r2 => Option.bind (slices_ContainsFunc_int64_int64_3.f k r2.2.1 count) fun r3 => bif r3.1.1.1 then some (((false, ()), ()), ()) else
      bif decide (i.1 = 26) then (bif (decide ((0 : Int) ≤ 0)) && (decide ((0 : Int) ≤ ((List.length [i.2.2.1, i.2.2.2.1, i.2.2.2.2.1] : Nat) : Int))) then (Option.bind (slices_ContainsFunc_int64_int64_4.f k [i.2.2.1, i.2.2.2.1, i.2.2.2.2.1]) fun r4 => bif r4.1.1.1 then some (((false, ()), ()), ()) else Option.bind (impl_isWidth.f k i) fun r5 => bif r5.1.1.1 then Option.bind (impl_isImm.f k i funcs) fun r6 => some (((r6.1.1.1, ()), ()), ()) else some (((false, ()), ()), ())) else none)
      else (bif (decide (0 ≤ ((List.length r2.2.1 : Nat) : Int))) && (decide (((List.length r2.2.1 : Nat) : Int) ≤ ((List.length [i.2.2.1, i.2.2.2.1, i.2.2.2.2.1] : Nat) : Int))) then (Option.bind (slices_ContainsFunc_int64_int64_4.f k (List.drop (Int.toNat ((List.length r2.2.1 : Nat) : Int)) [i.2.2.1, i.2.2.2.1, i.2.2.2.2.1])) fun r4 => bif r4.1.1.1 then some (((false, ()), ()), ()) else Option.bind (impl_isWidth.f k i) fun r5 => bif r5.1.1.1 then Option.bind (impl_isImm.f k i funcs) fun r6 => some (((r6.1.1.1, ()), ()), ()) else some (((false, ()), ()), ())) else none))
      (one ((opsB i).all (inB 0 (count - 1)) && (zerosB i && widB i && immB i funcs))) := by
    intro hd
    refine Ev.bind (Ev.all fun k => implOps k hs) (Ev.bind (implIn1 (opsB_len hs) h0 h1) ?_)
    cases (opsB i).all (inB 0 (count - 1)) with
    | false => exact Ev.cst rfl
    | true =>
      rcases hd with hd | hd
      · refine Ev.neg rfl (Ev.pos (dpos hd) (Ev.pos rfl ?_))
        have := implTail (i := i) (l := [i.2.2.1, i.2.2.2.1, i.2.2.2.2.1]) (by simp) h2 h3
        refine this.rw ?_
        unfold zerosB named
        rw [dpos hd]; rfl
      · refine Ev.neg rfl (Ev.neg (dneg hd) (Ev.pos ?_ ?_))
        · have := opsB_few hd
          show (decide (0 ≤ ((opsB i).length : Int)) && decide (((opsB i).length : Int) ≤ 3)) = true
          rw [dpos (by omega), dpos (by omega)]; rfl
        · have := implTail (i := i) (l := List.drop (opsB i).length [i.2.2.1, i.2.2.2.1, i.2.2.2.2.1]) (by simp; omega) h2 h3
          refine this.rw ?_
          unfold zerosB named
          rw [dneg hd]; rfl
  have rest := rest (Decidable.em _)
  unfold impl_isInst.f
  refine Ev.bind (Ev.all fun k => implIn k _ _ _) ?_
  unfold instB
  generalize hz : ((opsB i).all (inB 0 (count - 1)) && (zerosB i && widB i && immB i funcs)) = zz at rest
  have hzz : ∀ b c d : Bool, (b && c && d && (opsB i).all (inB 0 (count - 1)) && zerosB i && widB i && immB i funcs) = (b && c && d && zz) := fun b c d => by rw [← hz]; simp only [Bool.and_assoc]
  rw [hzz]
  cases inB 1 27 i.1 with
  | false => exact Ev.pos rfl (Ev.cst rfl)
  | true =>
    refine Ev.neg rfl ?_
    by_cases h4 : 4 < ((i.2.2.2.2.2.2.1.length : Nat) : Int)
    · refine Ev.pos (dpos h4) (Ev.cst ?_)
      rw [dneg (show ¬ i.2.2.2.2.2.2.1.length ≤ 4 by omega)]; rfl
    · refine Ev.neg (dneg h4) ?_
      rw [dpos (show i.2.2.2.2.2.2.1.length ≤ 4 by omega)]
      by_cases h5 : 0 < ((i.2.2.2.2.2.2.1.length : Nat) : Int)
      · refine Ev.pos (dpos h5) ?_
        rw [dneg (show ¬ i.2.2.2.2.2.2.1.length = 0 by omega)]
        by_cases h6 : i.1 = 26
        · exact Ev.neg (by rw [dpos h6]; rfl) (rest.rw (by rw [dpos h6]; rfl))
        · exact Ev.pos (by rw [dneg h6]; rfl) (Ev.cst (by rw [dneg h6]; rfl))
      · refine Ev.neg (dneg h5) (rest.rw ?_)
        rw [dpos (show i.2.2.2.2.2.2.1.length = 0 by omega)]; rfl
/-! ### the specification's -/
theorem zeros_at {a b c : Int} : ∀ n : Nat, ([a, b, c].drop n).all (fun n => decide (n = 0)) = ((bif decide ((n : Int) < 1) then decide (a = 0) else true) && (bif decide ((n : Int) < 2) then decide (b = 0) else true) && (bif decide ((n : Int) < 3) then decide (c = 0) else true))
  | 0 => by simp [Bool.and_assoc]
  | 1 => by simp
  | 2 => by simp
  | n + 3 => by
    rw [dneg (show ¬ (((n + 3 : Nat) : Int) < 1) by omega), dneg (show ¬ (((n + 3 : Nat) : Int) < 2) by omega), dneg (show ¬ (((n + 3 : Nat) : Int) < 3) by omega)]
    simp
set_option synthInstance.maxHeartbeats 400000 in
set_option synthInstance.maxSize 100000 in
theorem specInst0 {i : tInstD} {ids : List Int} (hl : ids.length ≤ 1048576) {count funcs : Int} (h0 : 0 ≤ count) (h1 : count ≤ 9223372036854775807) (h2 : 0 ≤ funcs) (h3 : funcs ≤ 9223372036854775807) (hn : named i = bif decide (i.1 = 26) then 0 else ids.length) :
    Ev (fun k => spec_l2Inst.l0 k count funcs 0 i ids) (one (ids.all (inB 0 (count - 1)) && (decide (i.2.2.2.2.2.2.1.length ≤ 4) && zerosB i && widB i && immB i funcs))) := by
  refine each_ev (z := 0) (L := fun k a => spec_l2Inst.l0 k count funcs a i ids) (V := fun m => one (m.all (inB 0 (count - 1)) && (decide (i.2.2.2.2.2.2.1.length ≤ 4) && zerosB i && widB i && immB i funcs))) (q := fun k x g => Option.bind (spec_l1In.f k x 0 (IntKind.wrap .i64 (count - 1))) fun r1 => bif !r1.1.1.1 then some (((false, ()), ()), ()) else g k) (by omega) (fun k a => rfl) ?_ ?_
  · refine Ev.all fun k => ?_
    have hz : zerosB i = ((bif decide (((named i : Nat) : Int) < 1) then decide (i.2.2.1 = 0) else true) && (bif decide (((named i : Nat) : Int) < 2) then decide (i.2.2.2.1 = 0) else true) && (bif decide (((named i : Nat) : Int) < 3) then decide (i.2.2.2.2.1 = 0) else true)) := zeros_at _
    rw [hz, hn]
    simp only [specVal, specIn, specW, Option.bind_some, wrap_id (show -9223372036854775808 ≤ funcs - 1 by omega) (show funcs - 1 ≤ 9223372036854775807 by omega), List.all_nil, Bool.true_and]
    have h4 : decide (i.2.2.2.2.2.2.1.length ≤ 4) = !decide (4 < ((List.length i.2.2.2.2.2.2.1 : Nat) : Int)) := by
      by_cases h : 4 < ((List.length i.2.2.2.2.2.2.1 : Nat) : Int)
      · rw [dpos h, dneg (by omega)]; rfl
      · rw [dneg h, dpos (by omega)]; rfl
    rw [h4]
    unfold widB immB
    have fin : ∀ (o24 o25 o26 o21 o23 w0 w8 wk : Bool), decide (i.1 = 24) = o24 → decide (i.1 = 25) = o25 → decide (i.1 = 26) = o26 → decide (i.1 = 21) = o21 → decide (i.1 = 23) = o23 → decide (i.2.1 = 0) = w0 → decide (i.2.1 = 8) = w8 → wOk i.2.1 = wk →
        (o24 = true ∧ o25 = false ∧ o26 = false ∧ o21 = false ∧ o23 = false ∨ o24 = false ∧ o25 = true ∧ o26 = false ∧ o21 = false ∧ o23 = false ∨ o24 = false ∧ o25 = false ∧ o26 = true ∧ o21 = false ∧ o23 = false ∨ o24 = false ∧ o25 = false ∧ o26 = false ∧ o21 = true ∧ o23 = false ∨ o24 = false ∧ o25 = false ∧ o26 = false ∧ o21 = false ∧ o23 = true ∨ o24 = false ∧ o25 = false ∧ o26 = false ∧ o21 = false ∧ o23 = false) ∧
        (w0 = true ∧ w8 = false ∧ wk = false ∨ w0 = false ∧ w8 = true ∧ wk = true ∨ w0 = false ∧ w8 = false) := by
      rintro _ _ _ _ _ _ _ _ rfl rfl rfl rfl rfl rfl rfl rfl
      simp only [decide_eq_true_eq, decide_eq_false_iff_not]
      refine ⟨by omega, ?_⟩
      by_cases h : i.2.1 = 0
      · exact .inl ⟨h, by omega, by rw [h]; rfl⟩
      · by_cases h' : i.2.1 = 8
        · exact .inr (.inl ⟨h, h', by rw [h']; rfl⟩)
        · exact .inr (.inr ⟨h, h'⟩)
    have fin := fin _ _ _ _ _ _ _ _ rfl rfl rfl rfl rfl rfl rfl rfl
    clear hz h4 hn
    generalize decide (i.1 = 24) = o24 at fin ⊢
    generalize decide (i.1 = 25) = o25 at fin ⊢
    generalize decide (i.1 = 26) = o26 at fin ⊢
    generalize decide (i.1 = 21) = o21 at fin ⊢
    generalize decide (i.1 = 23) = o23 at fin ⊢
    generalize decide (i.2.1 = 0) = w0 at fin ⊢
    generalize decide (i.2.1 = 8) = w8 at fin ⊢
    generalize wOk i.2.1 = wk at fin ⊢
    have z1 : decide (((0 : Nat) : Int) < 1) = true := rfl
    have z2 : decide (((0 : Nat) : Int) < 2) = true := rfl
    have z3 : decide (((0 : Nat) : Int) < 3) = true := rfl
    have y1 : decide ((0 : Int) < 1) = true := rfl
    have y2 : decide ((0 : Int) < 2) = true := rfl
    have y3 : decide ((0 : Int) < 3) = true := rfl
    obtain ⟨f1, f2⟩ := fin
    rcases f1 with ⟨rfl, rfl, rfl, rfl, rfl⟩ | ⟨rfl, rfl, rfl, rfl, rfl⟩ | ⟨rfl, rfl, rfl, rfl, rfl⟩ | ⟨rfl, rfl, rfl, rfl, rfl⟩ | ⟨rfl, rfl, rfl, rfl, rfl⟩ | ⟨rfl, rfl, rfl, rfl, rfl⟩ <;> rcases f2 with ⟨rfl, rfl, rfl⟩ | ⟨rfl, rfl, rfl⟩ | ⟨rfl, rfl⟩ <;>
      simp only [cond_true, cond_false, z1, z2, z3, y1, y2, y3, beq_self_eq_true, Bool.not_true, Bool.not_false, Bool.or_true, Bool.or_false, Bool.and_false, Bool.false_and, Bool.true_and, Bool.and_true, show (true == false) = false from rfl, show (false == true) = false from rfl, Int.reduceLT, decide_true, decide_false] <;>
      generalize decide (4 < ((List.length i.2.2.2.2.2.2.1 : Nat) : Int)) = l4 <;>
      generalize decide (((ids.length : Nat) : Int) < 1) = n1 <;> generalize decide (((ids.length : Nat) : Int) < 2) = n2 <;> generalize decide (((ids.length : Nat) : Int) < 3) = n3 <;>
      generalize decide (i.2.2.1 = 0) = a <;> generalize decide (i.2.2.2.1 = 0) = b <;> generalize decide (i.2.2.2.2.1 = 0) = c <;> generalize decide (i.2.2.2.2.2.1 = 0) = m <;>
      generalize valB i.2.1 i.2.2.2.2.2.1 = va <;> generalize inB 0 (funcs - 1) i.2.2.2.2.2.1 = vb <;> revert l4 n1 n2 n3 a b c m va vb <;> (try revert wk) <;> decide +kernel
  · intro x m g hx hg
    refine Ev.bind (Ev.all fun k => specIn k _ _ _) ?_
    rw [wrap_id (by omega) (by omega), List.all_cons, Bool.and_assoc]
    exact ev_and hg
end Go.Proofs.Ytkfehogikjcgkaa.V
namespace Go.Proofs.Ytkfehogikjcgkaa.V
open Go
set_option linter.unusedVariables false
set_option linter.unusedSimpArgs false
theorem specInst {i : tInstD} (hs : i.2.2.2.2.2.2.1.length ≤ 1048576) {count funcs : Int} (h0 : 0 ≤ count) (h1 : count ≤ 9223372036854775807) (h2 : 0 ≤ funcs) (h3 : funcs ≤ 9223372036854775807) : Ev (fun k => spec_l2Inst.f k i count funcs) (one (instB count funcs i)) := by
  have hn : named i = bif decide (i.1 = 26) then 0 else (opsB i).length := rfl
  have l0 := specInst0 (opsB_len hs) h0 h1 h2 h3 hn
  unfold spec_l2Inst.f
  refine Ev.bind (Ev.all fun k => specIn k _ _ _) ?_
  unfold instB
  generalize hz : ((opsB i).all (inB 0 (count - 1))) = za at l0 ⊢
  cases inB 1 27 i.1 with
  | false => exact Ev.pos rfl (Ev.cst rfl)
  | true =>
    refine Ev.neg rfl ?_
    have done : ∀ b : Bool, b = true → Ev (fun k => Option.bind (spec_l2Operands.f k i) fun r3 => spec_l2Inst.l0 k count funcs 0 i r3.2.1) (one (true && decide (i.2.2.2.2.2.2.1.length ≤ 4) && b && za && zerosB i && widB i && immB i funcs)) := by
      rintro _ rfl
      refine (Ev.bind (f := fun k r3 => spec_l2Inst.l0 k count funcs 0 i r3.2.1) (Ev.all fun k => specOps k hs) l0).rw ?_
      generalize decide (i.2.2.2.2.2.2.1.length ≤ 4) = z4
      generalize zerosB i = z5
      generalize widB i = z6
      generalize immB i funcs = z7
      clear l0 hz
      revert za z4 z5 z6 z7
      decide
    by_cases h6 : i.1 = 26
    · exact Ev.neg (by rw [dpos h6]; rfl) (done _ (by rw [dpos h6, Bool.or_true]))
    · refine Ev.pos (by rw [dneg h6]; rfl) ?_
      by_cases h5 : 0 < ((i.2.2.2.2.2.2.1.length : Nat) : Int)
      · refine Ev.pos (dpos h5) (Ev.cst ?_)
        rw [dneg (show ¬ i.2.2.2.2.2.2.1.length = 0 by omega), dneg h6]
        simp
      · exact Ev.neg (dneg h5) (done _ (by rw [dpos (show i.2.2.2.2.2.2.1.length = 0 by omega), Bool.true_or]))
/-! ### how many ids -/
def sumB {α : Type} (w : α → Int) : List α → Int
  | [] => 0
  | x :: l => w x + sumB w l
theorem sumB_le {α : Type} {w : α → Int} {m : Int} : ∀ {l : List α}, (∀ x ∈ l, 0 ≤ w x ∧ w x ≤ m) → 0 ≤ sumB w l ∧ sumB w l ≤ l.length * m
  | [], _ => by simp [sumB]
  | x :: l, h => by
    obtain ⟨a, b⟩ := sumB_le (l := l) fun y hy => h y (by simp [hy])
    obtain ⟨c, d⟩ := h x (by simp)
    simp only [sumB, List.length_cons]
    have : ((l.length + 1 : Nat) : Int) * m = l.length * m + m := by
      rw [Int.natCast_add, Int.add_mul]; simp
    omega
theorem acc_ev {α : Type} {l : List α} {w : α → Int} {L : Nat → Int → Int → Option IR} (hw : ∀ x ∈ l, 0 ≤ w x ∧ w x ≤ 2097152) (hlen : l.length ≤ 1048576)
    (h1 : ∀ k a (i : Nat) (h : i < l.length), L (k + 1) a (i : Int) = L k (IntKind.wrap .i64 (a + IntKind.wrap .i64 (w l[i]))) ((i + 1 : Nat) : Int)) (h2 : ∀ k a, L (k + 1) a (l.length : Int) = some (one a)) {a : Int} (ha : 0 ≤ a) (ha' : a ≤ 1048576) : Ev (fun k => L k a 0) (one (a + sumB w l)) := by
  have key : ∀ (d i : Nat) (a : Int), i + d = l.length → 0 ≤ a → a ≤ 1048576 + i * 2097152 → Ev (fun k => L k a (i : Int)) (one (a + sumB w (l.drop i))) := by
    intro d
    induction d with
    | zero =>
      intro i a hi h0 h3
      have hi' : i = l.length := by omega
      subst hi'
      rw [List.drop_length]
      exact Ev.step (g' := fun _ => some (one a)) (Ev.cst (by simp [sumB])) fun k => h2 k a
    | succ d ih =>
      intro i a hi h0 h3
      have hi' : i < l.length := by omega
      obtain ⟨w0, w1⟩ := hw l[i] (List.getElem_mem hi')
      have := ih (i + 1) (a + w l[i]) (by omega) (by omega) (by omega)
      refine (Ev.step this fun k => ?_).rw ?_
      · show L (k + 1) a (i : Int) = _
        rw [h1 k a i hi', wrap_id (x := w l[i]) (by omega) (by omega), wrap_id (by omega) (by omega)]
      · rw [List.drop_eq_getElem_cons hi']
        simp only [sumB]
        rw [Int.add_assoc]
  have := key l.length 0 a (by omega) ha (by omega)
  simpa using this
def cntB (f : tFuncD) : Int := (f.1.length : Int) + sumB (fun x : tBlockD => ((x.1.length : Nat) : Int) + ((x.2.1.length : Nat) : Int)) f.2.2.1
theorem blk_small {f : tFuncD} (h : Small tFunc f) : ∀ x ∈ f.2.2.1, x.1.length ≤ 1048576 ∧ x.2.1.length ≤ 1048576 := fun x hx => by
  have := h.2.2.1.2 x hx
  exact ⟨this.1.1, this.2.1.1⟩
theorem cntB_le {f : tFuncD} (h : Small tFunc f) : 0 ≤ cntB f ∧ cntB f ≤ 1048576 + 1048576 * 2097152 := by
  have h1 : f.1.length ≤ 1048576 := h.1.1
  have h2 : f.2.2.1.length ≤ 1048576 := h.2.2.1.1
  have := sumB_le (w := fun x : tBlockD => ((x.1.length : Nat) : Int) + ((x.2.1.length : Nat) : Int)) (m := 2097152) (l := f.2.2.1) fun x hx => by
    have := blk_small h x hx
    omega
  unfold cntB
  omega
theorem specCount {f : tFuncD} (h : Small tFunc f) : Ev (fun k => spec_CountOf.f k f) (one (cntB f)) := by
  have h1 : f.1.length ≤ 1048576 := h.1.1
  exact acc_ev (L := fun k a i => spec_CountOf.l0 k a i f) (l := f.2.2.1) (w := fun x : tBlockD => ((x.1.length : Nat) : Int) + ((x.2.1.length : Nat) : Int)) (fun x hx => by have := blk_small h x hx; omega) h.2.2.1.1 (fun k a i hi => by
      show spec_CountOf.l0_ k (spec_CountOf.l0 k) a i f = _
      unfold spec_CountOf.l0_
      have hlen : f.2.2.1.length ≤ 1048576 := h.2.2.1.1
      simp only [head_in hi, head_0, Bool.and_self, cond_true, get_in hi, wrap_nat (show i < 9223372036854775807 by omega)]) (fun k a => by
      show spec_CountOf.l0_ k (spec_CountOf.l0 k) a _ f = _
      unfold spec_CountOf.l0_
      simp only [head_end, cond_false]) (by omega) (by omega)
theorem implCount {f : tFuncD} (h : Small tFunc f) : Ev (fun k => impl_CountOf.f k f) (one (cntB f)) := by
  have h1 : f.1.length ≤ 1048576 := h.1.1
  exact acc_ev (L := fun k a i => impl_CountOf.l0 k a f.2.2.1 ((List.length f.2.2.1 : Nat) : Int) i) (l := f.2.2.1) (w := fun x : tBlockD => ((x.1.length : Nat) : Int) + ((x.2.1.length : Nat) : Int)) (fun x hx => by have := blk_small h x hx; omega) h.2.2.1.1 (fun k a i hi => by
      show impl_CountOf.l0_ k (impl_CountOf.l0 k) a f.2.2.1 _ i = _
      unfold impl_CountOf.l0_
      have hlen : f.2.2.1.length ≤ 1048576 := h.2.2.1.1
      simp only [head_in hi, head_0, Bool.and_self, cond_true, get_in hi, wrap_nat (show i < 9223372036854775807 by omega)]) (fun k a => by
      show impl_CountOf.l0_ k (impl_CountOf.l0 k) a f.2.2.1 _ _ = _
      unfold impl_CountOf.l0_
      simp only [head_end, cond_false]) (by omega) (by omega)
/-! ### functions -/
def phiB (count : Int) (p : tPhiD) : Bool := wOk p.1 && decide (p.2.1.length ≤ 10) && p.2.1.all (inB 0 (count - 1))
def blockB (count funcs blocks : Int) (b : tBlockD) : Bool := b.1.all (phiB count) && b.2.1.all (instB count funcs) && termB count blocks b.2.2
def funcB (funcs : Int) (f : tFuncD) : Bool :=
  decide (f.1.length ≤ 4) && wOk f.2.1 && inB 1 10 (f.2.2.1.length : Int) && decide (cntB f ≤ 60) && f.1.all wOk && f.2.2.1.all (blockB (cntB f) funcs (f.2.2.1.length : Int))
def shapeB (m : tModuleD) : Bool := inB 1 3 (m.1.length : Int) && m.1.all (funcB (m.1.length : Int))
section
variable {f : tFuncD} {funcs count blocks : Int}
theorem specFunc4 {x : tBlockD} (hx : Small tBlock x) (h0 : 0 ≤ count) (h1 : count ≤ 9223372036854775807) (h2 : 0 ≤ funcs) (h3 : funcs ≤ 9223372036854775807) (h4 : 0 ≤ blocks) (h5 : blocks ≤ 9223372036854775807) {j : Nat} (hj : j < 9223372036854775807) {r : Bool}
    (hr : Ev (fun k => spec_l2Func.l1 k funcs count blocks ((j + 1 : Nat) : Int) f) (one r)) : Ev (fun k => spec_l2Func.l4 k funcs count blocks j 0 f x) (one (x.2.1.all (instB count funcs) && (termB count blocks x.2.2 && r))) := by
  have hs := hx.2.1
  refine each_ev (z := tInstZ) (l := x.2.1) (L := fun k a => spec_l2Func.l4 k funcs count blocks j a f x) (V := fun m => one (m.all (instB count funcs) && (termB count blocks x.2.2 && r))) (q := fun k y g => Option.bind (spec_l2Inst.f k y count funcs) fun r1 => bif !r1.1.1.1 then some (((false, ()), ()), ()) else g k)
    (by have := hs.1; show List.length (α := tInstD) x.2.1 ≤ _; have : List.length (α := tInstD) x.2.1 ≤ 1048576 := this; omega) (fun k a => rfl) ?_ ?_
  · refine Ev.bind (Ev.all fun k => specTerm k x.2.2 h0 h1 h4 h5) ?_
    rw [wrap_nat hj, List.all_nil, Bool.true_and]
    exact ev_and hr
  · intro y m g hy hg
    refine Ev.bind (specInst (i := y) ((hs.2 y hy).2.2.2.2.2.2.1.1) h0 h1 h2 h3) ?_
    rw [List.all_cons, Bool.and_assoc]
    exact ev_and hg
theorem specFunc2 {x : tBlockD} (hx : Small tBlock x) (h0 : 0 ≤ count) (h1 : count ≤ 9223372036854775807) (h2 : 0 ≤ funcs) (h3 : funcs ≤ 9223372036854775807) (h4 : 0 ≤ blocks) (h5 : blocks ≤ 9223372036854775807) {j : Nat} (hj : j < 9223372036854775807) {r : Bool}
    (hr : Ev (fun k => spec_l2Func.l1 k funcs count blocks ((j + 1 : Nat) : Int) f) (one r)) : Ev (fun k => spec_l2Func.l2 k funcs count blocks j 0 f x) (one (blockB count funcs blocks x && r)) := by
  have hs := hx.1
  have hlen : x.1.length ≤ 1048576 := hs.1
  have tail := specFunc4 (f := f) hx h0 h1 h2 h3 h4 h5 hj hr
  have key := Ev.down (G := fun i k => spec_l2Func.l2 k funcs count blocks j (i : Int) f x) (V := fun i => one ((x.1.drop i).all (phiB count) && (x.2.1.all (instB count funcs) && (termB count blocks x.2.2 && r)))) x.1.length ?_ ?_ 0 (Nat.zero_le _)
  · refine key.rw ?_
    unfold blockB
    rw [List.drop_zero, Bool.and_assoc, Bool.and_assoc]
  · rw [List.drop_length]
    refine tail.step fun k => ?_
    show spec_l2Func.l2_ k (spec_l2Func.l0 k) (spec_l2Func.l1 k) (spec_l2Func.l2 k) (spec_l2Func.l3 k) (spec_l2Func.l4 k) funcs count blocks j _ f x = _
    unfold spec_l2Func.l2_
    simp only [head_end, cond_false]
  · intro i hi ih
    have hp := hs.2 x.1[i] (List.getElem_mem hi)
    have hpl : x.1[i].2.1.length ≤ 1048576 := hp.2.1.1
    -- the inner loop
    have inner := Ev.down (G := fun q k => spec_l2Func.l3 k funcs count blocks j i (q : Int) f x) (V := fun q => one ((x.1[i].2.1.drop q).all (inB 0 (count - 1)) && ((x.1.drop (i + 1)).all (phiB count) && (x.2.1.all (instB count funcs) && (termB count blocks x.2.2 && r))))) x.1[i].2.1.length ?_ ?_ 0 (Nat.zero_le _)
    · rw [List.drop_eq_getElem_cons hi, List.all_cons]
      refine Ev.step (g' := fun k => Option.bind (spec_WidthOk.f k x.1[i].1) fun r1 => bif !r1.1.1.1 then some (((false, ()), ()), ()) else bif decide (10 < ((List.length x.1[i].2.1 : Nat) : Int)) then some (((false, ()), ()), ()) else spec_l2Func.l3 k funcs count blocks j i 0 f x) ?_ fun k => ?_
      · refine Ev.bind (Ev.all fun k => specW k _) ?_
        have e1 : ∀ R, (phiB count x.1[i] && R) = (wOk x.1[i].1 && (!decide (10 < ((List.length x.1[i].2.1 : Nat) : Int)) && (x.1[i].2.1.all (inB 0 (count - 1)) && R))) := fun R => by
          have e : decide (x.1[i].2.1.length ≤ 10) = !decide (10 < ((List.length x.1[i].2.1 : Nat) : Int)) := by
            by_cases h : 10 < ((List.length x.1[i].2.1 : Nat) : Int)
            · rw [dpos h, dneg (by omega)]; rfl
            · rw [dneg h, dpos (by omega)]; rfl
          unfold phiB
          rw [e, Bool.and_assoc, Bool.and_assoc]
        rw [Bool.and_assoc, e1]
        refine ev_and ?_
        exact ev_and' inner
      · show spec_l2Func.l2_ k (spec_l2Func.l0 k) (spec_l2Func.l1 k) (spec_l2Func.l2 k) (spec_l2Func.l3 k) (spec_l2Func.l4 k) funcs count blocks j _ f x = _
        unfold spec_l2Func.l2_
        simp only [head_in hi, head_0, Bool.and_self, cond_true, get_in hi]
    · rw [List.drop_length, List.all_nil, Bool.true_and]
      refine ih.step fun k => ?_
      show spec_l2Func.l3_ k (spec_l2Func.l0 k) (spec_l2Func.l1 k) (spec_l2Func.l2 k) (spec_l2Func.l3 k) (spec_l2Func.l4 k) funcs count blocks j _ _ f x = _
      unfold spec_l2Func.l3_
      simp only [head_in hi, head_0, Bool.and_self, cond_true, get_in hi, head_end, cond_false, wrap_nat (show i < 9223372036854775807 by omega)]
    · intro q hq ihq
      rw [List.drop_eq_getElem_cons hq, List.all_cons, Bool.and_assoc]
      refine Ev.step (g' := fun k => Option.bind (spec_l1In.f k x.1[i].2.1[q] 0 (IntKind.wrap .i64 (count - 1))) fun r1 => bif !r1.1.1.1 then some (((false, ()), ()), ()) else spec_l2Func.l3 k funcs count blocks j i ((q + 1 : Nat) : Int) f x) ?_ fun k => ?_
      · rw [wrap_id (by omega) (by omega)]
        exact Ev.bind (Ev.all fun k => specIn k _ _ _) (ev_and ihq)
      · show spec_l2Func.l3_ k (spec_l2Func.l0 k) (spec_l2Func.l1 k) (spec_l2Func.l2 k) (spec_l2Func.l3 k) (spec_l2Func.l4 k) funcs count blocks j _ _ f x = _
        unfold spec_l2Func.l3_
        simp only [head_in hi, head_0, Bool.and_self, cond_true, get_in hi, head_in hq, get_in hq, wrap_nat (show q < 9223372036854775807 by omega)]
theorem specFunc1 (hf : Small tFunc f) (h0 : 0 ≤ count) (h1 : count ≤ 9223372036854775807) (h2 : 0 ≤ funcs) (h3 : funcs ≤ 9223372036854775807) (h4 : 0 ≤ blocks) (h5 : blocks ≤ 9223372036854775807) : Ev (fun k => spec_l2Func.l1 k funcs count blocks 0 f) (one (f.2.2.1.all (blockB count funcs blocks))) := by
  have hs := hf.2.2.1
  have hlen : f.2.2.1.length ≤ 1048576 := hs.1
  have key := Ev.down (G := fun i k => spec_l2Func.l1 k funcs count blocks (i : Int) f) (V := fun i => one ((f.2.2.1.drop i).all (blockB count funcs blocks))) f.2.2.1.length ?_ ?_ 0 (Nat.zero_le _)
  · exact key
  · rw [List.drop_length]
    refine Ev.step (g' := fun _ => some (one true)) (Ev.cst rfl) fun k => ?_
    show spec_l2Func.l1_ k (spec_l2Func.l0 k) (spec_l2Func.l1 k) (spec_l2Func.l2 k) (spec_l2Func.l3 k) (spec_l2Func.l4 k) funcs count blocks _ f = _
    unfold spec_l2Func.l1_
    simp only [head_end, cond_false]
  · intro i hi ih
    rw [List.drop_eq_getElem_cons hi, List.all_cons]
    refine (specFunc2 (f := f) (x := f.2.2.1[i]) (hs.2 _ (List.getElem_mem hi)) h0 h1 h2 h3 h4 h5 (show i < 9223372036854775807 by omega) ih).step fun k => ?_
    show spec_l2Func.l1_ k (spec_l2Func.l0 k) (spec_l2Func.l1 k) (spec_l2Func.l2 k) (spec_l2Func.l3 k) (spec_l2Func.l4 k) funcs count blocks _ f = _
    unfold spec_l2Func.l1_
    simp only [head_in hi, head_0, Bool.and_self, cond_true, get_in hi]
theorem le_not {a b : Int} : decide (a ≤ b) = !decide (b < a) := by
  by_cases h : b < a
  · rw [dpos h, dneg (by omega)]; rfl
  · rw [dneg h, dpos (by omega)]; rfl
theorem len_not {n m : Nat} : decide (n ≤ m) = !decide ((m : Int) < (n : Int)) := by
  by_cases h : (m : Int) < (n : Int)
  · rw [dpos h, dneg (by omega)]; rfl
  · rw [dneg h, dpos (by omega)]; rfl
theorem specFunc (hf : Small tFunc f) (h2 : 0 ≤ funcs) (h3 : funcs ≤ 9223372036854775807) : Ev (fun k => spec_l2Func.f k f funcs) (one (funcB funcs f)) := by
  have hs := hf.2.2.1
  have hlen : f.2.2.1.length ≤ 1048576 := hs.1
  have hpl : f.1.length ≤ 1048576 := hf.1.1
  obtain ⟨c0, c1⟩ := cntB_le hf
  unfold spec_l2Func.f funcB
  simp only [Bool.and_assoc]
  refine Ev.bind (specCount hf) ?_
  rw [len_not]
  refine ev_and' (Ev.bind (Ev.all fun k => specW k _) (ev_and (Ev.bind (Ev.all fun k => specIn k _ _ _) (ev_and ?_))))
  rw [le_not]
  refine ev_and' ?_
  exact each_ev (z := 0) (l := f.1) (L := fun k a => spec_l2Func.l0 k funcs (cntB f) (f.2.2.1.length : Int) a f) (V := fun m => one (m.all wOk && f.2.2.1.all (blockB (cntB f) funcs (f.2.2.1.length : Int)))) (q := fun k y g => Option.bind (spec_WidthOk.f k y) fun r1 => bif !r1.1.1.1 then some (((false, ()), ()), ()) else g k)
    (by omega) (fun k a => rfl) (specFunc1 hf c0 (by omega) h2 h3 (by omega) (by omega)) fun y m g hy hg => by
      refine Ev.bind (Ev.all fun k => specW k _) ?_
      rw [List.all_cons, Bool.and_assoc]
      exact ev_and hg
end
theorem specShape {m : tModuleD} (hm : Small tModule m) : Ev (fun k => spec_ShapeOk.f k m) (one (shapeB m)) := by
  have hs := hm.1
  have hlen : m.1.length ≤ 1048576 := hs.1
  unfold spec_ShapeOk.f shapeB
  refine Ev.bind (Ev.all fun k => specIn k _ _ _) (ev_and ?_)
  exact each_ev (z := tFuncZ) (l := m.1) (L := fun k a => spec_ShapeOk.l0 k a m.1) (V := fun l => one (l.all (funcB (m.1.length : Int)))) (q := fun k y g => Option.bind (spec_l2Func.f k y ((List.length m.1 : Nat) : Int)) fun r1 => bif !r1.1.1.1 then some (((false, ()), ()), ()) else g k)
    (by omega) (fun k a => rfl) (Ev.cst rfl) fun y l g hy hg => by
      refine Ev.bind (specFunc (hs.2 y hy) (by omega) (by omega)) ?_
      rw [List.all_cons]
      exact ev_and hg
end Go.Proofs.Ytkfehogikjcgkaa.V
namespace Go.Proofs.Ytkfehogikjcgkaa.V
open Go
set_option linter.unusedVariables false
set_option linter.unusedSimpArgs false
theorem implWs {l : List Int} (h : l.length ≤ 1048576) : Ev (fun k => slices_ContainsFunc_int64_int64.f k l) (one (!l.all wOk)) := by
  rw [← any_not]
  exact index_ev (z := 0) (L := fun k b a => slices_IndexFunc_int64_int64.l0 k l b a) (q := fun k x => impl_isFunc_1.f k x) (by omega) (fun k b a => rfl) fun x _ => Ev.all fun k => by
    unfold impl_isFunc_1.f
    rw [implW]; rfl
theorem implIds {l : List Int} (h : l.length ≤ 1048576) {count : Int} (h0 : 0 ≤ count) (h1 : count ≤ 9223372036854775807) : Ev (fun k => slices_ContainsFunc_int64_int64_2.f k l count) (one (!l.all (inB 0 (count - 1)))) := by
  rw [← any_not]
  exact index_ev (z := 0) (L := fun k b a => slices_IndexFunc_int64_int64_2.l0 k l b a count) (q := fun k x => impl_isFunc_2_1.f k x count) (by omega) (fun k b a => rfl) fun x _ => Ev.all fun k => by
    unfold impl_isFunc_2_1.f
    rw [implIn, wrap_id (by omega) (by omega)]; rfl
theorem ev_nt {g : Nat → Option BR} {b c : Bool} (h : Ev g (one (!c))) : Ev (fun k => bif !b then some (one true) else g k) (one (!(b && c))) := by
  cases b with
  | true => exact Ev.neg rfl h
  | false => exact Ev.pos rfl (Ev.cst rfl)
theorem ev_nt' {g : Nat → Option BR} {b c : Bool} (h : Ev g (one (!c))) : Ev (fun k => bif b then some (one true) else g k) (one (!(!b && c))) := by
  cases b with
  | true => exact Ev.pos rfl (Ev.cst rfl)
  | false => exact Ev.neg rfl h
theorem implPhi {p : tPhiD} (hp : Small tPhi p) {count : Int} (h0 : 0 ≤ count) (h1 : count ≤ 9223372036854775807) : Ev (fun k => impl_isFunc_2.f k p count) (one (!phiB count p)) := by
  have hl : p.2.1.length ≤ 1048576 := hp.2.1.1
  unfold impl_isFunc_2.f phiB
  rw [Bool.and_assoc, len_not]
  exact Ev.bind (Ev.all fun k => implW k _) (ev_nt (ev_nt' (Ev.bind (implIds hl h0 h1) (Ev.cst rfl))))
theorem implPhis {l : List tPhiD} (hs : Small (.list tPhi) l) {count : Int} (h0 : 0 ≤ count) (h1 : count ≤ 9223372036854775807) : Ev (fun k => slices_ContainsFunc_impl_Phi_impl_Phi.f k l count) (one (!l.all (phiB count))) := by
  have hl : l.length ≤ 1048576 := hs.1
  rw [← any_not]
  exact index_ev (z := tPhiZ) (L := fun k b a => slices_IndexFunc_impl_Phi_impl_Phi.l0 k l b a count) (q := fun k x => impl_isFunc_2.f k x count) (by omega) (fun k b a => rfl) fun x hx => implPhi (hs.2 x hx) h0 h1
theorem implInsts {l : List tInstD} (hs : Small (.list tInst) l) {count funcs : Int} (h0 : 0 ≤ count) (h1 : count ≤ 9223372036854775807) (h2 : 0 ≤ funcs) (h3 : funcs ≤ 9223372036854775807) : Ev (fun k => slices_ContainsFunc_impl_Inst_impl_Inst.f k l count funcs) (one (!l.all (instB count funcs))) := by
  have hl : l.length ≤ 1048576 := hs.1
  rw [← any_not]
  refine index_ev (z := tInstZ) (L := fun k b a => slices_IndexFunc_impl_Inst_impl_Inst.l0 k l b a count funcs) (q := fun k x => impl_isFunc_3.f k x count funcs) (by omega) (fun k b a => rfl) fun x hx => ?_
  exact Ev.bind (implInst (i := x) ((hs.2 x hx).2.2.2.2.2.2.1.1) h0 h1 h2 h3) (Ev.cst rfl)
theorem implFunc {f : tFuncD} (hf : Small tFunc f) {funcs : Int} (h2 : 0 ≤ funcs) (h3 : funcs ≤ 9223372036854775807) : Ev (fun k => impl_isFunc.f k f funcs) (one (funcB funcs f)) := by
  have hs := hf.2.2.1
  have hlen : f.2.2.1.length ≤ 1048576 := hs.1
  have hpl : f.1.length ≤ 1048576 := hf.1.1
  obtain ⟨c0, c1⟩ := cntB_le hf
  have c1 : cntB f ≤ 9223372036854775807 := by omega
  have hord : funcB funcs f = (!decide (((4 : Nat) : Int) < ((f.1.length : Nat) : Int)) && (wOk f.2.1 && (inB 1 10 (f.2.2.1.length : Int) && (f.1.all wOk && (!decide (60 < cntB f) && f.2.2.1.all (blockB (cntB f) funcs (f.2.2.1.length : Int))))))) := by
    unfold funcB
    rw [len_not, le_not]
    generalize decide (((4 : Nat) : Int) < ((f.1.length : Nat) : Int)) = a
    generalize decide (60 < cntB f) = b
    generalize f.1.all wOk = c
    cases a <;> cases b <;> cases c <;> simp [Bool.and_assoc]
  rw [hord]
  unfold impl_isFunc.f
  refine ev_and' (Ev.bind (Ev.all fun k => implW k _) (ev_and (Ev.bind (Ev.all fun k => implIn k _ _ _) (ev_and (Ev.bind (implWs hpl) ?_)))))
  have inner : Ev (fun k => Option.bind (impl_CountOf.f k f) fun r4 => bif decide (60 < r4.1.1.1) then some (((false, ()), ()), ()) else impl_isFunc.l0 k f.2.2.1 ((List.length f.2.2.1 : Nat) : Int) 0 f funcs r4.1.1.1) (one (!decide (60 < cntB f) && f.2.2.1.all (blockB (cntB f) funcs (f.2.2.1.length : Int)))) := by
    refine Ev.bind (implCount hf) (ev_and' ?_)
    refine each_ev (z := tBlockZ) (l := f.2.2.1) (L := fun k a => impl_isFunc.l0 k f.2.2.1 ((List.length f.2.2.1 : Nat) : Int) a f funcs (cntB f)) (V := fun m => one (m.all (blockB (cntB f) funcs (f.2.2.1.length : Int))))
      (q := fun k x g => Option.bind (slices_ContainsFunc_impl_Phi_impl_Phi.f k x.1 (cntB f)) fun r1 => bif r1.1.1.1 then some (((false, ()), ()), ()) else Option.bind (slices_ContainsFunc_impl_Inst_impl_Inst.f k x.2.1 (cntB f) funcs) fun r2 => bif r2.1.1.1 then some (((false, ()), ()), ()) else Option.bind (impl_isTerm.f k f x.2.2 (cntB f)) fun r3 => bif !r3.1.1.1 then some (((false, ()), ()), ()) else g k)
      (by omega) (fun k a => rfl) (Ev.cst rfl) fun x m g hx hg => ?_
    have hx' := hs.2 x hx
    have hb : (blockB (cntB f) funcs (f.2.2.1.length : Int) x && m.all (blockB (cntB f) funcs (f.2.2.1.length : Int))) = (!(!x.1.all (phiB (cntB f))) && (!(!x.2.1.all (instB (cntB f) funcs)) && (termB (cntB f) (f.2.2.1.length : Int) x.2.2 && m.all (blockB (cntB f) funcs (f.2.2.1.length : Int))))) := by
      have e : blockB (cntB f) funcs (f.2.2.1.length : Int) x = (x.1.all (phiB (cntB f)) && x.2.1.all (instB (cntB f) funcs) && termB (cntB f) (f.2.2.1.length : Int) x.2.2) := rfl
      rw [e, Bool.not_not, Bool.not_not, Bool.and_assoc, Bool.and_assoc]
    rw [List.all_cons, hb]
    exact Ev.bind (implPhis hx'.1 c0 c1) (ev_and' (Ev.bind (implInsts hx'.2.1 c0 c1 h2 h3) (ev_and' (Ev.bind (Ev.all fun k => implTerm k x.2.2 hlen c0 c1) (ev_and hg)))))
  have := ev_and' (b := !f.1.all wOk) inner
  rw [Bool.not_not] at this
  exact this
theorem implFuncs {l : List tFuncD} (hs : Small (.list tFunc) l) {funcs : Int} (h2 : 0 ≤ funcs) (h3 : funcs ≤ 9223372036854775807) : Ev (fun k => slices_ContainsFunc_impl_Func_impl_Func.f k l funcs) (one (!l.all (funcB funcs))) := by
  have hl : l.length ≤ 1048576 := hs.1
  rw [← any_not]
  refine index_ev (z := tFuncZ) (L := fun k b a => slices_IndexFunc_impl_Func_impl_Func.l0 k l b a funcs) (q := fun k x => impl_ShapeOk_1.f k x funcs) (by omega) (fun k b a => rfl) fun x hx => ?_
  exact Ev.bind (implFunc (hs.2 x hx) h2 h3) (Ev.cst rfl)
theorem implShape {m : tModuleD} (hm : Small tModule m) : Ev (fun k => impl_ShapeOk.f k m) (one (shapeB m)) := by
  have hlen : m.1.length ≤ 1048576 := hm.1.1
  unfold impl_ShapeOk.f shapeB
  refine Ev.bind (Ev.all fun k => implIn k _ _ _) ?_
  cases inB 1 3 (m.1.length : Int) with
  | false => exact Ev.neg rfl (Ev.cst rfl)
  | true => exact Ev.pos rfl (Ev.bind (implFuncs hm.1 (by omega) (by omega)) (Ev.cst (by show some (one (!(!_))) = _; rw [Bool.not_not, Bool.true_and])))
end Go.Proofs.Ytkfehogikjcgkaa.V
namespace Go.Proofs.Ytkfehogikjcgkaa.V
open Go
theorem PureFnExactShapeOk : ∀ (a0 : tModuleD), Wf tModule a0 → ∃ k, laws_FnExactShapeOk.f k a0 = some (((true, ()), ()), ()) := by
  intro a hw
  refine Ev.ex (g := fun k => laws_FnExactShapeOk.f k a) ?_
  unfold laws_FnExactShapeOk.f
  refine law_frame hw fun h => ?_
  refine Ev.bind (toModule h) (Ev.bind (specShape h) (Ev.bind (toModule h) (Ev.bind (implShape h) (Ev.neg ?_ (law_end h)))))
  simp
end Go.Proofs.Ytkfehogikjcgkaa.V
