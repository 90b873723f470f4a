/- PROVED HERE: what the functions that the law FnExactNeeded reaches do in memory, each as a plain Lean function, and what these tell: part 3 of 5 of the proof of that law; no condition beyond those written out at each theorem. -/
import Derived.Lib.SliceRun
import Derived.Test.YtkfehogikjcgkaaZFnExactNeeded1
namespace Go.Proofs.Ytkfehogikjcgkaa.V
open Go
set_option linter.unusedVariables false
set_option linter.unusedSimpArgs false
section
variable {P : Program} {tab : Tab} {E : Ents} {B : Base} {R : Type} {r : R}
theorem piece (hm : P.follows .mixedOrders = true) (hT : TabOK P tab) (hE : EntsOK P E) {c : Code} {g : Gh} {env : Env} {H : Heap} {a : Act} {w : World} {K : Ex → Env → Heap → Option R} {Q : Exit → Act → World → Prop}
    (hw : wfC B.n c = true) (h0 : nloops c = 0) (hK : KQ B r K Q) (Rl : Rel B g env H a w) (h : exec tab E [] c 0 env H K = some r) : c.wp P Q a w :=
  exec_sound (LS_ := []) (k := 0) hT hE (draw_ok hm hT hE) (fun n L h => by simp at h) c 0 K Q g env H a w hw hK (fun n h1 h2 => by omega) Rl h
/-- One operation that compares a slice with nil. -/
theorem nil_op {o : Oper} {t e ty : TypeId} {s d : Nat} {w : World} {a : Act} {N : Act → World → Prop} {Q : Exit → Act → World → Prop} {A : Option Addr} {n c : Nat} (hop : o.op = .binOp .eql t (.tmp s) (.const (.slice none 0 0)) ty) (hd : o.dst = some d) (hu : P.underlying t = some (.slice e))
    (hs : a.tmps.getD s undef = .slice A n c) (hN : N (a.put (some d) (.bool A.isNone)) w) : o.wp P a w N Q := by
  have hev : a.eval (.tmp s) = .slice A n c := by
    rw [← hs]; rfl
  have h2 : (execOp a.eval o).run P w = .ok (.value (.bool A.isNone)) w := by
    unfold execOp
    simp only [hop, hev]
    have h3 : a.eval (.const (.slice none 0 0)) = .slice none 0 0 := rfl
    rw [h3]
    have h4 := Lib.run_eql_slice_nil (P := P) w t e A n c 0 0 hu
    simp [eqGuard, h4]
  unfold Oper.wp
  rw [h2]
  show N (a.put o.dst (.bool A.isNone)) w
  rw [hd]
  exact hN
abbrev CloneR := (DenV [⟨false, [.own 100]⟩] × DenO [(100, .row true (.int .i64))])
def cloneF (a : List Int) : Option CloneR := bif decide ((0 + a.length) * 8 ≤ 140737488355328) then some ((((), ()), ()), (a, ())) else none
def cloneS : FS := ⟨[⟨false, [.lst (.int .i64)]⟩], [], false, [⟨false, [.own 100]⟩], [(100, .row true (.int .i64))], [], fun x => cloneF x.1.1.1⟩
abbrev lstV (xs : List Int) : V := .val false [.lst (.int .i64) xs]
theorem clone_sound (hm : P.follows .mixedOrders = true) (hT : TabOK P tab) {f : FuncId} {fn : Func} (hf : P.funcs[f]? = some fn) (hname : (fn.name == "runtime.NumGoroutine") = false) {o0 o1 : Oper} {Z0 Z2 Z3 : Array Oper} {i0 i1 i2 i3 : Nat} {t e ty : TypeId}
    (hb : fn.body = some (.seq (.region i0 Z0 false) (.seq (.seq (.region i1 #[o0, o1] false) (.cond (.tmp 4) (.seq (.region i2 Z2 false) .ret) .skip)) (.seq (.region i3 Z3 false) .ret))))
    (ht : cloneS.tup = !(Nat.beq fn.results.size 1)) (hn : fn.ntmps = 8) (hw0 : wfC 8 (.region i0 Z0 false) = true) (hw2 : wfC 8 (.region i2 Z2 false) = true) (hw3 : wfC 8 (.region i3 Z3 false) = true)
    (hd0 : o0.dst = some 3) (hg0 : o0.guard = none) (hd1 : o1.dst = some 4) (hg1 : o1.guard = none) (hop : o1.op = .binOp .eql t (.tmp 3) (.const (.slice none 0 0)) ty) (hu : P.underlying t = some (.slice e))
    (m0 : ∀ (xs : List Int) (K : Ex → Env → Heap → Option (Ex × Env × Heap)), exec tab [] [] (.region i0 Z0 false) 0 [(0, lstV xs)] [] K = K .normal [(2, .val false [.nil]), (0, lstV xs)] [])
    (m1 : ∀ (xs : List Int) (K : V → Heap → Option (V × Heap)), stepK tab [] [] o0 (ev [(2, .val false [.nil]), (0, lstV xs)]) K = K (lstV xs) [])
    (m2 : ∀ (xs : List Int) (K : Ex → Env → Heap → Option CloneR), exec tab [] [] (.seq (.region i2 Z2 false) .ret) 0 [(4, .val false [.bool true]), (3, lstV xs), (2, .val false [.nil]), (0, lstV xs)] [] K = K .ret [(2, .val false [.nil]), (4, .val false [.bool true]), (3, lstV xs), (2, .val false [.nil]), (0, lstV xs)] [])
    (m4 : ∀ (xs : List Int), fin tab fn cloneS .ret [(2, .val false [.nil]), (4, .val false [.bool true]), (3, lstV xs), (2, .val false [.nil]), (0, lstV xs)] [] = some ((((), ()), ()), (([] : List Int), ())))
    (m3 : ∀ (xs : List Int), exec tab [] [] (.seq (.region i3 Z3 false) .ret) 0 [(4, .val false [.bool false]), (3, lstV xs), (2, .val false [.nil]), (0, lstV xs)] [] (fin tab fn cloneS) = cloneF xs) : Sound P f cloneS := by
  refine ⟨⟨fn, hf, hname, by simp [hb]⟩, fun x y hy g w args hG hA => ?_⟩
  obtain ⟨⟨⟨xs, ⟨⟩⟩, ⟨⟩⟩, ⟨⟩⟩ := x
  have hy' : cloneF xs = some y := hy
  have hA0 := hA
  obtain ⟨v, vs, hargs, hv, hvs⟩ := hA
  have hvs' : vs = [] := hvs
  subst hvs'
  have hv' : RCs g [] w [.lst (.int .i64) xs] [v] := hv
  obtain ⟨v', vs', e1, hv1, hv2⟩ := hv'
  obtain ⟨e3, e4⟩ : v' = v ∧ vs' = [] := by simpa using e1.symm
  subst e3; subst e4
  obtain ⟨A, cp, e2, hcp, hel⟩ := hv1.2
  have hargs' : args = #[v'] := Array.toList_inj.1 (by simpa using hargs)
  subst hargs'
  refine calls_of_wp hf hb ?_
  have hsz : (#[v'] ++ Array.replicate (fn.ntmps - (#[v'] : Array Value).size) undef).size = 8 := by simp [hn]
  have Re : Rel ⟨w, g, [], 8, []⟩ g [(0, lstV xs)] [] { tmps := #[v'] ++ Array.replicate (fn.ntmps - (#[v'] : Array Value).size) undef, defers := [] } w :=
    { toRelG := hG, env := fun s u hs => envIn_rv (f := fun s => (#[v'] ++ Array.replicate (fn.ntmps - (#[v'] : Array Value).size) undef).getD s undef) (vs := [(false, [.lst (.int .i64) xs])]) hA0 (fun j v hj => by
            have hlt := (List.getElem?_eq_some_iff.1 hj).1
            rw [Array.length_toList] at hlt
            rw [Nat.zero_add, Array.getD_eq_getD_getElem?, Array.getElem?_append_left hlt, ← Array.getElem?_toList, hj]; rfl) s u hs,
          sz := hsz, df := rfl, fr := Ext.refl _ w, owB := fun b o h => .inl (by show g.ow b ≠ none; rw [h]; simp), FB := fun b h => .inl h, BF := fun b h => h, bs := fun b cur e fr h => ⟨cur, fr, h, rfl⟩,
          kp := fun j _ _ ob t n h1 h2 => ⟨ob, h1, h2, rfl⟩, kd := fun j ob _ h => ⟨ob, h, rfl, fun _ => rfl⟩ }
  have hK : KQ ⟨w, g, [], 8, []⟩ y (fin tab fn cloneS) (bodyPost P fn fun | .returned v, w' => ∃ g', Out cloneS (((xs, ()), ()), ()) y g w g' w' v | _, _ => False) := fin_sound (P := P) (s := cloneS) (x := (((xs, ()), ()), ())) hT ht
  generalize ({ tmps := #[v'] ++ Array.replicate (fn.ntmps - (#[v'] : Array Value).size) undef, defers := [] } : Act) = a at Re ⊢
  generalize (bodyPost P fn fun | .returned v, w' => ∃ g', Out cloneS (((xs, ()), ()), ()) y g w g' w' v | _, _ => False) = Q at hK ⊢
  refine wp_seq (piece hm hT EntsOK.nil hw0 rfl (K := fun x env H => some (x, env, H)) (r := (.normal, [(2, .val false [.nil]), (0, lstV xs)], [])) ?_ Re (m0 xs _))
  intro x1 g1 env1 H1 a1 w1 R1 h1
  simp only [Option.some.injEq, Prod.mk.injEq] at h1
  obtain ⟨rfl, rfl, rfl⟩ := h1
  refine wp_seq (wp_seq (wp_region ?_))
  show wpOps P #[o0, o1] _ [0, 1] a1 w1
  have hw1 : Region.wanted o0 (yielded #[o0, o1] a1.tmps) = true := by simp [Region.wanted, hg0]
  simp only [wpOps]
  rw [show (#[o0, o1] : Array Oper)[0]? = some o0 from rfl]
  simp only [hw1, if_true]
  have hlt0 : ∀ d, o0.dst = some d → d < 8 := fun d h => by rw [← Option.some.inj (hd0.symm.trans h)]; exact (by decide : 3 < 8)
  refine .inl (stepK_sound hT EntsOK.nil R1 (fun d h => hlt0 d h) (m1 xs (fun v e => some (v, e))) fun v e g2 cv w2 R2 h2 => ?_)
  simp only [Option.some.injEq, Prod.mk.injEq] at h2
  obtain ⟨rfl, rfl⟩ := h2
  rw [hd0] at R2 ⊢
  simp only [setD, hd0, List.nil_append] at R2
  have hw2' : Region.wanted o1 (yielded #[o0, o1] (a1.put (some 3) cv).tmps) = true := by simp [Region.wanted, hg1]
  rw [show (#[o0, o1] : Array Oper)[1]? = some o1 from rfl]
  simp only [hw2', if_true]
  obtain ⟨A2, c2, e5, _, hel2⟩ := (rv_one (c := .lst (.int .i64) xs) rfl (R2.env 3 _ rfl)).2
  have e5' := (List.cons.inj e5).1
  have hd1' : ∀ d, o1.dst = some d → d < 8 := fun d h => by rw [← Option.some.inj (hd1.symm.trans h)]; exact (by decide : 4 < 8)
  have R3 : Rel ⟨w, g, [], 8, []⟩ g2 (setD o1 (.val false [.bool A2.isNone]) [(3, lstV xs), (2, .val false [.nil]), (0, lstV xs)]) [] ((a1.put (some 3) cv).put o1.dst (.bool A2.isNone)) w2 :=
    R2.put hd1' ⟨_, [], rfl, ⟨rfl, rfl⟩, rfl⟩
  rw [hd1] at R3
  simp only [setD, hd1] at R3
  refine .inl (nil_op (Q := _) hop hd1 hu e5' ?_)
  generalize ((a1.put (some 3) cv).put (some 4) (.bool A2.isNone)) = a3 at R3 ⊢
  show (Code.cond (.tmp 4) _ .skip).wp P _ a3 w2
  have hc := rc_bool (rv_one (c := .bool A2.isNone) rfl (R3.env 4 _ rfl))
  cases A2 with
  | none =>
    have hx : xs = ([] : List Int) := by
      by_cases h : xs = ([] : List Int)
      · exact h
      · obtain ⟨_, _, _, h', _⟩ := hel2 h
        cases h'
    subst hx
    refine wp_cond_true hc ?_
    have hy2 : y = ((((), ()), ()), (([] : List Int), ())) := by
      have : cloneF [] = some ((((), ()), ()), (([] : List Int), ())) := rfl
      rw [this] at hy'
      exact (Option.some.inj hy').symm
    refine piece hm hT EntsOK.nil (K := fun x env H => match x with | .normal => none | x => fin tab fn cloneS x env H) (r := y) (by simp only [wfC, Bool.and_true]; exact hw2) rfl (fun x g env H a w R h => ?_) R3 ?_
    · cases x with
      | normal => cases h
      | ret => exact hK .ret g env H a w R h
      | exit id => exact hK (.exit id) g env H a w R h
    · exact (m2 _ _).trans ((m4 _).trans (congrArg some hy2.symm))
  | some A2 =>
    refine wp_cond_false hc (wp_skip ?_)
    refine piece hm hT EntsOK.nil (K := fin tab fn cloneS) (r := y) (by simp only [wfC, Bool.and_true]; exact hw3) rfl hK R3 ?_
    exact (m3 xs).trans hy'
end
end Go.Proofs.Ytkfehogikjcgkaa.V
namespace Go.Proofs.Ytkfehogikjcgkaa.V
open Go
set_option linter.unusedVariables false
noncomputable section
abbrev slices_Clone_int64_int64.R := CloneR
abbrev slices_Clone_int64_int64.f (_k : Nat) (a : List Int) : Option slices_Clone_int64_int64.R := cloneF a
abbrev slices_Clone_int64_int64.s (_k : Nat) : FS := cloneS
noncomputable def cat1 : Code → Code
  | .seq a _ => a
  | c => c
noncomputable def cat2 : Code → Code
  | .seq _ a => a
  | c => c
noncomputable def opsOf : Code → Array Oper
  | .region _ o _ => o
  | _ => #[]
noncomputable def thenOf : Code → Code
  | .cond _ a _ => a
  | c => c
noncomputable def cloneC : Code := Try.f160.body.getD .skip
noncomputable def cloneR1 : Array Oper := opsOf (cat1 (cat1 (cat2 cloneC)))
noncomputable def cloneO0 : Oper := (cloneR1.toList[0]?).getD default
noncomputable def cloneO1 : Oper := (cloneR1.toList[1]?).getD default
noncomputable def cloneT : TypeId := match cloneO1.op with
  | .binOp _ t _ _ _ => t
  | _ => 0
noncomputable def cloneE : TypeId := match Try.prog.underlying cloneT with
  | some (.slice e) => e
  | _ => 0
theorem slices_Clone_int64_int64.sound (k : Nat) : Sound Try.prog 160 (slices_Clone_int64_int64.s k) :=
  clone_sound mixed tab_ok (f := 160) (fn := Try.f160) (by kernel_rfl) (by kernel_rfl) (o0 := cloneO0) (o1 := cloneO1) (Z0 := opsOf (cat1 cloneC)) (Z2 := opsOf (cat1 (thenOf (cat2 (cat1 (cat2 cloneC)))))) (Z3 := opsOf (cat1 (cat2 (cat2 cloneC))))
    (i0 := 0) (i1 := 1) (i2 := 2) (i3 := 3) (t := cloneT) (e := cloneE) (ty := cloneT)
    (by kernel_rfl) (by kernel_rfl) (by kernel_rfl) (by kernel_rfl) (by kernel_rfl) (by kernel_rfl) (by kernel_rfl) (by kernel_rfl) (by kernel_rfl) (by kernel_rfl) (by kernel_rfl) (by kernel_rfl)
    (by intro xs K; kernel_rfl) (by intro xs K; kernel_rfl) (by intro xs K; kernel_rfl) (by intro xs; kernel_rfl) (by intro xs; kernel_rfl)
end
end Go.Proofs.Ytkfehogikjcgkaa.V
namespace Go.Proofs.Ytkfehogikjcgkaa.V
open Go
set_option linter.unusedVariables false
noncomputable section
/-! ### laws.szInt64S: function 36 -/
abbrev laws_szInt64S.R := (((Int × Unit) × Unit) × Unit)
def laws_szInt64S.f (k : Nat) (a0 : List Int) (a1 : Int) : Option laws_szInt64S.R := bif decide (IntKind.wrap .i64 (a1 - ((List.length a0 : Nat) : Int)) < 0) then (some (((-1, ()), ()), ())) else (some (((IntKind.wrap .i64 (a1 - ((List.length a0 : Nat) : Int)), ()), ()), ()))
def laws_szInt64S.s (k : Nat) : FS := ⟨[⟨false, [.lst (.int .i64)]⟩, ⟨false, [.int .i64]⟩], [], false, [⟨false, [.int .i64]⟩], [], [], fun x => laws_szInt64S.f k x.1.1.1 x.1.2.1.1⟩
def laws_szInt64S.E (k : Nat) : Ents := []
def laws_szInt64S.L : List (LS laws_szInt64S.R) := []
def laws_szInt64S.c : Code := Try.f36.body.getD .skip
theorem laws_szInt64S.eq (k : Nat) (x) : (laws_szInt64S.s k).pf x = execF tab (laws_szInt64S.E k) Try.f36 laws_szInt64S.c (laws_szInt64S.s k) laws_szInt64S.L x := by kernel_rfl
theorem laws_szInt64S.sound : ∀ k, Sound Try.prog 36 (laws_szInt64S.s k) := sound_of mixed tab_ok (f := 36) (fn := Try.f36) (c := laws_szInt64S.c) (by kernel_rfl) (by kernel_rfl) (by kernel_rfl) ⟨[⟨false, [.lst (.int .i64)]⟩, ⟨false, [.int .i64]⟩], [], false, [⟨false, [.int .i64]⟩], [], []⟩ (by kernel_rfl) (by kernel_rfl) (fun k => (laws_szInt64S.s k).pf) laws_szInt64S.E (fun k => EntsOK.nil) (fun k => laws_szInt64S.L) (fun k => trivial) trivial (fun k => trivial) laws_szInt64S.eq
end
end Go.Proofs.Ytkfehogikjcgkaa.V
namespace Go.Proofs.Ytkfehogikjcgkaa.V
open Go
set_option linter.unusedVariables false
noncomputable section
/-! ### laws.szPhi: function 163 -/
abbrev laws_szPhi.R := (((Int × Unit) × Unit) × Unit)
def laws_szPhi.f (k : Nat) (a0 : tPhiD) (a1 : Int) : Option laws_szPhi.R := Option.bind (laws_szInt64S.f k a0.2.1 a1) fun r1 => bif decide (r1.1.1.1 < 0) then (some (((-1, ()), ()), ())) else (some (((r1.1.1.1, ()), ()), ()))
def laws_szPhi.s (k : Nat) : FS := ⟨[⟨true, [.int .i64, .lst (.int .i64)]⟩, ⟨false, [.int .i64]⟩], [], false, [⟨false, [.int .i64]⟩], [], [], fun x => laws_szPhi.f k x.1.1 x.1.2.1.1⟩
def laws_szPhi.E (k : Nat) : Ents := [(⟨36, []⟩, laws_szInt64S.s k)]
def laws_szPhi.L : List (LS laws_szPhi.R) := []
def laws_szPhi.c : Code := Try.f163.body.getD .skip
theorem laws_szPhi.eq (k : Nat) (x) : (laws_szPhi.s k).pf x = execF tab (laws_szPhi.E k) Try.f163 laws_szPhi.c (laws_szPhi.s k) laws_szPhi.L x := by kernel_rfl
theorem laws_szPhi.sound : ∀ k, Sound Try.prog 163 (laws_szPhi.s k) := sound_of mixed tab_ok (f := 163) (fn := Try.f163) (c := laws_szPhi.c) (by kernel_rfl) (by kernel_rfl) (by kernel_rfl) ⟨[⟨true, [.int .i64, .lst (.int .i64)]⟩, ⟨false, [.int .i64]⟩], [], false, [⟨false, [.int .i64]⟩], [], []⟩ (by kernel_rfl) (by kernel_rfl) (fun k => (laws_szPhi.s k).pf) laws_szPhi.E (fun k => (EntsOK.cons (laws_szInt64S.sound k) EntsOK.nil)) (fun k => laws_szPhi.L) (fun k => trivial) trivial (fun k => trivial) laws_szPhi.eq
end
end Go.Proofs.Ytkfehogikjcgkaa.V
namespace Go.Proofs.Ytkfehogikjcgkaa.V
open Go
set_option linter.unusedVariables false
noncomputable section
/-! ### laws.szPhiS: function 129 -/
abbrev laws_szPhiS.R := (((Int × Unit) × Unit) × Unit)
def laws_szPhiS.l0_ (k : Nat) (l0 : (List tPhiD) → Int → Int → Option laws_szPhiS.R) (a0 : List tPhiD) (a1 : Int) (a2 : Int) : Option laws_szPhiS.R := bif decide (a2 < ((List.length a0 : Nat) : Int)) then (bif (decide (0 ≤ a2)) && (decide (a2 < ((List.length a0 : Nat) : Int))) then (Option.bind (laws_szPhi.f k (List.getD a0 (Int.toNat a2) tPhiZ) a1) fun r1 => bif decide (r1.1.1.1 < 0) then (some (((-1, ()), ()), ())) else (l0 a0 r1.1.1.1 (IntKind.wrap .i64 (a2 + 1)))) else none) else (some (((a1, ()), ()), ()))
def laws_szPhiS.all : Nat → ((List tPhiD) → Int → Int → Option laws_szPhiS.R) × Unit
  | 0 => (fun _ _ _ => none, ())
  | k + 1 => (laws_szPhiS.l0_ k (laws_szPhiS.all k).1, ())
def laws_szPhiS.l0 (k : Nat) : (List tPhiD) → Int → Int → Option laws_szPhiS.R := (laws_szPhiS.all k).1
def laws_szPhiS.f (k : Nat) (a0 : List tPhiD) (a1 : Int) : Option laws_szPhiS.R := bif decide (IntKind.wrap .i64 (a1 - ((List.length a0 : Nat) : Int)) < 0) then (some (((-1, ()), ()), ())) else (laws_szPhiS.l0 k a0 (IntKind.wrap .i64 (a1 - ((List.length a0 : Nat) : Int))) 0)
def laws_szPhiS.s (k : Nat) : FS := ⟨[⟨false, [.lst tPhi]⟩, ⟨false, [.int .i64]⟩], [], false, [⟨false, [.int .i64]⟩], [], [], fun x => laws_szPhiS.f k x.1.1.1 x.1.2.1.1⟩
def laws_szPhiS.E (k : Nat) : Ents := [(⟨163, []⟩, laws_szPhi.s k)]
def laws_szPhiS.L0 (l : (List tPhiD) → Int → Int → Option laws_szPhiS.R) : LS laws_szPhiS.R := ⟨[], [(0, ⟨false, [.lst tPhi]⟩), (1, ⟨false, [.int .i64]⟩), (5, ⟨false, [.int .i64]⟩)], [], fun x => l x.1.1.1 x.1.2.1.1 x.1.2.2.1.1⟩
def laws_szPhiS.L (l0 : (List tPhiD) → Int → Int → Option laws_szPhiS.R) : List (LS laws_szPhiS.R) := [laws_szPhiS.L0 l0]
def laws_szPhiS.c : Code := Try.f129.body.getD .skip
theorem laws_szPhiS.eq (k : Nat) (x) : (laws_szPhiS.s k).pf x = execF tab (laws_szPhiS.E k) Try.f129 laws_szPhiS.c (laws_szPhiS.s k) (laws_szPhiS.L (laws_szPhiS.l0 k)) x := by kernel_rfl
theorem laws_szPhiS.r0 (l0 : (List tPhiD) → Int → Int → Option laws_szPhiS.R) (k : Nat) (x) : laws_szPhiS.l0_ k l0 x.1.1.1 x.1.2.1.1 x.1.2.2.1.1 = roundOf tab (laws_szPhiS.E k) (laws_szPhiS.L l0) laws_szPhiS.c (fin tab Try.f129 (laws_szPhiS.s k)) 0 (laws_szPhiS.L0 l0) x := by kernel_rfl
theorem laws_szPhiS.sound : ∀ k, Sound Try.prog 129 (laws_szPhiS.s k) := sound_of mixed tab_ok (f := 129) (fn := Try.f129) (c := laws_szPhiS.c) (by kernel_rfl) (by kernel_rfl) (by kernel_rfl) ⟨[⟨false, [.lst tPhi]⟩, ⟨false, [.int .i64]⟩], [], false, [⟨false, [.int .i64]⟩], [], []⟩ (by kernel_rfl) (by kernel_rfl) (fun k => (laws_szPhiS.s k).pf) laws_szPhiS.E (fun k => (EntsOK.cons (laws_szPhi.sound k) EntsOK.nil)) (fun k => laws_szPhiS.L (laws_szPhiS.l0 k)) (fun k => ⟨rfl, trivial⟩) ⟨fun _ => rfl, trivial⟩ (fun k => ⟨⟨(laws_szPhiS.L0 (laws_szPhiS.l0 (k + 1))).l, rfl, fun x => laws_szPhiS.r0 (laws_szPhiS.l0 k) k x⟩, trivial⟩) laws_szPhiS.eq
end
end Go.Proofs.Ytkfehogikjcgkaa.V
namespace Go.Proofs.Ytkfehogikjcgkaa.V
open Go
set_option linter.unusedVariables false
noncomputable section
/-! ### laws.szInst: function 164 -/
abbrev laws_szInst.R := (((Int × Unit) × Unit) × Unit)
def laws_szInst.f (k : Nat) (a0 : tInstD) (a1 : Int) : Option laws_szInst.R := Option.bind (laws_szInt64S.f k a0.2.2.2.2.2.2.1 a1) fun r1 => bif decide (r1.1.1.1 < 0) then (some (((-1, ()), ()), ())) else (some (((r1.1.1.1, ()), ()), ()))
def laws_szInst.s (k : Nat) : FS := ⟨[⟨true, [.int .i64, .int .i64, .int .i64, .int .i64, .int .i64, .int .i64, .lst (.int .i64)]⟩, ⟨false, [.int .i64]⟩], [], false, [⟨false, [.int .i64]⟩], [], [], fun x => laws_szInst.f k x.1.1 x.1.2.1.1⟩
def laws_szInst.E (k : Nat) : Ents := [(⟨36, []⟩, laws_szInt64S.s k)]
def laws_szInst.L : List (LS laws_szInst.R) := []
def laws_szInst.c : Code := Try.f164.body.getD .skip
theorem laws_szInst.eq (k : Nat) (x) : (laws_szInst.s k).pf x = execF tab (laws_szInst.E k) Try.f164 laws_szInst.c (laws_szInst.s k) laws_szInst.L x := by kernel_rfl
theorem laws_szInst.sound : ∀ k, Sound Try.prog 164 (laws_szInst.s k) := sound_of mixed tab_ok (f := 164) (fn := Try.f164) (c := laws_szInst.c) (by kernel_rfl) (by kernel_rfl) (by kernel_rfl) ⟨[⟨true, [.int .i64, .int .i64, .int .i64, .int .i64, .int .i64, .int .i64, .lst (.int .i64)]⟩, ⟨false, [.int .i64]⟩], [], false, [⟨false, [.int .i64]⟩], [], []⟩ (by kernel_rfl) (by kernel_rfl) (fun k => (laws_szInst.s k).pf) laws_szInst.E (fun k => (EntsOK.cons (laws_szInt64S.sound k) EntsOK.nil)) (fun k => laws_szInst.L) (fun k => trivial) trivial (fun k => trivial) laws_szInst.eq
end
end Go.Proofs.Ytkfehogikjcgkaa.V
namespace Go.Proofs.Ytkfehogikjcgkaa.V
open Go
set_option linter.unusedVariables false
noncomputable section
/-! ### laws.szInstS: function 130 -/
abbrev laws_szInstS.R := (((Int × Unit) × Unit) × Unit)
def laws_szInstS.l0_ (k : Nat) (l0 : (List tInstD) → Int → Int → Option laws_szInstS.R) (a0 : List tInstD) (a1 : Int) (a2 : Int) : Option laws_szInstS.R := bif decide (a2 < ((List.length a0 : Nat) : Int)) then (bif (decide (0 ≤ a2)) && (decide (a2 < ((List.length a0 : Nat) : Int))) then (Option.bind (laws_szInst.f k (List.getD a0 (Int.toNat a2) tInstZ) a1) fun r1 => bif decide (r1.1.1.1 < 0) then (some (((-1, ()), ()), ())) else (l0 a0 r1.1.1.1 (IntKind.wrap .i64 (a2 + 1)))) else none) else (some (((a1, ()), ()), ()))
def laws_szInstS.all : Nat → ((List tInstD) → Int → Int → Option laws_szInstS.R) × Unit
  | 0 => (fun _ _ _ => none, ())
  | k + 1 => (laws_szInstS.l0_ k (laws_szInstS.all k).1, ())
def laws_szInstS.l0 (k : Nat) : (List tInstD) → Int → Int → Option laws_szInstS.R := (laws_szInstS.all k).1
def laws_szInstS.f (k : Nat) (a0 : List tInstD) (a1 : Int) : Option laws_szInstS.R := bif decide (IntKind.wrap .i64 (a1 - ((List.length a0 : Nat) : Int)) < 0) then (some (((-1, ()), ()), ())) else (laws_szInstS.l0 k a0 (IntKind.wrap .i64 (a1 - ((List.length a0 : Nat) : Int))) 0)
def laws_szInstS.s (k : Nat) : FS := ⟨[⟨false, [.lst tInst]⟩, ⟨false, [.int .i64]⟩], [], false, [⟨false, [.int .i64]⟩], [], [], fun x => laws_szInstS.f k x.1.1.1 x.1.2.1.1⟩
def laws_szInstS.E (k : Nat) : Ents := [(⟨164, []⟩, laws_szInst.s k)]
def laws_szInstS.L0 (l : (List tInstD) → Int → Int → Option laws_szInstS.R) : LS laws_szInstS.R := ⟨[], [(0, ⟨false, [.lst tInst]⟩), (1, ⟨false, [.int .i64]⟩), (5, ⟨false, [.int .i64]⟩)], [], fun x => l x.1.1.1 x.1.2.1.1 x.1.2.2.1.1⟩
def laws_szInstS.L (l0 : (List tInstD) → Int → Int → Option laws_szInstS.R) : List (LS laws_szInstS.R) := [laws_szInstS.L0 l0]
def laws_szInstS.c : Code := Try.f130.body.getD .skip
theorem laws_szInstS.eq (k : Nat) (x) : (laws_szInstS.s k).pf x = execF tab (laws_szInstS.E k) Try.f130 laws_szInstS.c (laws_szInstS.s k) (laws_szInstS.L (laws_szInstS.l0 k)) x := by kernel_rfl
theorem laws_szInstS.r0 (l0 : (List tInstD) → Int → Int → Option laws_szInstS.R) (k : Nat) (x) : laws_szInstS.l0_ k l0 x.1.1.1 x.1.2.1.1 x.1.2.2.1.1 = roundOf tab (laws_szInstS.E k) (laws_szInstS.L l0) laws_szInstS.c (fin tab Try.f130 (laws_szInstS.s k)) 0 (laws_szInstS.L0 l0) x := by kernel_rfl
theorem laws_szInstS.sound : ∀ k, Sound Try.prog 130 (laws_szInstS.s k) := sound_of mixed tab_ok (f := 130) (fn := Try.f130) (c := laws_szInstS.c) (by kernel_rfl) (by kernel_rfl) (by kernel_rfl) ⟨[⟨false, [.lst tInst]⟩, ⟨false, [.int .i64]⟩], [], false, [⟨false, [.int .i64]⟩], [], []⟩ (by kernel_rfl) (by kernel_rfl) (fun k => (laws_szInstS.s k).pf) laws_szInstS.E (fun k => (EntsOK.cons (laws_szInst.sound k) EntsOK.nil)) (fun k => laws_szInstS.L (laws_szInstS.l0 k)) (fun k => ⟨rfl, trivial⟩) ⟨fun _ => rfl, trivial⟩ (fun k => ⟨⟨(laws_szInstS.L0 (laws_szInstS.l0 (k + 1))).l, rfl, fun x => laws_szInstS.r0 (laws_szInstS.l0 k) k x⟩, trivial⟩) laws_szInstS.eq
end
end Go.Proofs.Ytkfehogikjcgkaa.V
namespace Go.Proofs.Ytkfehogikjcgkaa.V
open Go
set_option linter.unusedVariables false
noncomputable section
/-! ### laws.szBlock: function 75 -/
abbrev laws_szBlock.R := (((Int × Unit) × Unit) × Unit)
def laws_szBlock.f (k : Nat) (a0 : tBlockD) (a1 : Int) : Option laws_szBlock.R := Option.bind (laws_szPhiS.f k a0.1 a1) fun r1 => bif decide (r1.1.1.1 < 0) then (some (((-1, ()), ()), ())) else (Option.bind (laws_szInstS.f k a0.2.1 r1.1.1.1) fun r2 => bif decide (r2.1.1.1 < 0) then (some (((-1, ()), ()), ())) else (some (((r2.1.1.1, ()), ()), ())))
def laws_szBlock.s (k : Nat) : FS := ⟨[⟨true, [.lst tPhi, .lst tInst, .int .i64, .int .i64, .int .i64, .int .i64]⟩, ⟨false, [.int .i64]⟩], [], false, [⟨false, [.int .i64]⟩], [], [], fun x => laws_szBlock.f k x.1.1 x.1.2.1.1⟩
def laws_szBlock.E (k : Nat) : Ents := [(⟨129, []⟩, laws_szPhiS.s k), (⟨130, []⟩, laws_szInstS.s k)]
def laws_szBlock.L : List (LS laws_szBlock.R) := []
def laws_szBlock.c : Code := Try.f75.body.getD .skip
theorem laws_szBlock.eq (k : Nat) (x) : (laws_szBlock.s k).pf x = execF tab (laws_szBlock.E k) Try.f75 laws_szBlock.c (laws_szBlock.s k) laws_szBlock.L x := by kernel_rfl
theorem laws_szBlock.sound : ∀ k, Sound Try.prog 75 (laws_szBlock.s k) := sound_of mixed tab_ok (f := 75) (fn := Try.f75) (c := laws_szBlock.c) (by kernel_rfl) (by kernel_rfl) (by kernel_rfl) ⟨[⟨true, [.lst tPhi, .lst tInst, .int .i64, .int .i64, .int .i64, .int .i64]⟩, ⟨false, [.int .i64]⟩], [], false, [⟨false, [.int .i64]⟩], [], []⟩ (by kernel_rfl) (by kernel_rfl) (fun k => (laws_szBlock.s k).pf) laws_szBlock.E (fun k => (EntsOK.cons (laws_szPhiS.sound k) (EntsOK.cons (laws_szInstS.sound k) EntsOK.nil))) (fun k => laws_szBlock.L) (fun k => trivial) trivial (fun k => trivial) laws_szBlock.eq
end
end Go.Proofs.Ytkfehogikjcgkaa.V
namespace Go.Proofs.Ytkfehogikjcgkaa.V
open Go
set_option linter.unusedVariables false
noncomputable section
/-! ### laws.szBlockS: function 37 -/
abbrev laws_szBlockS.R := (((Int × Unit) × Unit) × Unit)
def laws_szBlockS.l0_ (k : Nat) (l0 : (List tBlockD) → Int → Int → Option laws_szBlockS.R) (a0 : List tBlockD) (a1 : Int) (a2 : Int) : Option laws_szBlockS.R := bif decide (a2 < ((List.length a0 : Nat) : Int)) then (bif (decide (0 ≤ a2)) && (decide (a2 < ((List.length a0 : Nat) : Int))) then (Option.bind (laws_szBlock.f k (List.getD a0 (Int.toNat a2) tBlockZ) a1) fun r1 => bif decide (r1.1.1.1 < 0) then (some (((-1, ()), ()), ())) else (l0 a0 r1.1.1.1 (IntKind.wrap .i64 (a2 + 1)))) else none) else (some (((a1, ()), ()), ()))
def laws_szBlockS.all : Nat → ((List tBlockD) → Int → Int → Option laws_szBlockS.R) × Unit
  | 0 => (fun _ _ _ => none, ())
  | k + 1 => (laws_szBlockS.l0_ k (laws_szBlockS.all k).1, ())
def laws_szBlockS.l0 (k : Nat) : (List tBlockD) → Int → Int → Option laws_szBlockS.R := (laws_szBlockS.all k).1
def laws_szBlockS.f (k : Nat) (a0 : List tBlockD) (a1 : Int) : Option laws_szBlockS.R := bif decide (IntKind.wrap .i64 (a1 - ((List.length a0 : Nat) : Int)) < 0) then (some (((-1, ()), ()), ())) else (laws_szBlockS.l0 k a0 (IntKind.wrap .i64 (a1 - ((List.length a0 : Nat) : Int))) 0)
def laws_szBlockS.s (k : Nat) : FS := ⟨[⟨false, [.lst tBlock]⟩, ⟨false, [.int .i64]⟩], [], false, [⟨false, [.int .i64]⟩], [], [], fun x => laws_szBlockS.f k x.1.1.1 x.1.2.1.1⟩
def laws_szBlockS.E (k : Nat) : Ents := [(⟨75, []⟩, laws_szBlock.s k)]
def laws_szBlockS.L0 (l : (List tBlockD) → Int → Int → Option laws_szBlockS.R) : LS laws_szBlockS.R := ⟨[], [(0, ⟨false, [.lst tBlock]⟩), (1, ⟨false, [.int .i64]⟩), (5, ⟨false, [.int .i64]⟩)], [], fun x => l x.1.1.1 x.1.2.1.1 x.1.2.2.1.1⟩
def laws_szBlockS.L (l0 : (List tBlockD) → Int → Int → Option laws_szBlockS.R) : List (LS laws_szBlockS.R) := [laws_szBlockS.L0 l0]
def laws_szBlockS.c : Code := Try.f37.body.getD .skip
theorem laws_szBlockS.eq (k : Nat) (x) : (laws_szBlockS.s k).pf x = execF tab (laws_szBlockS.E k) Try.f37 laws_szBlockS.c (laws_szBlockS.s k) (laws_szBlockS.L (laws_szBlockS.l0 k)) x := by kernel_rfl
theorem laws_szBlockS.r0 (l0 : (List tBlockD) → Int → Int → Option laws_szBlockS.R) (k : Nat) (x) : laws_szBlockS.l0_ k l0 x.1.1.1 x.1.2.1.1 x.1.2.2.1.1 = roundOf tab (laws_szBlockS.E k) (laws_szBlockS.L l0) laws_szBlockS.c (fin tab Try.f37 (laws_szBlockS.s k)) 0 (laws_szBlockS.L0 l0) x := by kernel_rfl
theorem laws_szBlockS.sound : ∀ k, Sound Try.prog 37 (laws_szBlockS.s k) := sound_of mixed tab_ok (f := 37) (fn := Try.f37) (c := laws_szBlockS.c) (by kernel_rfl) (by kernel_rfl) (by kernel_rfl) ⟨[⟨false, [.lst tBlock]⟩, ⟨false, [.int .i64]⟩], [], false, [⟨false, [.int .i64]⟩], [], []⟩ (by kernel_rfl) (by kernel_rfl) (fun k => (laws_szBlockS.s k).pf) laws_szBlockS.E (fun k => (EntsOK.cons (laws_szBlock.sound k) EntsOK.nil)) (fun k => laws_szBlockS.L (laws_szBlockS.l0 k)) (fun k => ⟨rfl, trivial⟩) ⟨fun _ => rfl, trivial⟩ (fun k => ⟨⟨(laws_szBlockS.L0 (laws_szBlockS.l0 (k + 1))).l, rfl, fun x => laws_szBlockS.r0 (laws_szBlockS.l0 k) k x⟩, trivial⟩) laws_szBlockS.eq
end
end Go.Proofs.Ytkfehogikjcgkaa.V
namespace Go.Proofs.Ytkfehogikjcgkaa.V
open Go
set_option linter.unusedVariables false
noncomputable section
/-! ### laws.szFunc: function 10 -/
abbrev laws_szFunc.R := (((Int × Unit) × Unit) × Unit)
def laws_szFunc.f (k : Nat) (a0 : tFuncD) (a1 : Int) : Option laws_szFunc.R := Option.bind (laws_szInt64S.f k a0.1 a1) fun r1 => bif decide (r1.1.1.1 < 0) then (some (((-1, ()), ()), ())) else (Option.bind (laws_szBlockS.f k a0.2.2.1 r1.1.1.1) fun r2 => bif decide (r2.1.1.1 < 0) then (some (((-1, ()), ()), ())) else (some (((r2.1.1.1, ()), ()), ())))
def laws_szFunc.s (k : Nat) : FS := ⟨[⟨true, [.lst (.int .i64), .int .i64, .lst tBlock]⟩, ⟨false, [.int .i64]⟩], [], false, [⟨false, [.int .i64]⟩], [], [], fun x => laws_szFunc.f k x.1.1 x.1.2.1.1⟩
def laws_szFunc.E (k : Nat) : Ents := [(⟨36, []⟩, laws_szInt64S.s k), (⟨37, []⟩, laws_szBlockS.s k)]
def laws_szFunc.L : List (LS laws_szFunc.R) := []
def laws_szFunc.c : Code := Try.f10.body.getD .skip
theorem laws_szFunc.eq (k : Nat) (x) : (laws_szFunc.s k).pf x = execF tab (laws_szFunc.E k) Try.f10 laws_szFunc.c (laws_szFunc.s k) laws_szFunc.L x := by kernel_rfl
theorem laws_szFunc.sound : ∀ k, Sound Try.prog 10 (laws_szFunc.s k) := sound_of mixed tab_ok (f := 10) (fn := Try.f10) (c := laws_szFunc.c) (by kernel_rfl) (by kernel_rfl) (by kernel_rfl) ⟨[⟨true, [.lst (.int .i64), .int .i64, .lst tBlock]⟩, ⟨false, [.int .i64]⟩], [], false, [⟨false, [.int .i64]⟩], [], []⟩ (by kernel_rfl) (by kernel_rfl) (fun k => (laws_szFunc.s k).pf) laws_szFunc.E (fun k => (EntsOK.cons (laws_szInt64S.sound k) (EntsOK.cons (laws_szBlockS.sound k) EntsOK.nil))) (fun k => laws_szFunc.L) (fun k => trivial) trivial (fun k => trivial) laws_szFunc.eq
end
end Go.Proofs.Ytkfehogikjcgkaa.V
namespace Go.Proofs.Ytkfehogikjcgkaa.V
open Go
set_option linter.unusedVariables false
noncomputable section
/-! ### laws.toInt64S: function 33 -/
abbrev laws_toInt64S.R := (((Unit × Unit) × Unit) × ((List Int) × Unit))
def laws_toInt64S.l0_ (k : Nat) (l0 : (List Int) → Int → (List Int) → Option laws_toInt64S.R) (a0 : List Int) (a1 : Int) (a2 : List Int) : Option laws_toInt64S.R := bif decide (a1 < ((List.length a0 : Nat) : Int)) then (bif (decide (0 ≤ a1)) && (decide (a1 < ((List.length a0 : Nat) : Int))) then (bif (decide (0 ≤ a1)) && (decide (a1 < ((List.length a2 : Nat) : Int))) then (l0 a0 (IntKind.wrap .i64 (a1 + 1)) (List.set a2 (Int.toNat a1) (List.getD a0 (Int.toNat a1) 0))) else none) else none) else (some ((((), ()), ()), (a2, ())))
def laws_toInt64S.all : Nat → ((List Int) → Int → (List Int) → Option laws_toInt64S.R) × Unit
  | 0 => (fun _ _ _ => none, ())
  | k + 1 => (laws_toInt64S.l0_ k (laws_toInt64S.all k).1, ())
def laws_toInt64S.l0 (k : Nat) : (List Int) → Int → (List Int) → Option laws_toInt64S.R := (laws_toInt64S.all k).1
def laws_toInt64S.f (k : Nat) (a0 : List Int) : Option laws_toInt64S.R := bif (decide (((List.length a0 : Nat) : Int) = ((List.length a0 : Nat) : Int))) && (decide (0 ≤ ((List.length a0 : Nat) : Int))) && (decide (((List.length a0 : Nat) : Int) * 8 ≤ 281474976710656)) then (laws_toInt64S.l0 k a0 0 (List.replicate (Int.toNat ((List.length a0 : Nat) : Int)) 0)) else none
def laws_toInt64S.s (k : Nat) : FS := ⟨[⟨false, [.lst (.int .i64)]⟩], [], false, [⟨false, [.own 100]⟩], [(100, .row true (.int .i64))], [], fun x => laws_toInt64S.f k x.1.1.1⟩
def laws_toInt64S.E (k : Nat) : Ents := []
def laws_toInt64S.L0 (l : (List Int) → Int → (List Int) → Option laws_toInt64S.R) : LS laws_toInt64S.R := ⟨[], [(0, ⟨false, [.lst (.int .i64)]⟩), (3, ⟨false, [.own 100000]⟩), (4, ⟨false, [.int .i64]⟩)], [(100000, .row true (.int .i64))], fun x => l x.1.1.1 x.1.2.2.1.1 x.2.1⟩
def laws_toInt64S.L (l0 : (List Int) → Int → (List Int) → Option laws_toInt64S.R) : List (LS laws_toInt64S.R) := [laws_toInt64S.L0 l0]
def laws_toInt64S.c : Code := Try.f33.body.getD .skip
theorem laws_toInt64S.eq (k : Nat) (x) : (laws_toInt64S.s k).pf x = execF tab (laws_toInt64S.E k) Try.f33 laws_toInt64S.c (laws_toInt64S.s k) (laws_toInt64S.L (laws_toInt64S.l0 k)) x := by kernel_rfl
theorem laws_toInt64S.r0 (l0 : (List Int) → Int → (List Int) → Option laws_toInt64S.R) (k : Nat) (x) : laws_toInt64S.l0_ k l0 x.1.1.1 x.1.2.2.1.1 x.2.1 = roundOf tab (laws_toInt64S.E k) (laws_toInt64S.L l0) laws_toInt64S.c (fin tab Try.f33 (laws_toInt64S.s k)) 0 (laws_toInt64S.L0 l0) x := by kernel_rfl
theorem laws_toInt64S.sound : ∀ k, Sound Try.prog 33 (laws_toInt64S.s k) := sound_of mixed tab_ok (f := 33) (fn := Try.f33) (c := laws_toInt64S.c) (by kernel_rfl) (by kernel_rfl) (by kernel_rfl) ⟨[⟨false, [.lst (.int .i64)]⟩], [], false, [⟨false, [.own 100]⟩], [(100, .row true (.int .i64))], []⟩ (by kernel_rfl) (by kernel_rfl) (fun k => (laws_toInt64S.s k).pf) laws_toInt64S.E (fun k => EntsOK.nil) (fun k => laws_toInt64S.L (laws_toInt64S.l0 k)) (fun k => ⟨rfl, trivial⟩) ⟨fun _ => rfl, trivial⟩ (fun k => ⟨⟨(laws_toInt64S.L0 (laws_toInt64S.l0 (k + 1))).l, rfl, fun x => laws_toInt64S.r0 (laws_toInt64S.l0 k) k x⟩, trivial⟩) laws_toInt64S.eq
end
end Go.Proofs.Ytkfehogikjcgkaa.V
namespace Go.Proofs.Ytkfehogikjcgkaa.V
open Go
set_option linter.unusedVariables false
noncomputable section
/-! ### laws.toPhi: function 165 -/
abbrev laws_toPhi.R := (((Int × Unit × Unit) × Unit) × ((List Int) × Unit))
def laws_toPhi.f (k : Nat) (a0 : tPhiD) : Option laws_toPhi.R := Option.bind (laws_toInt64S.f k a0.2.1) fun r1 => some (((a0.1, (), ()), ()), (r1.2.1, ()))
def laws_toPhi.s (k : Nat) : FS := ⟨[⟨true, [.int .i64, .lst (.int .i64)]⟩], [], false, [⟨true, [.int .i64, .own 100]⟩], [(100, .row true (.int .i64))], [], fun x => laws_toPhi.f k x.1.1⟩
def laws_toPhi.E (k : Nat) : Ents := [(⟨33, []⟩, laws_toInt64S.s k)]
def laws_toPhi.L : List (LS laws_toPhi.R) := []
def laws_toPhi.c : Code := Try.f165.body.getD .skip
theorem laws_toPhi.eq (k : Nat) (x) : (laws_toPhi.s k).pf x = execF tab (laws_toPhi.E k) Try.f165 laws_toPhi.c (laws_toPhi.s k) laws_toPhi.L x := by kernel_rfl
theorem laws_toPhi.sound : ∀ k, Sound Try.prog 165 (laws_toPhi.s k) := sound_of mixed tab_ok (f := 165) (fn := Try.f165) (c := laws_toPhi.c) (by kernel_rfl) (by kernel_rfl) (by kernel_rfl) ⟨[⟨true, [.int .i64, .lst (.int .i64)]⟩], [], false, [⟨true, [.int .i64, .own 100]⟩], [(100, .row true (.int .i64))], []⟩ (by kernel_rfl) (by kernel_rfl) (fun k => (laws_toPhi.s k).pf) laws_toPhi.E (fun k => (EntsOK.cons (laws_toInt64S.sound k) EntsOK.nil)) (fun k => laws_toPhi.L) (fun k => trivial) trivial (fun k => trivial) laws_toPhi.eq
end
end Go.Proofs.Ytkfehogikjcgkaa.V
namespace Go.Proofs.Ytkfehogikjcgkaa.V
open Go
set_option linter.unusedVariables false
noncomputable section
/-! ### laws.toPhiS: function 131 -/
abbrev laws_toPhiS.R := (((Unit × Unit) × Unit) × ((List tPhiD) × Unit))
def laws_toPhiS.l0_ (k : Nat) (l0 : (List tPhiD) → Int → (List tPhiD) → Option laws_toPhiS.R) (a0 : List tPhiD) (a1 : Int) (a2 : List tPhiD) : Option laws_toPhiS.R := bif decide (a1 < ((List.length a0 : Nat) : Int)) then (bif (decide (0 ≤ a1)) && (decide (a1 < ((List.length a0 : Nat) : Int))) then (Option.bind (laws_toPhi.f k (List.getD a0 (Int.toNat a1) tPhiZ)) fun r1 => bif (decide (0 ≤ a1)) && (decide (a1 < ((List.length a2 : Nat) : Int))) then (l0 a0 (IntKind.wrap .i64 (a1 + 1)) (List.set a2 (Int.toNat a1) (r1.1.1.1, r1.2.1, ()))) else none) else none) else (some ((((), ()), ()), (a2, ())))
def laws_toPhiS.all : Nat → ((List tPhiD) → Int → (List tPhiD) → Option laws_toPhiS.R) × Unit
  | 0 => (fun _ _ _ => none, ())
  | k + 1 => (laws_toPhiS.l0_ k (laws_toPhiS.all k).1, ())
def laws_toPhiS.l0 (k : Nat) : (List tPhiD) → Int → (List tPhiD) → Option laws_toPhiS.R := (laws_toPhiS.all k).1
def laws_toPhiS.f (k : Nat) (a0 : List tPhiD) : Option laws_toPhiS.R := bif (decide (((List.length a0 : Nat) : Int) = ((List.length a0 : Nat) : Int))) && (decide (0 ≤ ((List.length a0 : Nat) : Int))) && (decide (((List.length a0 : Nat) : Int) * 32 ≤ 281474976710656)) then (laws_toPhiS.l0 k a0 0 (List.replicate (Int.toNat ((List.length a0 : Nat) : Int)) tPhiZ)) else none
def laws_toPhiS.s (k : Nat) : FS := ⟨[⟨false, [.lst tPhi]⟩], [], false, [⟨false, [.own 100]⟩], [(100, .row true tPhi)], [], fun x => laws_toPhiS.f k x.1.1.1⟩
def laws_toPhiS.E (k : Nat) : Ents := [(⟨165, []⟩, laws_toPhi.s k)]
def laws_toPhiS.L0 (l : (List tPhiD) → Int → (List tPhiD) → Option laws_toPhiS.R) : LS laws_toPhiS.R := ⟨[], [(0, ⟨false, [.lst tPhi]⟩), (3, ⟨false, [.own 100000]⟩), (4, ⟨false, [.int .i64]⟩)], [(100000, .row true tPhi)], fun x => l x.1.1.1 x.1.2.2.1.1 x.2.1⟩
def laws_toPhiS.L (l0 : (List tPhiD) → Int → (List tPhiD) → Option laws_toPhiS.R) : List (LS laws_toPhiS.R) := [laws_toPhiS.L0 l0]
def laws_toPhiS.c : Code := Try.f131.body.getD .skip
theorem laws_toPhiS.eq (k : Nat) (x) : (laws_toPhiS.s k).pf x = execF tab (laws_toPhiS.E k) Try.f131 laws_toPhiS.c (laws_toPhiS.s k) (laws_toPhiS.L (laws_toPhiS.l0 k)) x := by kernel_rfl
theorem laws_toPhiS.r0 (l0 : (List tPhiD) → Int → (List tPhiD) → Option laws_toPhiS.R) (k : Nat) (x) : laws_toPhiS.l0_ k l0 x.1.1.1 x.1.2.2.1.1 x.2.1 = roundOf tab (laws_toPhiS.E k) (laws_toPhiS.L l0) laws_toPhiS.c (fin tab Try.f131 (laws_toPhiS.s k)) 0 (laws_toPhiS.L0 l0) x := by kernel_rfl
theorem laws_toPhiS.sound : ∀ k, Sound Try.prog 131 (laws_toPhiS.s k) := sound_of mixed tab_ok (f := 131) (fn := Try.f131) (c := laws_toPhiS.c) (by kernel_rfl) (by kernel_rfl) (by kernel_rfl) ⟨[⟨false, [.lst tPhi]⟩], [], false, [⟨false, [.own 100]⟩], [(100, .row true tPhi)], []⟩ (by kernel_rfl) (by kernel_rfl) (fun k => (laws_toPhiS.s k).pf) laws_toPhiS.E (fun k => (EntsOK.cons (laws_toPhi.sound k) EntsOK.nil)) (fun k => laws_toPhiS.L (laws_toPhiS.l0 k)) (fun k => ⟨rfl, trivial⟩) ⟨fun _ => rfl, trivial⟩ (fun k => ⟨⟨(laws_toPhiS.L0 (laws_toPhiS.l0 (k + 1))).l, rfl, fun x => laws_toPhiS.r0 (laws_toPhiS.l0 k) k x⟩, trivial⟩) laws_toPhiS.eq
end
end Go.Proofs.Ytkfehogikjcgkaa.V
namespace Go.Proofs.Ytkfehogikjcgkaa.V
open Go
set_option linter.unusedVariables false
noncomputable section
/-! ### laws.toInst: function 166 -/
abbrev laws_toInst.R := (((Int × Int × Int × Int × Int × Int × Unit × Unit) × Unit) × ((List Int) × Unit))
def laws_toInst.f (k : Nat) (a0 : tInstD) : Option laws_toInst.R := Option.bind (laws_toInt64S.f k a0.2.2.2.2.2.2.1) fun r1 => some (((a0.1, a0.2.1, a0.2.2.1, a0.2.2.2.1, a0.2.2.2.2.1, a0.2.2.2.2.2.1, (), ()), ()), (r1.2.1, ()))
def laws_toInst.s (k : Nat) : FS := ⟨[⟨true, [.int .i64, .int .i64, .int .i64, .int .i64, .int .i64, .int .i64, .lst (.int .i64)]⟩], [], false, [⟨true, [.int .i64, .int .i64, .int .i64, .int .i64, .int .i64, .int .i64, .own 100]⟩], [(100, .row true (.int .i64))], [], fun x => laws_toInst.f k x.1.1⟩
def laws_toInst.E (k : Nat) : Ents := [(⟨33, []⟩, laws_toInt64S.s k)]
def laws_toInst.L : List (LS laws_toInst.R) := []
def laws_toInst.c : Code := Try.f166.body.getD .skip
theorem laws_toInst.eq (k : Nat) (x) : (laws_toInst.s k).pf x = execF tab (laws_toInst.E k) Try.f166 laws_toInst.c (laws_toInst.s k) laws_toInst.L x := by kernel_rfl
theorem laws_toInst.sound : ∀ k, Sound Try.prog 166 (laws_toInst.s k) := sound_of mixed tab_ok (f := 166) (fn := Try.f166) (c := laws_toInst.c) (by kernel_rfl) (by kernel_rfl) (by kernel_rfl) ⟨[⟨true, [.int .i64, .int .i64, .int .i64, .int .i64, .int .i64, .int .i64, .lst (.int .i64)]⟩], [], false, [⟨true, [.int .i64, .int .i64, .int .i64, .int .i64, .int .i64, .int .i64, .own 100]⟩], [(100, .row true (.int .i64))], []⟩ (by kernel_rfl) (by kernel_rfl) (fun k => (laws_toInst.s k).pf) laws_toInst.E (fun k => (EntsOK.cons (laws_toInt64S.sound k) EntsOK.nil)) (fun k => laws_toInst.L) (fun k => trivial) trivial (fun k => trivial) laws_toInst.eq
end
end Go.Proofs.Ytkfehogikjcgkaa.V
namespace Go.Proofs.Ytkfehogikjcgkaa.V
open Go
set_option linter.unusedVariables false
noncomputable section
/-! ### laws.toInstS: function 132 -/
abbrev laws_toInstS.R := (((Unit × Unit) × Unit) × ((List tInstD) × Unit))
def laws_toInstS.l0_ (k : Nat) (l0 : (List tInstD) → Int → (List tInstD) → Option laws_toInstS.R) (a0 : List tInstD) (a1 : Int) (a2 : List tInstD) : Option laws_toInstS.R := bif decide (a1 < ((List.length a0 : Nat) : Int)) then (bif (decide (0 ≤ a1)) && (decide (a1 < ((List.length a0 : Nat) : Int))) then (Option.bind (laws_toInst.f k (List.getD a0 (Int.toNat a1) tInstZ)) fun r1 => bif (decide (0 ≤ a1)) && (decide (a1 < ((List.length a2 : Nat) : Int))) then (l0 a0 (IntKind.wrap .i64 (a1 + 1)) (List.set a2 (Int.toNat a1) (r1.1.1.1, r1.1.1.2.1, r1.1.1.2.2.1, r1.1.1.2.2.2.1, r1.1.1.2.2.2.2.1, r1.1.1.2.2.2.2.2.1, r1.2.1, ()))) else none) else none) else (some ((((), ()), ()), (a2, ())))
def laws_toInstS.all : Nat → ((List tInstD) → Int → (List tInstD) → Option laws_toInstS.R) × Unit
  | 0 => (fun _ _ _ => none, ())
  | k + 1 => (laws_toInstS.l0_ k (laws_toInstS.all k).1, ())
def laws_toInstS.l0 (k : Nat) : (List tInstD) → Int → (List tInstD) → Option laws_toInstS.R := (laws_toInstS.all k).1
def laws_toInstS.f (k : Nat) (a0 : List tInstD) : Option laws_toInstS.R := bif (decide (((List.length a0 : Nat) : Int) = ((List.length a0 : Nat) : Int))) && (decide (0 ≤ ((List.length a0 : Nat) : Int))) && (decide (((List.length a0 : Nat) : Int) * 72 ≤ 281474976710656)) then (laws_toInstS.l0 k a0 0 (List.replicate (Int.toNat ((List.length a0 : Nat) : Int)) tInstZ)) else none
def laws_toInstS.s (k : Nat) : FS := ⟨[⟨false, [.lst tInst]⟩], [], false, [⟨false, [.own 100]⟩], [(100, .row true tInst)], [], fun x => laws_toInstS.f k x.1.1.1⟩
def laws_toInstS.E (k : Nat) : Ents := [(⟨166, []⟩, laws_toInst.s k)]
def laws_toInstS.L0 (l : (List tInstD) → Int → (List tInstD) → Option laws_toInstS.R) : LS laws_toInstS.R := ⟨[], [(0, ⟨false, [.lst tInst]⟩), (3, ⟨false, [.own 100000]⟩), (4, ⟨false, [.int .i64]⟩)], [(100000, .row true tInst)], fun x => l x.1.1.1 x.1.2.2.1.1 x.2.1⟩
def laws_toInstS.L (l0 : (List tInstD) → Int → (List tInstD) → Option laws_toInstS.R) : List (LS laws_toInstS.R) := [laws_toInstS.L0 l0]
def laws_toInstS.c : Code := Try.f132.body.getD .skip
theorem laws_toInstS.eq (k : Nat) (x) : (laws_toInstS.s k).pf x = execF tab (laws_toInstS.E k) Try.f132 laws_toInstS.c (laws_toInstS.s k) (laws_toInstS.L (laws_toInstS.l0 k)) x := by kernel_rfl
theorem laws_toInstS.r0 (l0 : (List tInstD) → Int → (List tInstD) → Option laws_toInstS.R) (k : Nat) (x) : laws_toInstS.l0_ k l0 x.1.1.1 x.1.2.2.1.1 x.2.1 = roundOf tab (laws_toInstS.E k) (laws_toInstS.L l0) laws_toInstS.c (fin tab Try.f132 (laws_toInstS.s k)) 0 (laws_toInstS.L0 l0) x := by kernel_rfl
theorem laws_toInstS.sound : ∀ k, Sound Try.prog 132 (laws_toInstS.s k) := sound_of mixed tab_ok (f := 132) (fn := Try.f132) (c := laws_toInstS.c) (by kernel_rfl) (by kernel_rfl) (by kernel_rfl) ⟨[⟨false, [.lst tInst]⟩], [], false, [⟨false, [.own 100]⟩], [(100, .row true tInst)], []⟩ (by kernel_rfl) (by kernel_rfl) (fun k => (laws_toInstS.s k).pf) laws_toInstS.E (fun k => (EntsOK.cons (laws_toInst.sound k) EntsOK.nil)) (fun k => laws_toInstS.L (laws_toInstS.l0 k)) (fun k => ⟨rfl, trivial⟩) ⟨fun _ => rfl, trivial⟩ (fun k => ⟨⟨(laws_toInstS.L0 (laws_toInstS.l0 (k + 1))).l, rfl, fun x => laws_toInstS.r0 (laws_toInstS.l0 k) k x⟩, trivial⟩) laws_toInstS.eq
end
end Go.Proofs.Ytkfehogikjcgkaa.V
namespace Go.Proofs.Ytkfehogikjcgkaa.V
open Go
set_option linter.unusedVariables false
noncomputable section
/-! ### laws.toTerm: function 133 -/
abbrev laws_toTerm.R := (((Int × Int × Int × Int × Unit) × Unit) × Unit)
def laws_toTerm.f (k : Nat) (a0 : tTermD) : Option laws_toTerm.R := some ((a0, ()), ())
def laws_toTerm.s (k : Nat) : FS := ⟨[⟨true, [.int .i64, .int .i64, .int .i64, .int .i64]⟩], [], false, [⟨true, [.int .i64, .int .i64, .int .i64, .int .i64]⟩], [], [], fun x => laws_toTerm.f k x.1.1⟩
def laws_toTerm.E (k : Nat) : Ents := []
def laws_toTerm.L : List (LS laws_toTerm.R) := []
def laws_toTerm.c : Code := Try.f133.body.getD .skip
theorem laws_toTerm.eq (k : Nat) (x) : (laws_toTerm.s k).pf x = execF tab (laws_toTerm.E k) Try.f133 laws_toTerm.c (laws_toTerm.s k) laws_toTerm.L x := by kernel_rfl
theorem laws_toTerm.sound : ∀ k, Sound Try.prog 133 (laws_toTerm.s k) := sound_of mixed tab_ok (f := 133) (fn := Try.f133) (c := laws_toTerm.c) (by kernel_rfl) (by kernel_rfl) (by kernel_rfl) ⟨[⟨true, [.int .i64, .int .i64, .int .i64, .int .i64]⟩], [], false, [⟨true, [.int .i64, .int .i64, .int .i64, .int .i64]⟩], [], []⟩ (by kernel_rfl) (by kernel_rfl) (fun k => (laws_toTerm.s k).pf) laws_toTerm.E (fun k => EntsOK.nil) (fun k => laws_toTerm.L) (fun k => trivial) trivial (fun k => trivial) laws_toTerm.eq
end
end Go.Proofs.Ytkfehogikjcgkaa.V
namespace Go.Proofs.Ytkfehogikjcgkaa.V
open Go
set_option linter.unusedVariables false
noncomputable section
/-! ### laws.toBlock: function 78 -/
abbrev laws_toBlock.R := (((Unit × Unit × Int × Int × Int × Int × Unit) × Unit) × ((List tPhiD) × (List tInstD) × Unit))
def laws_toBlock.f (k : Nat) (a0 : tBlockD) : Option laws_toBlock.R := Option.bind (laws_toPhiS.f k a0.1) fun r1 => Option.bind (laws_toInstS.f k a0.2.1) fun r2 => Option.bind (laws_toTerm.f k a0.2.2) fun r3 => some ((((), (), r3.1.1.1, r3.1.1.2.1, r3.1.1.2.2.1, r3.1.1.2.2.2.1, ()), ()), (r1.2.1, r2.2.1, ()))
def laws_toBlock.s (k : Nat) : FS := ⟨[⟨true, [.lst tPhi, .lst tInst, .int .i64, .int .i64, .int .i64, .int .i64]⟩], [], false, [⟨true, [.own 100, .own 101, .int .i64, .int .i64, .int .i64, .int .i64]⟩], [(100, .row true tPhi), (101, .row true tInst)], [], fun x => laws_toBlock.f k x.1.1⟩
def laws_toBlock.E (k : Nat) : Ents := [(⟨131, []⟩, laws_toPhiS.s k), (⟨132, []⟩, laws_toInstS.s k), (⟨133, []⟩, laws_toTerm.s k)]
def laws_toBlock.L : List (LS laws_toBlock.R) := []
def laws_toBlock.c : Code := Try.f78.body.getD .skip
theorem laws_toBlock.eq (k : Nat) (x) : (laws_toBlock.s k).pf x = execF tab (laws_toBlock.E k) Try.f78 laws_toBlock.c (laws_toBlock.s k) laws_toBlock.L x := by kernel_rfl
theorem laws_toBlock.sound : ∀ k, Sound Try.prog 78 (laws_toBlock.s k) := sound_of mixed tab_ok (f := 78) (fn := Try.f78) (c := laws_toBlock.c) (by kernel_rfl) (by kernel_rfl) (by kernel_rfl) ⟨[⟨true, [.lst tPhi, .lst tInst, .int .i64, .int .i64, .int .i64, .int .i64]⟩], [], false, [⟨true, [.own 100, .own 101, .int .i64, .int .i64, .int .i64, .int .i64]⟩], [(100, .row true tPhi), (101, .row true tInst)], []⟩ (by kernel_rfl) (by kernel_rfl) (fun k => (laws_toBlock.s k).pf) laws_toBlock.E (fun k => (EntsOK.cons (laws_toPhiS.sound k) (EntsOK.cons (laws_toInstS.sound k) (EntsOK.cons (laws_toTerm.sound k) EntsOK.nil)))) (fun k => laws_toBlock.L) (fun k => trivial) trivial (fun k => trivial) laws_toBlock.eq
end
end Go.Proofs.Ytkfehogikjcgkaa.V
namespace Go.Proofs.Ytkfehogikjcgkaa.V
open Go
set_option linter.unusedVariables false
noncomputable section
/-! ### laws.toBlockS: function 40 -/
abbrev laws_toBlockS.R := (((Unit × Unit) × Unit) × ((List tBlockD) × Unit))
def laws_toBlockS.l0_ (k : Nat) (l0 : (List tBlockD) → Int → (List tBlockD) → Option laws_toBlockS.R) (a0 : List tBlockD) (a1 : Int) (a2 : List tBlockD) : Option laws_toBlockS.R := bif decide (a1 < ((List.length a0 : Nat) : Int)) then (bif (decide (0 ≤ a1)) && (decide (a1 < ((List.length a0 : Nat) : Int))) then (Option.bind (laws_toBlock.f k (List.getD a0 (Int.toNat a1) tBlockZ)) fun r1 => bif (decide (0 ≤ a1)) && (decide (a1 < ((List.length a2 : Nat) : Int))) then (l0 a0 (IntKind.wrap .i64 (a1 + 1)) (List.set a2 (Int.toNat a1) (r1.2.1, r1.2.2.1, r1.1.1.2.2.1, r1.1.1.2.2.2.1, r1.1.1.2.2.2.2.1, r1.1.1.2.2.2.2.2.1, ()))) else none) else none) else (some ((((), ()), ()), (a2, ())))
def laws_toBlockS.all : Nat → ((List tBlockD) → Int → (List tBlockD) → Option laws_toBlockS.R) × Unit
  | 0 => (fun _ _ _ => none, ())
  | k + 1 => (laws_toBlockS.l0_ k (laws_toBlockS.all k).1, ())
def laws_toBlockS.l0 (k : Nat) : (List tBlockD) → Int → (List tBlockD) → Option laws_toBlockS.R := (laws_toBlockS.all k).1
def laws_toBlockS.f (k : Nat) (a0 : List tBlockD) : Option laws_toBlockS.R := bif (decide (((List.length a0 : Nat) : Int) = ((List.length a0 : Nat) : Int))) && (decide (0 ≤ ((List.length a0 : Nat) : Int))) && (decide (((List.length a0 : Nat) : Int) * 80 ≤ 281474976710656)) then (laws_toBlockS.l0 k a0 0 (List.replicate (Int.toNat ((List.length a0 : Nat) : Int)) tBlockZ)) else none
def laws_toBlockS.s (k : Nat) : FS := ⟨[⟨false, [.lst tBlock]⟩], [], false, [⟨false, [.own 100]⟩], [(100, .row true tBlock)], [], fun x => laws_toBlockS.f k x.1.1.1⟩
def laws_toBlockS.E (k : Nat) : Ents := [(⟨78, []⟩, laws_toBlock.s k)]
def laws_toBlockS.L0 (l : (List tBlockD) → Int → (List tBlockD) → Option laws_toBlockS.R) : LS laws_toBlockS.R := ⟨[], [(0, ⟨false, [.lst tBlock]⟩), (3, ⟨false, [.own 100000]⟩), (4, ⟨false, [.int .i64]⟩)], [(100000, .row true tBlock)], fun x => l x.1.1.1 x.1.2.2.1.1 x.2.1⟩
def laws_toBlockS.L (l0 : (List tBlockD) → Int → (List tBlockD) → Option laws_toBlockS.R) : List (LS laws_toBlockS.R) := [laws_toBlockS.L0 l0]
def laws_toBlockS.c : Code := Try.f40.body.getD .skip
theorem laws_toBlockS.eq (k : Nat) (x) : (laws_toBlockS.s k).pf x = execF tab (laws_toBlockS.E k) Try.f40 laws_toBlockS.c (laws_toBlockS.s k) (laws_toBlockS.L (laws_toBlockS.l0 k)) x := by kernel_rfl
theorem laws_toBlockS.r0 (l0 : (List tBlockD) → Int → (List tBlockD) → Option laws_toBlockS.R) (k : Nat) (x) : laws_toBlockS.l0_ k l0 x.1.1.1 x.1.2.2.1.1 x.2.1 = roundOf tab (laws_toBlockS.E k) (laws_toBlockS.L l0) laws_toBlockS.c (fin tab Try.f40 (laws_toBlockS.s k)) 0 (laws_toBlockS.L0 l0) x := by kernel_rfl
theorem laws_toBlockS.sound : ∀ k, Sound Try.prog 40 (laws_toBlockS.s k) := sound_of mixed tab_ok (f := 40) (fn := Try.f40) (c := laws_toBlockS.c) (by kernel_rfl) (by kernel_rfl) (by kernel_rfl) ⟨[⟨false, [.lst tBlock]⟩], [], false, [⟨false, [.own 100]⟩], [(100, .row true tBlock)], []⟩ (by kernel_rfl) (by kernel_rfl) (fun k => (laws_toBlockS.s k).pf) laws_toBlockS.E (fun k => (EntsOK.cons (laws_toBlock.sound k) EntsOK.nil)) (fun k => laws_toBlockS.L (laws_toBlockS.l0 k)) (fun k => ⟨rfl, trivial⟩) ⟨fun _ => rfl, trivial⟩ (fun k => ⟨⟨(laws_toBlockS.L0 (laws_toBlockS.l0 (k + 1))).l, rfl, fun x => laws_toBlockS.r0 (laws_toBlockS.l0 k) k x⟩, trivial⟩) laws_toBlockS.eq
end
end Go.Proofs.Ytkfehogikjcgkaa.V
namespace Go.Proofs.Ytkfehogikjcgkaa.V
open Go
set_option linter.unusedVariables false
noncomputable section
/-! ### laws.toFunc: function 12 -/
abbrev laws_toFunc.R := (((Unit × Int × Unit × Unit) × Unit) × ((List Int) × (List tBlockD) × Unit))
def laws_toFunc.f (k : Nat) (a0 : tFuncD) : Option laws_toFunc.R := Option.bind (laws_toInt64S.f k a0.1) fun r1 => Option.bind (laws_toBlockS.f k a0.2.2.1) fun r2 => some ((((), a0.2.1, (), ()), ()), (r1.2.1, r2.2.1, ()))
def laws_toFunc.s (k : Nat) : FS := ⟨[⟨true, [.lst (.int .i64), .int .i64, .lst tBlock]⟩], [], false, [⟨true, [.own 100, .int .i64, .own 101]⟩], [(100, .row true (.int .i64)), (101, .row true tBlock)], [], fun x => laws_toFunc.f k x.1.1⟩
def laws_toFunc.E (k : Nat) : Ents := [(⟨33, []⟩, laws_toInt64S.s k), (⟨40, []⟩, laws_toBlockS.s k)]
def laws_toFunc.L : List (LS laws_toFunc.R) := []
def laws_toFunc.c : Code := Try.f12.body.getD .skip
theorem laws_toFunc.eq (k : Nat) (x) : (laws_toFunc.s k).pf x = execF tab (laws_toFunc.E k) Try.f12 laws_toFunc.c (laws_toFunc.s k) laws_toFunc.L x := by kernel_rfl
theorem laws_toFunc.sound : ∀ k, Sound Try.prog 12 (laws_toFunc.s k) := sound_of mixed tab_ok (f := 12) (fn := Try.f12) (c := laws_toFunc.c) (by kernel_rfl) (by kernel_rfl) (by kernel_rfl) ⟨[⟨true, [.lst (.int .i64), .int .i64, .lst tBlock]⟩], [], false, [⟨true, [.own 100, .int .i64, .own 101]⟩], [(100, .row true (.int .i64)), (101, .row true tBlock)], []⟩ (by kernel_rfl) (by kernel_rfl) (fun k => (laws_toFunc.s k).pf) laws_toFunc.E (fun k => (EntsOK.cons (laws_toInt64S.sound k) (EntsOK.cons (laws_toBlockS.sound k) EntsOK.nil))) (fun k => laws_toFunc.L) (fun k => trivial) trivial (fun k => trivial) laws_toFunc.eq
end
end Go.Proofs.Ytkfehogikjcgkaa.V
namespace Go.Proofs.Ytkfehogikjcgkaa.V
open Go
set_option linter.unusedVariables false
noncomputable section
/-! ### spec.CountOf: function 66 -/
abbrev spec_CountOf.R := (((Int × Unit) × Unit) × Unit)
def spec_CountOf.l0_ (k : Nat) (l0 : Int → Int → tFuncD → Option spec_CountOf.R) (a0 : Int) (a1 : Int) (a2 : tFuncD) : Option spec_CountOf.R := bif decide (a1 < ((List.length a2.2.2.1 : Nat) : Int)) then (bif (decide (0 ≤ a1)) && (decide (a1 < ((List.length a2.2.2.1 : Nat) : Int))) then (bif (decide (0 ≤ a1)) && (decide (a1 < ((List.length a2.2.2.1 : Nat) : Int))) then (l0 (IntKind.wrap .i64 (a0 + (IntKind.wrap .i64 (((List.length ((List.getD a2.2.2.1 (Int.toNat a1) tBlockZ).1) : Nat) : Int) + ((List.length ((List.getD a2.2.2.1 (Int.toNat a1) tBlockZ).2.1) : Nat) : Int))))) (IntKind.wrap .i64 (a1 + 1)) a2) else none) else none) else (some (((a0, ()), ()), ()))
def spec_CountOf.all : Nat → (Int → Int → tFuncD → Option spec_CountOf.R) × Unit
  | 0 => (fun _ _ _ => none, ())
  | k + 1 => (spec_CountOf.l0_ k (spec_CountOf.all k).1, ())
def spec_CountOf.l0 (k : Nat) : Int → Int → tFuncD → Option spec_CountOf.R := (spec_CountOf.all k).1
def spec_CountOf.f (k : Nat) (a0 : tFuncD) : Option spec_CountOf.R := spec_CountOf.l0 k ((List.length a0.1 : Nat) : Int) 0 a0
def spec_CountOf.s (k : Nat) : FS := ⟨[⟨true, [.lst (.int .i64), .int .i64, .lst tBlock]⟩], [], false, [⟨false, [.int .i64]⟩], [], [], fun x => spec_CountOf.f k x.1.1⟩
def spec_CountOf.E (k : Nat) : Ents := []
def spec_CountOf.L0 (l : Int → Int → tFuncD → Option spec_CountOf.R) : LS spec_CountOf.R := ⟨[], [(1, ⟨false, [.ptr 100000 0]⟩), (3, ⟨false, [.int .i64]⟩), (4, ⟨false, [.int .i64]⟩)], [(100000, .box [.lst (.int .i64), .int .i64, .lst tBlock])], fun x => l x.1.2.1.1 x.1.2.2.1.1 x.2.1⟩
def spec_CountOf.L (l0 : Int → Int → tFuncD → Option spec_CountOf.R) : List (LS spec_CountOf.R) := [spec_CountOf.L0 l0]
def spec_CountOf.c : Code := Try.f66.body.getD .skip
theorem spec_CountOf.eq (k : Nat) (x) : (spec_CountOf.s k).pf x = execF tab (spec_CountOf.E k) Try.f66 spec_CountOf.c (spec_CountOf.s k) (spec_CountOf.L (spec_CountOf.l0 k)) x := by kernel_rfl
theorem spec_CountOf.r0 (l0 : Int → Int → tFuncD → Option spec_CountOf.R) (k : Nat) (x) : spec_CountOf.l0_ k l0 x.1.2.1.1 x.1.2.2.1.1 x.2.1 = roundOf tab (spec_CountOf.E k) (spec_CountOf.L l0) spec_CountOf.c (fin tab Try.f66 (spec_CountOf.s k)) 0 (spec_CountOf.L0 l0) x := by kernel_rfl
theorem spec_CountOf.sound : ∀ k, Sound Try.prog 66 (spec_CountOf.s k) := sound_of mixed tab_ok (f := 66) (fn := Try.f66) (c := spec_CountOf.c) (by kernel_rfl) (by kernel_rfl) (by kernel_rfl) ⟨[⟨true, [.lst (.int .i64), .int .i64, .lst tBlock]⟩], [], false, [⟨false, [.int .i64]⟩], [], []⟩ (by kernel_rfl) (by kernel_rfl) (fun k => (spec_CountOf.s k).pf) spec_CountOf.E (fun k => EntsOK.nil) (fun k => spec_CountOf.L (spec_CountOf.l0 k)) (fun k => ⟨rfl, trivial⟩) ⟨fun _ => rfl, trivial⟩ (fun k => ⟨⟨(spec_CountOf.L0 (spec_CountOf.l0 (k + 1))).l, rfl, fun x => spec_CountOf.r0 (spec_CountOf.l0 k) k x⟩, trivial⟩) spec_CountOf.eq
end
end Go.Proofs.Ytkfehogikjcgkaa.V
namespace Go.Proofs.Ytkfehogikjcgkaa.V
open Go
set_option linter.unusedVariables false
noncomputable section
/-! ### spec.WidthOk: function 89 -/
abbrev spec_WidthOk.R := (((Bool × Unit) × Unit) × Unit)
def spec_WidthOk.f (k : Nat) (a0 : Int) : Option spec_WidthOk.R := bif decide (a0 = 1) then (some (((true, ()), ()), ())) else (bif decide (a0 = 8) then (some (((true, ()), ()), ())) else (bif decide (a0 = 16) then (some (((true, ()), ()), ())) else (some (((decide (a0 = 32), ()), ()), ()))))
def spec_WidthOk.s (k : Nat) : FS := ⟨[⟨false, [.int .i64]⟩], [], false, [⟨false, [.bool]⟩], [], [], fun x => spec_WidthOk.f k x.1.1.1⟩
def spec_WidthOk.E (k : Nat) : Ents := []
def spec_WidthOk.L : List (LS spec_WidthOk.R) := []
def spec_WidthOk.c : Code := Try.f89.body.getD .skip
theorem spec_WidthOk.eq (k : Nat) (x) : (spec_WidthOk.s k).pf x = execF tab (spec_WidthOk.E k) Try.f89 spec_WidthOk.c (spec_WidthOk.s k) spec_WidthOk.L x := by kernel_rfl
theorem spec_WidthOk.sound : ∀ k, Sound Try.prog 89 (spec_WidthOk.s k) := sound_of mixed tab_ok (f := 89) (fn := Try.f89) (c := spec_WidthOk.c) (by kernel_rfl) (by kernel_rfl) (by kernel_rfl) ⟨[⟨false, [.int .i64]⟩], [], false, [⟨false, [.bool]⟩], [], []⟩ (by kernel_rfl) (by kernel_rfl) (fun k => (spec_WidthOk.s k).pf) spec_WidthOk.E (fun k => EntsOK.nil) (fun k => spec_WidthOk.L) (fun k => trivial) trivial (fun k => trivial) spec_WidthOk.eq
end
end Go.Proofs.Ytkfehogikjcgkaa.V
namespace Go.Proofs.Ytkfehogikjcgkaa.V
open Go
set_option linter.unusedVariables false
noncomputable section
/-! ### spec.l1In: function 52 -/
abbrev spec_l1In.R := (((Bool × Unit) × Unit) × Unit)
def spec_l1In.f (k : Nat) (a0 : Int) (a1 : Int) (a2 : Int) : Option spec_l1In.R := bif decide (a1 ≤ a0) then (some (((decide (a0 ≤ a2), ()), ()), ())) else (some (((false, ()), ()), ()))
def spec_l1In.s (k : Nat) : FS := ⟨[⟨false, [.int .i64]⟩, ⟨false, [.int .i64]⟩, ⟨false, [.int .i64]⟩], [], false, [⟨false, [.bool]⟩], [], [], fun x => spec_l1In.f k x.1.1.1 x.1.2.1.1 x.1.2.2.1.1⟩
def spec_l1In.E (k : Nat) : Ents := []
def spec_l1In.L : List (LS spec_l1In.R) := []
def spec_l1In.c : Code := Try.f52.body.getD .skip
theorem spec_l1In.eq (k : Nat) (x) : (spec_l1In.s k).pf x = execF tab (spec_l1In.E k) Try.f52 spec_l1In.c (spec_l1In.s k) spec_l1In.L x := by kernel_rfl
theorem spec_l1In.sound : ∀ k, Sound Try.prog 52 (spec_l1In.s k) := sound_of mixed tab_ok (f := 52) (fn := Try.f52) (c := spec_l1In.c) (by kernel_rfl) (by kernel_rfl) (by kernel_rfl) ⟨[⟨false, [.int .i64]⟩, ⟨false, [.int .i64]⟩, ⟨false, [.int .i64]⟩], [], false, [⟨false, [.bool]⟩], [], []⟩ (by kernel_rfl) (by kernel_rfl) (fun k => (spec_l1In.s k).pf) spec_l1In.E (fun k => EntsOK.nil) (fun k => spec_l1In.L) (fun k => trivial) trivial (fun k => trivial) spec_l1In.eq
end
end Go.Proofs.Ytkfehogikjcgkaa.V
namespace Go.Proofs.Ytkfehogikjcgkaa.V
open Go
set_option linter.unusedVariables false
noncomputable section
/-! ### spec.l1Copy: function 88 -/
abbrev spec_l1Copy.R := (((Unit × Unit) × Unit) × ((List Int) × Unit))
def spec_l1Copy.f (k : Nat) (a0 : List Int) : Option spec_l1Copy.R := bif decide ((List.length ([] : List Int) + List.length a0) * 8 ≤ 140737488355328) then (some ((((), ()), ()), (([] : List Int) ++ a0, ()))) else none
def spec_l1Copy.s (k : Nat) : FS := ⟨[⟨false, [.lst (.int .i64)]⟩], [], false, [⟨false, [.own 100]⟩], [(100, .row true (.int .i64))], [], fun x => spec_l1Copy.f k x.1.1.1⟩
def spec_l1Copy.E (k : Nat) : Ents := []
def spec_l1Copy.L : List (LS spec_l1Copy.R) := []
def spec_l1Copy.c : Code := Try.f88.body.getD .skip
theorem spec_l1Copy.eq (k : Nat) (x) : (spec_l1Copy.s k).pf x = execF tab (spec_l1Copy.E k) Try.f88 spec_l1Copy.c (spec_l1Copy.s k) spec_l1Copy.L x := by kernel_rfl
theorem spec_l1Copy.sound : ∀ k, Sound Try.prog 88 (spec_l1Copy.s k) := sound_of mixed tab_ok (f := 88) (fn := Try.f88) (c := spec_l1Copy.c) (by kernel_rfl) (by kernel_rfl) (by kernel_rfl) ⟨[⟨false, [.lst (.int .i64)]⟩], [], false, [⟨false, [.own 100]⟩], [(100, .row true (.int .i64))], []⟩ (by kernel_rfl) (by kernel_rfl) (fun k => (spec_l1Copy.s k).pf) spec_l1Copy.E (fun k => EntsOK.nil) (fun k => spec_l1Copy.L) (fun k => trivial) trivial (fun k => trivial) spec_l1Copy.eq
end
end Go.Proofs.Ytkfehogikjcgkaa.V
namespace Go.Proofs.Ytkfehogikjcgkaa.V
open Go
set_option linter.unusedVariables false
noncomputable section
/-! ### spec.l2Operands: function 115 -/
abbrev spec_l2Operands.R := (((Unit × Unit) × Unit) × ((List Int) × Unit))
def spec_l2Operands.f (k : Nat) (a0 : tInstD) : Option spec_l2Operands.R := Option.bind (spec_l1In.f k a0.1 1 17) fun r1 => bif r1.1.1.1 then (bif r1.1.1.1 then (some ((((), ()), ()), ([a0.2.2.1, a0.2.2.2.1], ()))) else (Option.bind (spec_l1In.f k a0.1 18 20) fun r2 => bif r2.1.1.1 then (bif r2.1.1.1 then (some ((((), ()), ()), ([a0.2.2.1], ()))) else (bif decide (a0.1 = 22) then (some ((((), ()), ()), ([a0.2.2.1, a0.2.2.2.1, a0.2.2.2.2.1], ()))) else (bif decide (a0.1 = 26) then (Option.bind (spec_l1Copy.f k a0.2.2.2.2.2.2.1) fun r3 => some ((((), ()), ()), (r3.2.1, ()))) else (some ((((), ()), ()), (([] : List Int), ())))))) else (bif decide (a0.1 = 23) then (bif decide (a0.1 = 23) then (some ((((), ()), ()), ([a0.2.2.1], ()))) else (bif decide (a0.1 = 22) then (some ((((), ()), ()), ([a0.2.2.1, a0.2.2.2.1, a0.2.2.2.2.1], ()))) else (bif decide (a0.1 = 26) then (Option.bind (spec_l1Copy.f k a0.2.2.2.2.2.2.1) fun r4 => some ((((), ()), ()), (r4.2.1, ()))) else (some ((((), ()), ()), (([] : List Int), ())))))) else (bif decide (a0.1 = 25) then (bif decide (a0.1 = 25) then (some ((((), ()), ()), ([a0.2.2.1], ()))) else (bif decide (a0.1 = 22) then (some ((((), ()), ()), ([a0.2.2.1, a0.2.2.2.1, a0.2.2.2.2.1], ()))) else (bif decide (a0.1 = 26) then (Option.bind (spec_l1Copy.f k a0.2.2.2.2.2.2.1) fun r5 => some ((((), ()), ()), (r5.2.1, ()))) else (some ((((), ()), ()), (([] : List Int), ())))))) else (bif decide (a0.1 = 27) then (some ((((), ()), ()), ([a0.2.2.1], ()))) else (bif decide (a0.1 = 22) then (some ((((), ()), ()), ([a0.2.2.1, a0.2.2.2.1, a0.2.2.2.2.1], ()))) else (bif decide (a0.1 = 26) then (Option.bind (spec_l1Copy.f k a0.2.2.2.2.2.2.1) fun r6 => some ((((), ()), ()), (r6.2.1, ()))) else (some ((((), ()), ()), (([] : List Int), ())))))))))) else (bif decide (a0.1 = 24) then (some ((((), ()), ()), ([a0.2.2.1, a0.2.2.2.1], ()))) else (Option.bind (spec_l1In.f k a0.1 18 20) fun r7 => bif r7.1.1.1 then (bif r7.1.1.1 then (some ((((), ()), ()), ([a0.2.2.1], ()))) else (bif decide (a0.1 = 22) then (some ((((), ()), ()), ([a0.2.2.1, a0.2.2.2.1, a0.2.2.2.2.1], ()))) else (bif decide (a0.1 = 26) then (Option.bind (spec_l1Copy.f k a0.2.2.2.2.2.2.1) fun r8 => some ((((), ()), ()), (r8.2.1, ()))) else (some ((((), ()), ()), (([] : List Int), ())))))) else (bif decide (a0.1 = 23) then (bif decide (a0.1 = 23) then (some ((((), ()), ()), ([a0.2.2.1], ()))) else (bif decide (a0.1 = 22) then (some ((((), ()), ()), ([a0.2.2.1, a0.2.2.2.1, a0.2.2.2.2.1], ()))) else (bif decide (a0.1 = 26) then (Option.bind (spec_l1Copy.f k a0.2.2.2.2.2.2.1) fun r9 => some ((((), ()), ()), (r9.2.1, ()))) else (some ((((), ()), ()), (([] : List Int), ())))))) else (bif decide (a0.1 = 25) then (bif decide (a0.1 = 25) then (some ((((), ()), ()), ([a0.2.2.1], ()))) else (bif decide (a0.1 = 22) then (some ((((), ()), ()), ([a0.2.2.1, a0.2.2.2.1, a0.2.2.2.2.1], ()))) else (bif decide (a0.1 = 26) then (Option.bind (spec_l1Copy.f k a0.2.2.2.2.2.2.1) fun r10 => some ((((), ()), ()), (r10.2.1, ()))) else (some ((((), ()), ()), (([] : List Int), ())))))) else (bif decide (a0.1 = 27) then (some ((((), ()), ()), ([a0.2.2.1], ()))) else (bif decide (a0.1 = 22) then (some ((((), ()), ()), ([a0.2.2.1, a0.2.2.2.1, a0.2.2.2.2.1], ()))) else (bif decide (a0.1 = 26) then (Option.bind (spec_l1Copy.f k a0.2.2.2.2.2.2.1) fun r11 => some ((((), ()), ()), (r11.2.1, ()))) else (some ((((), ()), ()), (([] : List Int), ()))))))))))
def spec_l2Operands.s (k : Nat) : FS := ⟨[⟨true, [.int .i64, .int .i64, .int .i64, .int .i64, .int .i64, .int .i64, .lst (.int .i64)]⟩], [], false, [⟨false, [.own 100]⟩], [(100, .row true (.int .i64))], [], fun x => spec_l2Operands.f k x.1.1⟩
def spec_l2Operands.E (k : Nat) : Ents := [(⟨52, []⟩, spec_l1In.s k), (⟨88, []⟩, spec_l1Copy.s k)]
def spec_l2Operands.L : List (LS spec_l2Operands.R) := []
def spec_l2Operands.c : Code := Try.f115.body.getD .skip
theorem spec_l2Operands.eq (k : Nat) (x) : (spec_l2Operands.s k).pf x = execF tab (spec_l2Operands.E k) Try.f115 spec_l2Operands.c (spec_l2Operands.s k) spec_l2Operands.L x := by kernel_rfl
theorem spec_l2Operands.sound : ∀ k, Sound Try.prog 115 (spec_l2Operands.s k) := sound_of mixed tab_ok (f := 115) (fn := Try.f115) (c := spec_l2Operands.c) (by kernel_rfl) (by kernel_rfl) (by kernel_rfl) ⟨[⟨true, [.int .i64, .int .i64, .int .i64, .int .i64, .int .i64, .int .i64, .lst (.int .i64)]⟩], [], false, [⟨false, [.own 100]⟩], [(100, .row true (.int .i64))], []⟩ (by kernel_rfl) (by kernel_rfl) (fun k => (spec_l2Operands.s k).pf) spec_l2Operands.E (fun k => (EntsOK.cons (spec_l1In.sound k) (EntsOK.cons (spec_l1Copy.sound k) EntsOK.nil))) (fun k => spec_l2Operands.L) (fun k => trivial) trivial (fun k => trivial) spec_l2Operands.eq
end
end Go.Proofs.Ytkfehogikjcgkaa.V
namespace Go.Proofs.Ytkfehogikjcgkaa.V
open Go
set_option linter.unusedVariables false
noncomputable section
/-! ### spec.l1Top: function 169 -/
abbrev spec_l1Top.R := (((Int × Unit) × Unit) × Unit)
def spec_l1Top.f (k : Nat) (a0 : Int) : Option spec_l1Top.R := bif decide (0 ≤ IntKind.wrap .u64 a0) then (some (((V.shl .i64 1 (IntKind.wrap .u64 a0), ()), ()), ())) else none
def spec_l1Top.s (k : Nat) : FS := ⟨[⟨false, [.int .i64]⟩], [], false, [⟨false, [.int .i64]⟩], [], [], fun x => spec_l1Top.f k x.1.1.1⟩
def spec_l1Top.E (k : Nat) : Ents := []
def spec_l1Top.L : List (LS spec_l1Top.R) := []
def spec_l1Top.c : Code := Try.f169.body.getD .skip
theorem spec_l1Top.eq (k : Nat) (x) : (spec_l1Top.s k).pf x = execF tab (spec_l1Top.E k) Try.f169 spec_l1Top.c (spec_l1Top.s k) spec_l1Top.L x := by kernel_rfl
theorem spec_l1Top.sound : ∀ k, Sound Try.prog 169 (spec_l1Top.s k) := sound_of mixed tab_ok (f := 169) (fn := Try.f169) (c := spec_l1Top.c) (by kernel_rfl) (by kernel_rfl) (by kernel_rfl) ⟨[⟨false, [.int .i64]⟩], [], false, [⟨false, [.int .i64]⟩], [], []⟩ (by kernel_rfl) (by kernel_rfl) (fun k => (spec_l1Top.s k).pf) spec_l1Top.E (fun k => EntsOK.nil) (fun k => spec_l1Top.L) (fun k => trivial) trivial (fun k => trivial) spec_l1Top.eq
end
end Go.Proofs.Ytkfehogikjcgkaa.V
namespace Go.Proofs.Ytkfehogikjcgkaa.V
open Go
set_option linter.unusedVariables false
noncomputable section
/-! ### spec.l1Value: function 139 -/
abbrev spec_l1Value.R := (((Bool × Unit) × Unit) × Unit)
def spec_l1Value.f (k : Nat) (a0 : Int) (a1 : Int) : Option spec_l1Value.R := Option.bind (spec_WidthOk.f k a0) fun r1 => bif r1.1.1.1 then (Option.bind (spec_l1Top.f k a0) fun r2 => Option.bind (spec_l1In.f k a1 0 (IntKind.wrap .i64 (r2.1.1.1 - 1))) fun r3 => some (((r3.1.1.1, ()), ()), ())) else (some (((false, ()), ()), ()))
def spec_l1Value.s (k : Nat) : FS := ⟨[⟨false, [.int .i64]⟩, ⟨false, [.int .i64]⟩], [], false, [⟨false, [.bool]⟩], [], [], fun x => spec_l1Value.f k x.1.1.1 x.1.2.1.1⟩
def spec_l1Value.E (k : Nat) : Ents := [(⟨89, []⟩, spec_WidthOk.s k), (⟨169, []⟩, spec_l1Top.s k), (⟨52, []⟩, spec_l1In.s k)]
def spec_l1Value.L : List (LS spec_l1Value.R) := []
def spec_l1Value.c : Code := Try.f139.body.getD .skip
theorem spec_l1Value.eq (k : Nat) (x) : (spec_l1Value.s k).pf x = execF tab (spec_l1Value.E k) Try.f139 spec_l1Value.c (spec_l1Value.s k) spec_l1Value.L x := by kernel_rfl
theorem spec_l1Value.sound : ∀ k, Sound Try.prog 139 (spec_l1Value.s k) := sound_of mixed tab_ok (f := 139) (fn := Try.f139) (c := spec_l1Value.c) (by kernel_rfl) (by kernel_rfl) (by kernel_rfl) ⟨[⟨false, [.int .i64]⟩, ⟨false, [.int .i64]⟩], [], false, [⟨false, [.bool]⟩], [], []⟩ (by kernel_rfl) (by kernel_rfl) (fun k => (spec_l1Value.s k).pf) spec_l1Value.E (fun k => (EntsOK.cons (spec_WidthOk.sound k) (EntsOK.cons (spec_l1Top.sound k) (EntsOK.cons (spec_l1In.sound k) EntsOK.nil)))) (fun k => spec_l1Value.L) (fun k => trivial) trivial (fun k => trivial) spec_l1Value.eq
end
end Go.Proofs.Ytkfehogikjcgkaa.V
namespace Go.Proofs.Ytkfehogikjcgkaa.V
open Go
set_option linter.unusedVariables false
noncomputable section
/-! ### spec.l2Inst: function 90 -/
abbrev spec_l2Inst.R := (((Bool × Unit) × Unit) × Unit)
def spec_l2Inst.l0_ (k : Nat) (l0 : Int → Int → Int → tInstD → (List Int) → Option spec_l2Inst.R) (a0 : Int) (a1 : Int) (a2 : Int) (a3 : tInstD) (a4 : List Int) : Option spec_l2Inst.R := bif decide (a2 < ((List.length a4 : Nat) : Int)) then (bif (decide (0 ≤ a2)) && (decide (a2 < ((List.length a4 : Nat) : Int))) then (Option.bind (spec_l1In.f k (List.getD a4 (Int.toNat a2) 0) 0 (IntKind.wrap .i64 (a0 - 1))) fun r1 => bif !r1.1.1.1 then (some (((false, ()), ()), ())) else (l0 a0 a1 (IntKind.wrap .i64 (a2 + 1)) a3 a4)) else none) else (bif decide (a3.1 = 24) then (bif !(true == (decide (a3.2.1 = 0))) then (some (((false, ()), ()), ())) else (bif decide (4 < ((List.length a3.2.2.2.2.2.2.1 : Nat) : Int)) then (some (((false, ()), ()), ())) else (bif decide (a3.1 = 26) then (bif decide (0 < 1) then (bif !decide (a3.2.2.1 = 0) then (some (((false, ()), ()), ())) else (bif decide (0 < 2) then (bif !decide (a3.2.2.2.1 = 0) then (some (((false, ()), ()), ())) else (bif decide (0 < 3) then (bif !decide (a3.2.2.2.2.1 = 0) then (some (((false, ()), ()), ())) else (bif decide (a3.1 = 21) then (Option.bind (spec_l1Value.f k a3.2.1 a3.2.2.2.2.2.1) fun r2 => some (((r2.1.1.1, ()), ()), ())) else (bif decide (a3.1 = 26) then (Option.bind (spec_l1In.f k a3.2.2.2.2.2.1 0 (IntKind.wrap .i64 (a1 - 1))) fun r3 => some (((r3.1.1.1, ()), ()), ())) else (bif decide (a3.1 = 23) then (bif decide (a3.2.1 = 8) then (some (((decide (a3.2.2.2.2.2.1 = 0), ()), ()), ())) else (some (((false, ()), ()), ()))) else (some (((decide (a3.2.2.2.2.2.1 = 0), ()), ()), ())))))) else (bif decide (a3.1 = 21) then (Option.bind (spec_l1Value.f k a3.2.1 a3.2.2.2.2.2.1) fun r4 => some (((r4.1.1.1, ()), ()), ())) else (bif decide (a3.1 = 26) then (Option.bind (spec_l1In.f k a3.2.2.2.2.2.1 0 (IntKind.wrap .i64 (a1 - 1))) fun r5 => some (((r5.1.1.1, ()), ()), ())) else (bif decide (a3.1 = 23) then (bif decide (a3.2.1 = 8) then (some (((decide (a3.2.2.2.2.2.1 = 0), ()), ()), ())) else (some (((false, ()), ()), ()))) else (some (((decide (a3.2.2.2.2.2.1 = 0), ()), ()), ()))))))) else (bif decide (0 < 3) then (bif !decide (a3.2.2.2.2.1 = 0) then (some (((false, ()), ()), ())) else (bif decide (a3.1 = 21) then (Option.bind (spec_l1Value.f k a3.2.1 a3.2.2.2.2.2.1) fun r6 => some (((r6.1.1.1, ()), ()), ())) else (bif decide (a3.1 = 26) then (Option.bind (spec_l1In.f k a3.2.2.2.2.2.1 0 (IntKind.wrap .i64 (a1 - 1))) fun r7 => some (((r7.1.1.1, ()), ()), ())) else (bif decide (a3.1 = 23) then (bif decide (a3.2.1 = 8) then (some (((decide (a3.2.2.2.2.2.1 = 0), ()), ()), ())) else (some (((false, ()), ()), ()))) else (some (((decide (a3.2.2.2.2.2.1 = 0), ()), ()), ())))))) else (bif decide (a3.1 = 21) then (Option.bind (spec_l1Value.f k a3.2.1 a3.2.2.2.2.2.1) fun r8 => some (((r8.1.1.1, ()), ()), ())) else (bif decide (a3.1 = 26) then (Option.bind (spec_l1In.f k a3.2.2.2.2.2.1 0 (IntKind.wrap .i64 (a1 - 1))) fun r9 => some (((r9.1.1.1, ()), ()), ())) else (bif decide (a3.1 = 23) then (bif decide (a3.2.1 = 8) then (some (((decide (a3.2.2.2.2.2.1 = 0), ()), ()), ())) else (some (((false, ()), ()), ()))) else (some (((decide (a3.2.2.2.2.2.1 = 0), ()), ()), ())))))))) else (bif decide (0 < 2) then (bif !decide (a3.2.2.2.1 = 0) then (some (((false, ()), ()), ())) else (bif decide (0 < 3) then (bif !decide (a3.2.2.2.2.1 = 0) then (some (((false, ()), ()), ())) else (bif decide (a3.1 = 21) then (Option.bind (spec_l1Value.f k a3.2.1 a3.2.2.2.2.2.1) fun r10 => some (((r10.1.1.1, ()), ()), ())) else (bif decide (a3.1 = 26) then (Option.bind (spec_l1In.f k a3.2.2.2.2.2.1 0 (IntKind.wrap .i64 (a1 - 1))) fun r11 => some (((r11.1.1.1, ()), ()), ())) else (bif decide (a3.1 = 23) then (bif decide (a3.2.1 = 8) then (some (((decide (a3.2.2.2.2.2.1 = 0), ()), ()), ())) else (some (((false, ()), ()), ()))) else (some (((decide (a3.2.2.2.2.2.1 = 0), ()), ()), ())))))) else (bif decide (a3.1 = 21) then (Option.bind (spec_l1Value.f k a3.2.1 a3.2.2.2.2.2.1) fun r12 => some (((r12.1.1.1, ()), ()), ())) else (bif decide (a3.1 = 26) then (Option.bind (spec_l1In.f k a3.2.2.2.2.2.1 0 (IntKind.wrap .i64 (a1 - 1))) fun r13 => some (((r13.1.1.1, ()), ()), ())) else (bif decide (a3.1 = 23) then (bif decide (a3.2.1 = 8) then (some (((decide (a3.2.2.2.2.2.1 = 0), ()), ()), ())) else (some (((false, ()), ()), ()))) else (some (((decide (a3.2.2.2.2.2.1 = 0), ()), ()), ()))))))) else (bif decide (0 < 3) then (bif !decide (a3.2.2.2.2.1 = 0) then (some (((false, ()), ()), ())) else (bif decide (a3.1 = 21) then (Option.bind (spec_l1Value.f k a3.2.1 a3.2.2.2.2.2.1) fun r14 => some (((r14.1.1.1, ()), ()), ())) else (bif decide (a3.1 = 26) then (Option.bind (spec_l1In.f k a3.2.2.2.2.2.1 0 (IntKind.wrap .i64 (a1 - 1))) fun r15 => some (((r15.1.1.1, ()), ()), ())) else (bif decide (a3.1 = 23) then (bif decide (a3.2.1 = 8) then (some (((decide (a3.2.2.2.2.2.1 = 0), ()), ()), ())) else (some (((false, ()), ()), ()))) else (some (((decide (a3.2.2.2.2.2.1 = 0), ()), ()), ())))))) else (bif decide (a3.1 = 21) then (Option.bind (spec_l1Value.f k a3.2.1 a3.2.2.2.2.2.1) fun r16 => some (((r16.1.1.1, ()), ()), ())) else (bif decide (a3.1 = 26) then (Option.bind (spec_l1In.f k a3.2.2.2.2.2.1 0 (IntKind.wrap .i64 (a1 - 1))) fun r17 => some (((r17.1.1.1, ()), ()), ())) else (bif decide (a3.1 = 23) then (bif decide (a3.2.1 = 8) then (some (((decide (a3.2.2.2.2.2.1 = 0), ()), ()), ())) else (some (((false, ()), ()), ()))) else (some (((decide (a3.2.2.2.2.2.1 = 0), ()), ()), ())))))))) else (bif decide (((List.length a4 : Nat) : Int) < 1) then (bif !decide (a3.2.2.1 = 0) then (some (((false, ()), ()), ())) else (bif decide (((List.length a4 : Nat) : Int) < 2) then (bif !decide (a3.2.2.2.1 = 0) then (some (((false, ()), ()), ())) else (bif decide (((List.length a4 : Nat) : Int) < 3) then (bif !decide (a3.2.2.2.2.1 = 0) then (some (((false, ()), ()), ())) else (bif decide (a3.1 = 21) then (Option.bind (spec_l1Value.f k a3.2.1 a3.2.2.2.2.2.1) fun r18 => some (((r18.1.1.1, ()), ()), ())) else (bif decide (a3.1 = 26) then (Option.bind (spec_l1In.f k a3.2.2.2.2.2.1 0 (IntKind.wrap .i64 (a1 - 1))) fun r19 => some (((r19.1.1.1, ()), ()), ())) else (bif decide (a3.1 = 23) then (bif decide (a3.2.1 = 8) then (some (((decide (a3.2.2.2.2.2.1 = 0), ()), ()), ())) else (some (((false, ()), ()), ()))) else (some (((decide (a3.2.2.2.2.2.1 = 0), ()), ()), ())))))) else (bif decide (a3.1 = 21) then (Option.bind (spec_l1Value.f k a3.2.1 a3.2.2.2.2.2.1) fun r20 => some (((r20.1.1.1, ()), ()), ())) else (bif decide (a3.1 = 26) then (Option.bind (spec_l1In.f k a3.2.2.2.2.2.1 0 (IntKind.wrap .i64 (a1 - 1))) fun r21 => some (((r21.1.1.1, ()), ()), ())) else (bif decide (a3.1 = 23) then (bif decide (a3.2.1 = 8) then (some (((decide (a3.2.2.2.2.2.1 = 0), ()), ()), ())) else (some (((false, ()), ()), ()))) else (some (((decide (a3.2.2.2.2.2.1 = 0), ()), ()), ()))))))) else (bif decide (((List.length a4 : Nat) : Int) < 3) then (bif !decide (a3.2.2.2.2.1 = 0) then (some (((false, ()), ()), ())) else (bif decide (a3.1 = 21) then (Option.bind (spec_l1Value.f k a3.2.1 a3.2.2.2.2.2.1) fun r22 => some (((r22.1.1.1, ()), ()), ())) else (bif decide (a3.1 = 26) then (Option.bind (spec_l1In.f k a3.2.2.2.2.2.1 0 (IntKind.wrap .i64 (a1 - 1))) fun r23 => some (((r23.1.1.1, ()), ()), ())) else (bif decide (a3.1 = 23) then (bif decide (a3.2.1 = 8) then (some (((decide (a3.2.2.2.2.2.1 = 0), ()), ()), ())) else (some (((false, ()), ()), ()))) else (some (((decide (a3.2.2.2.2.2.1 = 0), ()), ()), ())))))) else (bif decide (a3.1 = 21) then (Option.bind (spec_l1Value.f k a3.2.1 a3.2.2.2.2.2.1) fun r24 => some (((r24.1.1.1, ()), ()), ())) else (bif decide (a3.1 = 26) then (Option.bind (spec_l1In.f k a3.2.2.2.2.2.1 0 (IntKind.wrap .i64 (a1 - 1))) fun r25 => some (((r25.1.1.1, ()), ()), ())) else (bif decide (a3.1 = 23) then (bif decide (a3.2.1 = 8) then (some (((decide (a3.2.2.2.2.2.1 = 0), ()), ()), ())) else (some (((false, ()), ()), ()))) else (some (((decide (a3.2.2.2.2.2.1 = 0), ()), ()), ())))))))) else (bif decide (((List.length a4 : Nat) : Int) < 2) then (bif !decide (a3.2.2.2.1 = 0) then (some (((false, ()), ()), ())) else (bif decide (((List.length a4 : Nat) : Int) < 3) then (bif !decide (a3.2.2.2.2.1 = 0) then (some (((false, ()), ()), ())) else (bif decide (a3.1 = 21) then (Option.bind (spec_l1Value.f k a3.2.1 a3.2.2.2.2.2.1) fun r26 => some (((r26.1.1.1, ()), ()), ())) else (bif decide (a3.1 = 26) then (Option.bind (spec_l1In.f k a3.2.2.2.2.2.1 0 (IntKind.wrap .i64 (a1 - 1))) fun r27 => some (((r27.1.1.1, ()), ()), ())) else (bif decide (a3.1 = 23) then (bif decide (a3.2.1 = 8) then (some (((decide (a3.2.2.2.2.2.1 = 0), ()), ()), ())) else (some (((false, ()), ()), ()))) else (some (((decide (a3.2.2.2.2.2.1 = 0), ()), ()), ())))))) else (bif decide (a3.1 = 21) then (Option.bind (spec_l1Value.f k a3.2.1 a3.2.2.2.2.2.1) fun r28 => some (((r28.1.1.1, ()), ()), ())) else (bif decide (a3.1 = 26) then (Option.bind (spec_l1In.f k a3.2.2.2.2.2.1 0 (IntKind.wrap .i64 (a1 - 1))) fun r29 => some (((r29.1.1.1, ()), ()), ())) else (bif decide (a3.1 = 23) then (bif decide (a3.2.1 = 8) then (some (((decide (a3.2.2.2.2.2.1 = 0), ()), ()), ())) else (some (((false, ()), ()), ()))) else (some (((decide (a3.2.2.2.2.2.1 = 0), ()), ()), ()))))))) else (bif decide (((List.length a4 : Nat) : Int) < 3) then (bif !decide (a3.2.2.2.2.1 = 0) then (some (((false, ()), ()), ())) else (bif decide (a3.1 = 21) then (Option.bind (spec_l1Value.f k a3.2.1 a3.2.2.2.2.2.1) fun r30 => some (((r30.1.1.1, ()), ()), ())) else (bif decide (a3.1 = 26) then (Option.bind (spec_l1In.f k a3.2.2.2.2.2.1 0 (IntKind.wrap .i64 (a1 - 1))) fun r31 => some (((r31.1.1.1, ()), ()), ())) else (bif decide (a3.1 = 23) then (bif decide (a3.2.1 = 8) then (some (((decide (a3.2.2.2.2.2.1 = 0), ()), ()), ())) else (some (((false, ()), ()), ()))) else (some (((decide (a3.2.2.2.2.2.1 = 0), ()), ()), ())))))) else (bif decide (a3.1 = 21) then (Option.bind (spec_l1Value.f k a3.2.1 a3.2.2.2.2.2.1) fun r32 => some (((r32.1.1.1, ()), ()), ())) else (bif decide (a3.1 = 26) then (Option.bind (spec_l1In.f k a3.2.2.2.2.2.1 0 (IntKind.wrap .i64 (a1 - 1))) fun r33 => some (((r33.1.1.1, ()), ()), ())) else (bif decide (a3.1 = 23) then (bif decide (a3.2.1 = 8) then (some (((decide (a3.2.2.2.2.2.1 = 0), ()), ()), ())) else (some (((false, ()), ()), ()))) else (some (((decide (a3.2.2.2.2.2.1 = 0), ()), ()), ()))))))))))) else (bif !((decide (a3.1 = 25)) == (decide (a3.2.1 = 0))) then (some (((false, ()), ()), ())) else (bif !(decide (a3.1 = 25)) then (Option.bind (spec_WidthOk.f k a3.2.1) fun r34 => bif !r34.1.1.1 then (some (((false, ()), ()), ())) else (bif decide (4 < ((List.length a3.2.2.2.2.2.2.1 : Nat) : Int)) then (some (((false, ()), ()), ())) else (bif decide (a3.1 = 26) then (bif decide (0 < 1) then (bif !decide (a3.2.2.1 = 0) then (some (((false, ()), ()), ())) else (bif decide (0 < 2) then (bif !decide (a3.2.2.2.1 = 0) then (some (((false, ()), ()), ())) else (bif decide (0 < 3) then (bif !decide (a3.2.2.2.2.1 = 0) then (some (((false, ()), ()), ())) else (bif decide (a3.1 = 21) then (Option.bind (spec_l1Value.f k a3.2.1 a3.2.2.2.2.2.1) fun r35 => some (((r35.1.1.1, ()), ()), ())) else (bif decide (a3.1 = 26) then (Option.bind (spec_l1In.f k a3.2.2.2.2.2.1 0 (IntKind.wrap .i64 (a1 - 1))) fun r36 => some (((r36.1.1.1, ()), ()), ())) else (bif decide (a3.1 = 23) then (bif decide (a3.2.1 = 8) then (some (((decide (a3.2.2.2.2.2.1 = 0), ()), ()), ())) else (some (((false, ()), ()), ()))) else (some (((decide (a3.2.2.2.2.2.1 = 0), ()), ()), ())))))) else (bif decide (a3.1 = 21) then (Option.bind (spec_l1Value.f k a3.2.1 a3.2.2.2.2.2.1) fun r37 => some (((r37.1.1.1, ()), ()), ())) else (bif decide (a3.1 = 26) then (Option.bind (spec_l1In.f k a3.2.2.2.2.2.1 0 (IntKind.wrap .i64 (a1 - 1))) fun r38 => some (((r38.1.1.1, ()), ()), ())) else (bif decide (a3.1 = 23) then (bif decide (a3.2.1 = 8) then (some (((decide (a3.2.2.2.2.2.1 = 0), ()), ()), ())) else (some (((false, ()), ()), ()))) else (some (((decide (a3.2.2.2.2.2.1 = 0), ()), ()), ()))))))) else (bif decide (0 < 3) then (bif !decide (a3.2.2.2.2.1 = 0) then (some (((false, ()), ()), ())) else (bif decide (a3.1 = 21) then (Option.bind (spec_l1Value.f k a3.2.1 a3.2.2.2.2.2.1) fun r39 => some (((r39.1.1.1, ()), ()), ())) else (bif decide (a3.1 = 26) then (Option.bind (spec_l1In.f k a3.2.2.2.2.2.1 0 (IntKind.wrap .i64 (a1 - 1))) fun r40 => some (((r40.1.1.1, ()), ()), ())) else (bif decide (a3.1 = 23) then (bif decide (a3.2.1 = 8) then (some (((decide (a3.2.2.2.2.2.1 = 0), ()), ()), ())) else (some (((false, ()), ()), ()))) else (some (((decide (a3.2.2.2.2.2.1 = 0), ()), ()), ())))))) else (bif decide (a3.1 = 21) then (Option.bind (spec_l1Value.f k a3.2.1 a3.2.2.2.2.2.1) fun r41 => some (((r41.1.1.1, ()), ()), ())) else (bif decide (a3.1 = 26) then (Option.bind (spec_l1In.f k a3.2.2.2.2.2.1 0 (IntKind.wrap .i64 (a1 - 1))) fun r42 => some (((r42.1.1.1, ()), ()), ())) else (bif decide (a3.1 = 23) then (bif decide (a3.2.1 = 8) then (some (((decide (a3.2.2.2.2.2.1 = 0), ()), ()), ())) else (some (((false, ()), ()), ()))) else (some (((decide (a3.2.2.2.2.2.1 = 0), ()), ()), ())))))))) else (bif decide (0 < 2) then (bif !decide (a3.2.2.2.1 = 0) then (some (((false, ()), ()), ())) else (bif decide (0 < 3) then (bif !decide (a3.2.2.2.2.1 = 0) then (some (((false, ()), ()), ())) else (bif decide (a3.1 = 21) then (Option.bind (spec_l1Value.f k a3.2.1 a3.2.2.2.2.2.1) fun r43 => some (((r43.1.1.1, ()), ()), ())) else (bif decide (a3.1 = 26) then (Option.bind (spec_l1In.f k a3.2.2.2.2.2.1 0 (IntKind.wrap .i64 (a1 - 1))) fun r44 => some (((r44.1.1.1, ()), ()), ())) else (bif decide (a3.1 = 23) then (bif decide (a3.2.1 = 8) then (some (((decide (a3.2.2.2.2.2.1 = 0), ()), ()), ())) else (some (((false, ()), ()), ()))) else (some (((decide (a3.2.2.2.2.2.1 = 0), ()), ()), ())))))) else (bif decide (a3.1 = 21) then (Option.bind (spec_l1Value.f k a3.2.1 a3.2.2.2.2.2.1) fun r45 => some (((r45.1.1.1, ()), ()), ())) else (bif decide (a3.1 = 26) then (Option.bind (spec_l1In.f k a3.2.2.2.2.2.1 0 (IntKind.wrap .i64 (a1 - 1))) fun r46 => some (((r46.1.1.1, ()), ()), ())) else (bif decide (a3.1 = 23) then (bif decide (a3.2.1 = 8) then (some (((decide (a3.2.2.2.2.2.1 = 0), ()), ()), ())) else (some (((false, ()), ()), ()))) else (some (((decide (a3.2.2.2.2.2.1 = 0), ()), ()), ()))))))) else (bif decide (0 < 3) then (bif !decide (a3.2.2.2.2.1 = 0) then (some (((false, ()), ()), ())) else (bif decide (a3.1 = 21) then (Option.bind (spec_l1Value.f k a3.2.1 a3.2.2.2.2.2.1) fun r47 => some (((r47.1.1.1, ()), ()), ())) else (bif decide (a3.1 = 26) then (Option.bind (spec_l1In.f k a3.2.2.2.2.2.1 0 (IntKind.wrap .i64 (a1 - 1))) fun r48 => some (((r48.1.1.1, ()), ()), ())) else (bif decide (a3.1 = 23) then (bif decide (a3.2.1 = 8) then (some (((decide (a3.2.2.2.2.2.1 = 0), ()), ()), ())) else (some (((false, ()), ()), ()))) else (some (((decide (a3.2.2.2.2.2.1 = 0), ()), ()), ())))))) else (bif decide (a3.1 = 21) then (Option.bind (spec_l1Value.f k a3.2.1 a3.2.2.2.2.2.1) fun r49 => some (((r49.1.1.1, ()), ()), ())) else (bif decide (a3.1 = 26) then (Option.bind (spec_l1In.f k a3.2.2.2.2.2.1 0 (IntKind.wrap .i64 (a1 - 1))) fun r50 => some (((r50.1.1.1, ()), ()), ())) else (bif decide (a3.1 = 23) then (bif decide (a3.2.1 = 8) then (some (((decide (a3.2.2.2.2.2.1 = 0), ()), ()), ())) else (some (((false, ()), ()), ()))) else (some (((decide (a3.2.2.2.2.2.1 = 0), ()), ()), ())))))))) else (bif decide (((List.length a4 : Nat) : Int) < 1) then (bif !decide (a3.2.2.1 = 0) then (some (((false, ()), ()), ())) else (bif decide (((List.length a4 : Nat) : Int) < 2) then (bif !decide (a3.2.2.2.1 = 0) then (some (((false, ()), ()), ())) else (bif decide (((List.length a4 : Nat) : Int) < 3) then (bif !decide (a3.2.2.2.2.1 = 0) then (some (((false, ()), ()), ())) else (bif decide (a3.1 = 21) then (Option.bind (spec_l1Value.f k a3.2.1 a3.2.2.2.2.2.1) fun r51 => some (((r51.1.1.1, ()), ()), ())) else (bif decide (a3.1 = 26) then (Option.bind (spec_l1In.f k a3.2.2.2.2.2.1 0 (IntKind.wrap .i64 (a1 - 1))) fun r52 => some (((r52.1.1.1, ()), ()), ())) else (bif decide (a3.1 = 23) then (bif decide (a3.2.1 = 8) then (some (((decide (a3.2.2.2.2.2.1 = 0), ()), ()), ())) else (some (((false, ()), ()), ()))) else (some (((decide (a3.2.2.2.2.2.1 = 0), ()), ()), ())))))) else (bif decide (a3.1 = 21) then (Option.bind (spec_l1Value.f k a3.2.1 a3.2.2.2.2.2.1) fun r53 => some (((r53.1.1.1, ()), ()), ())) else (bif decide (a3.1 = 26) then (Option.bind (spec_l1In.f k a3.2.2.2.2.2.1 0 (IntKind.wrap .i64 (a1 - 1))) fun r54 => some (((r54.1.1.1, ()), ()), ())) else (bif decide (a3.1 = 23) then (bif decide (a3.2.1 = 8) then (some (((decide (a3.2.2.2.2.2.1 = 0), ()), ()), ())) else (some (((false, ()), ()), ()))) else (some (((decide (a3.2.2.2.2.2.1 = 0), ()), ()), ()))))))) else (bif decide (((List.length a4 : Nat) : Int) < 3) then (bif !decide (a3.2.2.2.2.1 = 0) then (some (((false, ()), ()), ())) else (bif decide (a3.1 = 21) then (Option.bind (spec_l1Value.f k a3.2.1 a3.2.2.2.2.2.1) fun r55 => some (((r55.1.1.1, ()), ()), ())) else (bif decide (a3.1 = 26) then (Option.bind (spec_l1In.f k a3.2.2.2.2.2.1 0 (IntKind.wrap .i64 (a1 - 1))) fun r56 => some (((r56.1.1.1, ()), ()), ())) else (bif decide (a3.1 = 23) then (bif decide (a3.2.1 = 8) then (some (((decide (a3.2.2.2.2.2.1 = 0), ()), ()), ())) else (some (((false, ()), ()), ()))) else (some (((decide (a3.2.2.2.2.2.1 = 0), ()), ()), ())))))) else (bif decide (a3.1 = 21) then (Option.bind (spec_l1Value.f k a3.2.1 a3.2.2.2.2.2.1) fun r57 => some (((r57.1.1.1, ()), ()), ())) else (bif decide (a3.1 = 26) then (Option.bind (spec_l1In.f k a3.2.2.2.2.2.1 0 (IntKind.wrap .i64 (a1 - 1))) fun r58 => some (((r58.1.1.1, ()), ()), ())) else (bif decide (a3.1 = 23) then (bif decide (a3.2.1 = 8) then (some (((decide (a3.2.2.2.2.2.1 = 0), ()), ()), ())) else (some (((false, ()), ()), ()))) else (some (((decide (a3.2.2.2.2.2.1 = 0), ()), ()), ())))))))) else (bif decide (((List.length a4 : Nat) : Int) < 2) then (bif !decide (a3.2.2.2.1 = 0) then (some (((false, ()), ()), ())) else (bif decide (((List.length a4 : Nat) : Int) < 3) then (bif !decide (a3.2.2.2.2.1 = 0) then (some (((false, ()), ()), ())) else (bif decide (a3.1 = 21) then (Option.bind (spec_l1Value.f k a3.2.1 a3.2.2.2.2.2.1) fun r59 => some (((r59.1.1.1, ()), ()), ())) else (bif decide (a3.1 = 26) then (Option.bind (spec_l1In.f k a3.2.2.2.2.2.1 0 (IntKind.wrap .i64 (a1 - 1))) fun r60 => some (((r60.1.1.1, ()), ()), ())) else (bif decide (a3.1 = 23) then (bif decide (a3.2.1 = 8) then (some (((decide (a3.2.2.2.2.2.1 = 0), ()), ()), ())) else (some (((false, ()), ()), ()))) else (some (((decide (a3.2.2.2.2.2.1 = 0), ()), ()), ())))))) else (bif decide (a3.1 = 21) then (Option.bind (spec_l1Value.f k a3.2.1 a3.2.2.2.2.2.1) fun r61 => some (((r61.1.1.1, ()), ()), ())) else (bif decide (a3.1 = 26) then (Option.bind (spec_l1In.f k a3.2.2.2.2.2.1 0 (IntKind.wrap .i64 (a1 - 1))) fun r62 => some (((r62.1.1.1, ()), ()), ())) else (bif decide (a3.1 = 23) then (bif decide (a3.2.1 = 8) then (some (((decide (a3.2.2.2.2.2.1 = 0), ()), ()), ())) else (some (((false, ()), ()), ()))) else (some (((decide (a3.2.2.2.2.2.1 = 0), ()), ()), ()))))))) else (bif decide (((List.length a4 : Nat) : Int) < 3) then (bif !decide (a3.2.2.2.2.1 = 0) then (some (((false, ()), ()), ())) else (bif decide (a3.1 = 21) then (Option.bind (spec_l1Value.f k a3.2.1 a3.2.2.2.2.2.1) fun r63 => some (((r63.1.1.1, ()), ()), ())) else (bif decide (a3.1 = 26) then (Option.bind (spec_l1In.f k a3.2.2.2.2.2.1 0 (IntKind.wrap .i64 (a1 - 1))) fun r64 => some (((r64.1.1.1, ()), ()), ())) else (bif decide (a3.1 = 23) then (bif decide (a3.2.1 = 8) then (some (((decide (a3.2.2.2.2.2.1 = 0), ()), ()), ())) else (some (((false, ()), ()), ()))) else (some (((decide (a3.2.2.2.2.2.1 = 0), ()), ()), ())))))) else (bif decide (a3.1 = 21) then (Option.bind (spec_l1Value.f k a3.2.1 a3.2.2.2.2.2.1) fun r65 => some (((r65.1.1.1, ()), ()), ())) else (bif decide (a3.1 = 26) then (Option.bind (spec_l1In.f k a3.2.2.2.2.2.1 0 (IntKind.wrap .i64 (a1 - 1))) fun r66 => some (((r66.1.1.1, ()), ()), ())) else (bif decide (a3.1 = 23) then (bif decide (a3.2.1 = 8) then (some (((decide (a3.2.2.2.2.2.1 = 0), ()), ()), ())) else (some (((false, ()), ()), ()))) else (some (((decide (a3.2.2.2.2.2.1 = 0), ()), ()), ()))))))))))) else (bif decide (4 < ((List.length a3.2.2.2.2.2.2.1 : Nat) : Int)) then (some (((false, ()), ()), ())) else (bif decide (a3.1 = 26) then (bif decide (0 < 1) then (bif !decide (a3.2.2.1 = 0) then (some (((false, ()), ()), ())) else (bif decide (0 < 2) then (bif !decide (a3.2.2.2.1 = 0) then (some (((false, ()), ()), ())) else (bif decide (0 < 3) then (bif !decide (a3.2.2.2.2.1 = 0) then (some (((false, ()), ()), ())) else (bif decide (a3.1 = 21) then (Option.bind (spec_l1Value.f k a3.2.1 a3.2.2.2.2.2.1) fun r67 => some (((r67.1.1.1, ()), ()), ())) else (bif decide (a3.1 = 26) then (Option.bind (spec_l1In.f k a3.2.2.2.2.2.1 0 (IntKind.wrap .i64 (a1 - 1))) fun r68 => some (((r68.1.1.1, ()), ()), ())) else (bif decide (a3.1 = 23) then (bif decide (a3.2.1 = 8) then (some (((decide (a3.2.2.2.2.2.1 = 0), ()), ()), ())) else (some (((false, ()), ()), ()))) else (some (((decide (a3.2.2.2.2.2.1 = 0), ()), ()), ())))))) else (bif decide (a3.1 = 21) then (Option.bind (spec_l1Value.f k a3.2.1 a3.2.2.2.2.2.1) fun r69 => some (((r69.1.1.1, ()), ()), ())) else (bif decide (a3.1 = 26) then (Option.bind (spec_l1In.f k a3.2.2.2.2.2.1 0 (IntKind.wrap .i64 (a1 - 1))) fun r70 => some (((r70.1.1.1, ()), ()), ())) else (bif decide (a3.1 = 23) then (bif decide (a3.2.1 = 8) then (some (((decide (a3.2.2.2.2.2.1 = 0), ()), ()), ())) else (some (((false, ()), ()), ()))) else (some (((decide (a3.2.2.2.2.2.1 = 0), ()), ()), ()))))))) else (bif decide (0 < 3) then (bif !decide (a3.2.2.2.2.1 = 0) then (some (((false, ()), ()), ())) else (bif decide (a3.1 = 21) then (Option.bind (spec_l1Value.f k a3.2.1 a3.2.2.2.2.2.1) fun r71 => some (((r71.1.1.1, ()), ()), ())) else (bif decide (a3.1 = 26) then (Option.bind (spec_l1In.f k a3.2.2.2.2.2.1 0 (IntKind.wrap .i64 (a1 - 1))) fun r72 => some (((r72.1.1.1, ()), ()), ())) else (bif decide (a3.1 = 23) then (bif decide (a3.2.1 = 8) then (some (((decide (a3.2.2.2.2.2.1 = 0), ()), ()), ())) else (some (((false, ()), ()), ()))) else (some (((decide (a3.2.2.2.2.2.1 = 0), ()), ()), ())))))) else (bif decide (a3.1 = 21) then (Option.bind (spec_l1Value.f k a3.2.1 a3.2.2.2.2.2.1) fun r73 => some (((r73.1.1.1, ()), ()), ())) else (bif decide (a3.1 = 26) then (Option.bind (spec_l1In.f k a3.2.2.2.2.2.1 0 (IntKind.wrap .i64 (a1 - 1))) fun r74 => some (((r74.1.1.1, ()), ()), ())) else (bif decide (a3.1 = 23) then (bif decide (a3.2.1 = 8) then (some (((decide (a3.2.2.2.2.2.1 = 0), ()), ()), ())) else (some (((false, ()), ()), ()))) else (some (((decide (a3.2.2.2.2.2.1 = 0), ()), ()), ())))))))) else (bif decide (0 < 2) then (bif !decide (a3.2.2.2.1 = 0) then (some (((false, ()), ()), ())) else (bif decide (0 < 3) then (bif !decide (a3.2.2.2.2.1 = 0) then (some (((false, ()), ()), ())) else (bif decide (a3.1 = 21) then (Option.bind (spec_l1Value.f k a3.2.1 a3.2.2.2.2.2.1) fun r75 => some (((r75.1.1.1, ()), ()), ())) else (bif decide (a3.1 = 26) then (Option.bind (spec_l1In.f k a3.2.2.2.2.2.1 0 (IntKind.wrap .i64 (a1 - 1))) fun r76 => some (((r76.1.1.1, ()), ()), ())) else (bif decide (a3.1 = 23) then (bif decide (a3.2.1 = 8) then (some (((decide (a3.2.2.2.2.2.1 = 0), ()), ()), ())) else (some (((false, ()), ()), ()))) else (some (((decide (a3.2.2.2.2.2.1 = 0), ()), ()), ())))))) else (bif decide (a3.1 = 21) then (Option.bind (spec_l1Value.f k a3.2.1 a3.2.2.2.2.2.1) fun r77 => some (((r77.1.1.1, ()), ()), ())) else (bif decide (a3.1 = 26) then (Option.bind (spec_l1In.f k a3.2.2.2.2.2.1 0 (IntKind.wrap .i64 (a1 - 1))) fun r78 => some (((r78.1.1.1, ()), ()), ())) else (bif decide (a3.1 = 23) then (bif decide (a3.2.1 = 8) then (some (((decide (a3.2.2.2.2.2.1 = 0), ()), ()), ())) else (some (((false, ()), ()), ()))) else (some (((decide (a3.2.2.2.2.2.1 = 0), ()), ()), ()))))))) else (bif decide (0 < 3) then (bif !decide (a3.2.2.2.2.1 = 0) then (some (((false, ()), ()), ())) else (bif decide (a3.1 = 21) then (Option.bind (spec_l1Value.f k a3.2.1 a3.2.2.2.2.2.1) fun r79 => some (((r79.1.1.1, ()), ()), ())) else (bif decide (a3.1 = 26) then (Option.bind (spec_l1In.f k a3.2.2.2.2.2.1 0 (IntKind.wrap .i64 (a1 - 1))) fun r80 => some (((r80.1.1.1, ()), ()), ())) else (bif decide (a3.1 = 23) then (bif decide (a3.2.1 = 8) then (some (((decide (a3.2.2.2.2.2.1 = 0), ()), ()), ())) else (some (((false, ()), ()), ()))) else (some (((decide (a3.2.2.2.2.2.1 = 0), ()), ()), ())))))) else (bif decide (a3.1 = 21) then (Option.bind (spec_l1Value.f k a3.2.1 a3.2.2.2.2.2.1) fun r81 => some (((r81.1.1.1, ()), ()), ())) else (bif decide (a3.1 = 26) then (Option.bind (spec_l1In.f k a3.2.2.2.2.2.1 0 (IntKind.wrap .i64 (a1 - 1))) fun r82 => some (((r82.1.1.1, ()), ()), ())) else (bif decide (a3.1 = 23) then (bif decide (a3.2.1 = 8) then (some (((decide (a3.2.2.2.2.2.1 = 0), ()), ()), ())) else (some (((false, ()), ()), ()))) else (some (((decide (a3.2.2.2.2.2.1 = 0), ()), ()), ())))))))) else (bif decide (((List.length a4 : Nat) : Int) < 1) then (bif !decide (a3.2.2.1 = 0) then (some (((false, ()), ()), ())) else (bif decide (((List.length a4 : Nat) : Int) < 2) then (bif !decide (a3.2.2.2.1 = 0) then (some (((false, ()), ()), ())) else (bif decide (((List.length a4 : Nat) : Int) < 3) then (bif !decide (a3.2.2.2.2.1 = 0) then (some (((false, ()), ()), ())) else (bif decide (a3.1 = 21) then (Option.bind (spec_l1Value.f k a3.2.1 a3.2.2.2.2.2.1) fun r83 => some (((r83.1.1.1, ()), ()), ())) else (bif decide (a3.1 = 26) then (Option.bind (spec_l1In.f k a3.2.2.2.2.2.1 0 (IntKind.wrap .i64 (a1 - 1))) fun r84 => some (((r84.1.1.1, ()), ()), ())) else (bif decide (a3.1 = 23) then (bif decide (a3.2.1 = 8) then (some (((decide (a3.2.2.2.2.2.1 = 0), ()), ()), ())) else (some (((false, ()), ()), ()))) else (some (((decide (a3.2.2.2.2.2.1 = 0), ()), ()), ())))))) else (bif decide (a3.1 = 21) then (Option.bind (spec_l1Value.f k a3.2.1 a3.2.2.2.2.2.1) fun r85 => some (((r85.1.1.1, ()), ()), ())) else (bif decide (a3.1 = 26) then (Option.bind (spec_l1In.f k a3.2.2.2.2.2.1 0 (IntKind.wrap .i64 (a1 - 1))) fun r86 => some (((r86.1.1.1, ()), ()), ())) else (bif decide (a3.1 = 23) then (bif decide (a3.2.1 = 8) then (some (((decide (a3.2.2.2.2.2.1 = 0), ()), ()), ())) else (some (((false, ()), ()), ()))) else (some (((decide (a3.2.2.2.2.2.1 = 0), ()), ()), ()))))))) else (bif decide (((List.length a4 : Nat) : Int) < 3) then (bif !decide (a3.2.2.2.2.1 = 0) then (some (((false, ()), ()), ())) else (bif decide (a3.1 = 21) then (Option.bind (spec_l1Value.f k a3.2.1 a3.2.2.2.2.2.1) fun r87 => some (((r87.1.1.1, ()), ()), ())) else (bif decide (a3.1 = 26) then (Option.bind (spec_l1In.f k a3.2.2.2.2.2.1 0 (IntKind.wrap .i64 (a1 - 1))) fun r88 => some (((r88.1.1.1, ()), ()), ())) else (bif decide (a3.1 = 23) then (bif decide (a3.2.1 = 8) then (some (((decide (a3.2.2.2.2.2.1 = 0), ()), ()), ())) else (some (((false, ()), ()), ()))) else (some (((decide (a3.2.2.2.2.2.1 = 0), ()), ()), ())))))) else (bif decide (a3.1 = 21) then (Option.bind (spec_l1Value.f k a3.2.1 a3.2.2.2.2.2.1) fun r89 => some (((r89.1.1.1, ()), ()), ())) else (bif decide (a3.1 = 26) then (Option.bind (spec_l1In.f k a3.2.2.2.2.2.1 0 (IntKind.wrap .i64 (a1 - 1))) fun r90 => some (((r90.1.1.1, ()), ()), ())) else (bif decide (a3.1 = 23) then (bif decide (a3.2.1 = 8) then (some (((decide (a3.2.2.2.2.2.1 = 0), ()), ()), ())) else (some (((false, ()), ()), ()))) else (some (((decide (a3.2.2.2.2.2.1 = 0), ()), ()), ())))))))) else (bif decide (((List.length a4 : Nat) : Int) < 2) then (bif !decide (a3.2.2.2.1 = 0) then (some (((false, ()), ()), ())) else (bif decide (((List.length a4 : Nat) : Int) < 3) then (bif !decide (a3.2.2.2.2.1 = 0) then (some (((false, ()), ()), ())) else (bif decide (a3.1 = 21) then (Option.bind (spec_l1Value.f k a3.2.1 a3.2.2.2.2.2.1) fun r91 => some (((r91.1.1.1, ()), ()), ())) else (bif decide (a3.1 = 26) then (Option.bind (spec_l1In.f k a3.2.2.2.2.2.1 0 (IntKind.wrap .i64 (a1 - 1))) fun r92 => some (((r92.1.1.1, ()), ()), ())) else (bif decide (a3.1 = 23) then (bif decide (a3.2.1 = 8) then (some (((decide (a3.2.2.2.2.2.1 = 0), ()), ()), ())) else (some (((false, ()), ()), ()))) else (some (((decide (a3.2.2.2.2.2.1 = 0), ()), ()), ())))))) else (bif decide (a3.1 = 21) then (Option.bind (spec_l1Value.f k a3.2.1 a3.2.2.2.2.2.1) fun r93 => some (((r93.1.1.1, ()), ()), ())) else (bif decide (a3.1 = 26) then (Option.bind (spec_l1In.f k a3.2.2.2.2.2.1 0 (IntKind.wrap .i64 (a1 - 1))) fun r94 => some (((r94.1.1.1, ()), ()), ())) else (bif decide (a3.1 = 23) then (bif decide (a3.2.1 = 8) then (some (((decide (a3.2.2.2.2.2.1 = 0), ()), ()), ())) else (some (((false, ()), ()), ()))) else (some (((decide (a3.2.2.2.2.2.1 = 0), ()), ()), ()))))))) else (bif decide (((List.length a4 : Nat) : Int) < 3) then (bif !decide (a3.2.2.2.2.1 = 0) then (some (((false, ()), ()), ())) else (bif decide (a3.1 = 21) then (Option.bind (spec_l1Value.f k a3.2.1 a3.2.2.2.2.2.1) fun r95 => some (((r95.1.1.1, ()), ()), ())) else (bif decide (a3.1 = 26) then (Option.bind (spec_l1In.f k a3.2.2.2.2.2.1 0 (IntKind.wrap .i64 (a1 - 1))) fun r96 => some (((r96.1.1.1, ()), ()), ())) else (bif decide (a3.1 = 23) then (bif decide (a3.2.1 = 8) then (some (((decide (a3.2.2.2.2.2.1 = 0), ()), ()), ())) else (some (((false, ()), ()), ()))) else (some (((decide (a3.2.2.2.2.2.1 = 0), ()), ()), ())))))) else (bif decide (a3.1 = 21) then (Option.bind (spec_l1Value.f k a3.2.1 a3.2.2.2.2.2.1) fun r97 => some (((r97.1.1.1, ()), ()), ())) else (bif decide (a3.1 = 26) then (Option.bind (spec_l1In.f k a3.2.2.2.2.2.1 0 (IntKind.wrap .i64 (a1 - 1))) fun r98 => some (((r98.1.1.1, ()), ()), ())) else (bif decide (a3.1 = 23) then (bif decide (a3.2.1 = 8) then (some (((decide (a3.2.2.2.2.2.1 = 0), ()), ()), ())) else (some (((false, ()), ()), ()))) else (some (((decide (a3.2.2.2.2.2.1 = 0), ()), ()), ())))))))))))))
def spec_l2Inst.all : Nat → (Int → Int → Int → tInstD → (List Int) → Option spec_l2Inst.R) × Unit
  | 0 => (fun _ _ _ _ _ => none, ())
  | k + 1 => (spec_l2Inst.l0_ k (spec_l2Inst.all k).1, ())
def spec_l2Inst.l0 (k : Nat) : Int → Int → Int → tInstD → (List Int) → Option spec_l2Inst.R := (spec_l2Inst.all k).1
def spec_l2Inst.f (k : Nat) (a0 : tInstD) (a1 : Int) (a2 : Int) : Option spec_l2Inst.R := Option.bind (spec_l1In.f k a0.1 1 27) fun r1 => bif !r1.1.1.1 then (some (((false, ()), ()), ())) else (bif !decide (a0.1 = 26) then (bif decide (0 < ((List.length a0.2.2.2.2.2.2.1 : Nat) : Int)) then (some (((false, ()), ()), ())) else (Option.bind (spec_l2Operands.f k a0) fun r2 => spec_l2Inst.l0 k a1 a2 0 a0 r2.2.1)) else (Option.bind (spec_l2Operands.f k a0) fun r3 => spec_l2Inst.l0 k a1 a2 0 a0 r3.2.1))
def spec_l2Inst.s (k : Nat) : FS := ⟨[⟨true, [.int .i64, .int .i64, .int .i64, .int .i64, .int .i64, .int .i64, .lst (.int .i64)]⟩, ⟨false, [.int .i64]⟩, ⟨false, [.int .i64]⟩], [], false, [⟨false, [.bool]⟩], [], [], fun x => spec_l2Inst.f k x.1.1 x.1.2.1.1 x.1.2.2.1.1⟩
def spec_l2Inst.E (k : Nat) : Ents := [(⟨52, []⟩, spec_l1In.s k), (⟨115, []⟩, spec_l2Operands.s k), (⟨139, []⟩, spec_l1Value.s k), (⟨89, []⟩, spec_WidthOk.s k)]
def spec_l2Inst.L0 (l : Int → Int → Int → tInstD → (List Int) → Option spec_l2Inst.R) : LS spec_l2Inst.R := ⟨[], [(1, ⟨false, [.int .i64]⟩), (2, ⟨false, [.int .i64]⟩), (3, ⟨false, [.ptr 100000 0]⟩), (7, ⟨false, [.own 100001]⟩), (8, ⟨false, [.int .i64]⟩)], [(100000, .box [.int .i64, .int .i64, .int .i64, .int .i64, .int .i64, .int .i64, .lst (.int .i64)]), (100001, .row true (.int .i64))], fun x => l x.1.1.1 x.1.2.1.1 x.1.2.2.2.2.1.1 x.2.1 x.2.2.1⟩
def spec_l2Inst.L (l0 : Int → Int → Int → tInstD → (List Int) → Option spec_l2Inst.R) : List (LS spec_l2Inst.R) := [spec_l2Inst.L0 l0]
def spec_l2Inst.c : Code := Try.f90.body.getD .skip
theorem spec_l2Inst.eq (k : Nat) (x) : (spec_l2Inst.s k).pf x = execF tab (spec_l2Inst.E k) Try.f90 spec_l2Inst.c (spec_l2Inst.s k) (spec_l2Inst.L (spec_l2Inst.l0 k)) x := by kernel_rfl
theorem spec_l2Inst.r0 (l0 : Int → Int → Int → tInstD → (List Int) → Option spec_l2Inst.R) (k : Nat) (x) : spec_l2Inst.l0_ k l0 x.1.1.1 x.1.2.1.1 x.1.2.2.2.2.1.1 x.2.1 x.2.2.1 = roundOf tab (spec_l2Inst.E k) (spec_l2Inst.L l0) spec_l2Inst.c (fin tab Try.f90 (spec_l2Inst.s k)) 0 (spec_l2Inst.L0 l0) x := by kernel_rfl
theorem spec_l2Inst.sound : ∀ k, Sound Try.prog 90 (spec_l2Inst.s k) := sound_of mixed tab_ok (f := 90) (fn := Try.f90) (c := spec_l2Inst.c) (by kernel_rfl) (by kernel_rfl) (by kernel_rfl) ⟨[⟨true, [.int .i64, .int .i64, .int .i64, .int .i64, .int .i64, .int .i64, .lst (.int .i64)]⟩, ⟨false, [.int .i64]⟩, ⟨false, [.int .i64]⟩], [], false, [⟨false, [.bool]⟩], [], []⟩ (by kernel_rfl) (by kernel_rfl) (fun k => (spec_l2Inst.s k).pf) spec_l2Inst.E (fun k => (EntsOK.cons (spec_l1In.sound k) (EntsOK.cons (spec_l2Operands.sound k) (EntsOK.cons (spec_l1Value.sound k) (EntsOK.cons (spec_WidthOk.sound k) EntsOK.nil))))) (fun k => spec_l2Inst.L (spec_l2Inst.l0 k)) (fun k => ⟨rfl, trivial⟩) ⟨fun _ => rfl, trivial⟩ (fun k => ⟨⟨(spec_l2Inst.L0 (spec_l2Inst.l0 (k + 1))).l, rfl, fun x => spec_l2Inst.r0 (spec_l2Inst.l0 k) k x⟩, trivial⟩) spec_l2Inst.eq
end
end Go.Proofs.Ytkfehogikjcgkaa.V
namespace Go.Proofs.Ytkfehogikjcgkaa.V
open Go
set_option linter.unusedVariables false
noncomputable section
/-! ### spec.l2Term: function 91 -/
abbrev spec_l2Term.R := (((Bool × Unit) × Unit) × Unit)
def spec_l2Term.f (k : Nat) (a0 : tTermD) (a1 : Int) (a2 : Int) : Option spec_l2Term.R := bif decide (a0.1 = 1) then (Option.bind (spec_l1In.f k a0.2.1 0 (IntKind.wrap .i64 (a1 - 1))) fun r1 => bif r1.1.1.1 then (bif decide (a0.2.2.1 = 0) then (some (((decide (a0.2.2.2.1 = 0), ()), ()), ())) else (some (((false, ()), ()), ()))) else (some (((false, ()), ()), ()))) else (bif decide (a0.1 = 2) then (bif decide (a0.2.1 = 0) then (Option.bind (spec_l1In.f k a0.2.2.1 0 (IntKind.wrap .i64 (a2 - 1))) fun r2 => bif r2.1.1.1 then (some (((decide (a0.2.2.2.1 = 0), ()), ()), ())) else (some (((false, ()), ()), ()))) else (some (((false, ()), ()), ()))) else (bif decide (a0.1 = 3) then (Option.bind (spec_l1In.f k a0.2.1 0 (IntKind.wrap .i64 (a1 - 1))) fun r3 => bif r3.1.1.1 then (Option.bind (spec_l1In.f k a0.2.2.1 0 (IntKind.wrap .i64 (a2 - 1))) fun r4 => bif r4.1.1.1 then (Option.bind (spec_l1In.f k a0.2.2.2.1 0 (IntKind.wrap .i64 (a2 - 1))) fun r5 => bif r5.1.1.1 then (some (((!decide (a0.2.2.1 = a0.2.2.2.1), ()), ()), ())) else (some (((false, ()), ()), ()))) else (some (((false, ()), ()), ()))) else (some (((false, ()), ()), ()))) else (bif decide (a0.1 = 4) then (bif decide (a0.2.1 = 0) then (bif decide (a0.2.2.1 = 0) then (some (((decide (a0.2.2.2.1 = 0), ()), ()), ())) else (some (((false, ()), ()), ()))) else (some (((false, ()), ()), ()))) else (some (((false, ()), ()), ())))))
def spec_l2Term.s (k : Nat) : FS := ⟨[⟨true, [.int .i64, .int .i64, .int .i64, .int .i64]⟩, ⟨false, [.int .i64]⟩, ⟨false, [.int .i64]⟩], [], false, [⟨false, [.bool]⟩], [], [], fun x => spec_l2Term.f k x.1.1 x.1.2.1.1 x.1.2.2.1.1⟩
def spec_l2Term.E (k : Nat) : Ents := [(⟨52, []⟩, spec_l1In.s k)]
def spec_l2Term.L : List (LS spec_l2Term.R) := []
def spec_l2Term.c : Code := Try.f91.body.getD .skip
theorem spec_l2Term.eq (k : Nat) (x) : (spec_l2Term.s k).pf x = execF tab (spec_l2Term.E k) Try.f91 spec_l2Term.c (spec_l2Term.s k) spec_l2Term.L x := by kernel_rfl
theorem spec_l2Term.sound : ∀ k, Sound Try.prog 91 (spec_l2Term.s k) := sound_of mixed tab_ok (f := 91) (fn := Try.f91) (c := spec_l2Term.c) (by kernel_rfl) (by kernel_rfl) (by kernel_rfl) ⟨[⟨true, [.int .i64, .int .i64, .int .i64, .int .i64]⟩, ⟨false, [.int .i64]⟩, ⟨false, [.int .i64]⟩], [], false, [⟨false, [.bool]⟩], [], []⟩ (by kernel_rfl) (by kernel_rfl) (fun k => (spec_l2Term.s k).pf) spec_l2Term.E (fun k => (EntsOK.cons (spec_l1In.sound k) EntsOK.nil)) (fun k => spec_l2Term.L) (fun k => trivial) trivial (fun k => trivial) spec_l2Term.eq
end
end Go.Proofs.Ytkfehogikjcgkaa.V
namespace Go.Proofs.Ytkfehogikjcgkaa.V
open Go
set_option linter.unusedVariables false
noncomputable section
/-! ### spec.l2Func: function 53 -/
abbrev spec_l2Func.R := (((Bool × Unit) × Unit) × Unit)
def spec_l2Func.l0_ (k : Nat) (l0 : Int → Int → Int → Int → tFuncD → Option spec_l2Func.R) (l1 : Int → Int → Int → Int → tFuncD → Option spec_l2Func.R) (l2 : Int → Int → Int → Int → Int → tFuncD → tBlockD → Option spec_l2Func.R) (l3 : Int → Int → Int → Int → Int → Int → tFuncD → tBlockD → Option spec_l2Func.R) (l4 : Int → Int → Int → Int → Int → tFuncD → tBlockD → Option spec_l2Func.R) (a0 : Int) (a1 : Int) (a2 : Int) (a3 : Int) (a4 : tFuncD) : Option spec_l2Func.R := bif decide (a3 < ((List.length a4.1 : Nat) : Int)) then (bif (decide (0 ≤ a3)) && (decide (a3 < ((List.length a4.1 : Nat) : Int))) then (Option.bind (spec_WidthOk.f k (List.getD a4.1 (Int.toNat a3) 0)) fun r1 => bif !r1.1.1.1 then (some (((false, ()), ()), ())) else (l0 a0 a1 a2 (IntKind.wrap .i64 (a3 + 1)) a4)) else none) else (l1 a0 a1 a2 0 a4)
def spec_l2Func.l1_ (k : Nat) (l0 : Int → Int → Int → Int → tFuncD → Option spec_l2Func.R) (l1 : Int → Int → Int → Int → tFuncD → Option spec_l2Func.R) (l2 : Int → Int → Int → Int → Int → tFuncD → tBlockD → Option spec_l2Func.R) (l3 : Int → Int → Int → Int → Int → Int → tFuncD → tBlockD → Option spec_l2Func.R) (l4 : Int → Int → Int → Int → Int → tFuncD → tBlockD → Option spec_l2Func.R) (a0 : Int) (a1 : Int) (a2 : Int) (a3 : Int) (a4 : tFuncD) : Option spec_l2Func.R := bif decide (a3 < ((List.length a4.2.2.1 : Nat) : Int)) then (bif (decide (0 ≤ a3)) && (decide (a3 < ((List.length a4.2.2.1 : Nat) : Int))) then (l2 a0 a1 a2 a3 0 a4 (List.getD a4.2.2.1 (Int.toNat a3) tBlockZ)) else none) else (some (((true, ()), ()), ()))
def spec_l2Func.l2_ (k : Nat) (l0 : Int → Int → Int → Int → tFuncD → Option spec_l2Func.R) (l1 : Int → Int → Int → Int → tFuncD → Option spec_l2Func.R) (l2 : Int → Int → Int → Int → Int → tFuncD → tBlockD → Option spec_l2Func.R) (l3 : Int → Int → Int → Int → Int → Int → tFuncD → tBlockD → Option spec_l2Func.R) (l4 : Int → Int → Int → Int → Int → tFuncD → tBlockD → Option spec_l2Func.R) (a0 : Int) (a1 : Int) (a2 : Int) (a3 : Int) (a4 : Int) (a5 : tFuncD) (a6 : tBlockD) : Option spec_l2Func.R := bif decide (a4 < ((List.length a6.1 : Nat) : Int)) then (bif (decide (0 ≤ a4)) && (decide (a4 < ((List.length a6.1 : Nat) : Int))) then (Option.bind (spec_WidthOk.f k ((List.getD a6.1 (Int.toNat a4) tPhiZ).1)) fun r1 => bif !r1.1.1.1 then (some (((false, ()), ()), ())) else (bif (decide (0 ≤ a4)) && (decide (a4 < ((List.length a6.1 : Nat) : Int))) then (bif decide (10 < ((List.length ((List.getD a6.1 (Int.toNat a4) tPhiZ).2.1) : Nat) : Int)) then (some (((false, ()), ()), ())) else (l3 a0 a1 a2 a3 a4 0 a5 a6)) else none)) else none) else (l4 a0 a1 a2 a3 0 a5 a6)
def spec_l2Func.l3_ (k : Nat) (l0 : Int → Int → Int → Int → tFuncD → Option spec_l2Func.R) (l1 : Int → Int → Int → Int → tFuncD → Option spec_l2Func.R) (l2 : Int → Int → Int → Int → Int → tFuncD → tBlockD → Option spec_l2Func.R) (l3 : Int → Int → Int → Int → Int → Int → tFuncD → tBlockD → Option spec_l2Func.R) (l4 : Int → Int → Int → Int → Int → tFuncD → tBlockD → Option spec_l2Func.R) (a0 : Int) (a1 : Int) (a2 : Int) (a3 : Int) (a4 : Int) (a5 : Int) (a6 : tFuncD) (a7 : tBlockD) : Option spec_l2Func.R := bif (decide (0 ≤ a4)) && (decide (a4 < ((List.length a7.1 : Nat) : Int))) then (bif decide (a5 < ((List.length ((List.getD a7.1 (Int.toNat a4) tPhiZ).2.1) : Nat) : Int)) then (bif (decide (0 ≤ a4)) && (decide (a4 < ((List.length a7.1 : Nat) : Int))) then (bif (decide (0 ≤ a5)) && (decide (a5 < ((List.length ((List.getD a7.1 (Int.toNat a4) tPhiZ).2.1) : Nat) : Int))) then (Option.bind (spec_l1In.f k (List.getD ((List.getD a7.1 (Int.toNat a4) tPhiZ).2.1) (Int.toNat a5) 0) 0 (IntKind.wrap .i64 (a1 - 1))) fun r1 => bif !r1.1.1.1 then (some (((false, ()), ()), ())) else (l3 a0 a1 a2 a3 a4 (IntKind.wrap .i64 (a5 + 1)) a6 a7)) else none) else none) else (l2 a0 a1 a2 a3 (IntKind.wrap .i64 (a4 + 1)) a6 a7)) else none
def spec_l2Func.l4_ (k : Nat) (l0 : Int → Int → Int → Int → tFuncD → Option spec_l2Func.R) (l1 : Int → Int → Int → Int → tFuncD → Option spec_l2Func.R) (l2 : Int → Int → Int → Int → Int → tFuncD → tBlockD → Option spec_l2Func.R) (l3 : Int → Int → Int → Int → Int → Int → tFuncD → tBlockD → Option spec_l2Func.R) (l4 : Int → Int → Int → Int → Int → tFuncD → tBlockD → Option spec_l2Func.R) (a0 : Int) (a1 : Int) (a2 : Int) (a3 : Int) (a4 : Int) (a5 : tFuncD) (a6 : tBlockD) : Option spec_l2Func.R := bif decide (a4 < ((List.length a6.2.1 : Nat) : Int)) then (bif (decide (0 ≤ a4)) && (decide (a4 < ((List.length a6.2.1 : Nat) : Int))) then (Option.bind (spec_l2Inst.f k (List.getD a6.2.1 (Int.toNat a4) tInstZ) a1 a0) fun r1 => bif !r1.1.1.1 then (some (((false, ()), ()), ())) else (l4 a0 a1 a2 a3 (IntKind.wrap .i64 (a4 + 1)) a5 a6)) else none) else (Option.bind (spec_l2Term.f k a6.2.2 a1 a2) fun r2 => bif !r2.1.1.1 then (some (((false, ()), ()), ())) else (l1 a0 a1 a2 (IntKind.wrap .i64 (a3 + 1)) a5))
def spec_l2Func.all : Nat → (Int → Int → Int → Int → tFuncD → Option spec_l2Func.R) × (Int → Int → Int → Int → tFuncD → Option spec_l2Func.R) × (Int → Int → Int → Int → Int → tFuncD → tBlockD → Option spec_l2Func.R) × (Int → Int → Int → Int → Int → Int → tFuncD → tBlockD → Option spec_l2Func.R) × (Int → Int → Int → Int → Int → tFuncD → tBlockD → Option spec_l2Func.R) × Unit
  | 0 => (fun _ _ _ _ _ => none, fun _ _ _ _ _ => none, fun _ _ _ _ _ _ _ => none, fun _ _ _ _ _ _ _ _ => none, fun _ _ _ _ _ _ _ => none, ())
  | k + 1 => (spec_l2Func.l0_ k (spec_l2Func.all k).1 (spec_l2Func.all k).2.1 (spec_l2Func.all k).2.2.1 (spec_l2Func.all k).2.2.2.1 (spec_l2Func.all k).2.2.2.2.1, spec_l2Func.l1_ k (spec_l2Func.all k).1 (spec_l2Func.all k).2.1 (spec_l2Func.all k).2.2.1 (spec_l2Func.all k).2.2.2.1 (spec_l2Func.all k).2.2.2.2.1, spec_l2Func.l2_ k (spec_l2Func.all k).1 (spec_l2Func.all k).2.1 (spec_l2Func.all k).2.2.1 (spec_l2Func.all k).2.2.2.1 (spec_l2Func.all k).2.2.2.2.1, spec_l2Func.l3_ k (spec_l2Func.all k).1 (spec_l2Func.all k).2.1 (spec_l2Func.all k).2.2.1 (spec_l2Func.all k).2.2.2.1 (spec_l2Func.all k).2.2.2.2.1, spec_l2Func.l4_ k (spec_l2Func.all k).1 (spec_l2Func.all k).2.1 (spec_l2Func.all k).2.2.1 (spec_l2Func.all k).2.2.2.1 (spec_l2Func.all k).2.2.2.2.1, ())
def spec_l2Func.l0 (k : Nat) : Int → Int → Int → Int → tFuncD → Option spec_l2Func.R := (spec_l2Func.all k).1
def spec_l2Func.l1 (k : Nat) : Int → Int → Int → Int → tFuncD → Option spec_l2Func.R := (spec_l2Func.all k).2.1
def spec_l2Func.l2 (k : Nat) : Int → Int → Int → Int → Int → tFuncD → tBlockD → Option spec_l2Func.R := (spec_l2Func.all k).2.2.1
def spec_l2Func.l3 (k : Nat) : Int → Int → Int → Int → Int → Int → tFuncD → tBlockD → Option spec_l2Func.R := (spec_l2Func.all k).2.2.2.1
def spec_l2Func.l4 (k : Nat) : Int → Int → Int → Int → Int → tFuncD → tBlockD → Option spec_l2Func.R := (spec_l2Func.all k).2.2.2.2.1
def spec_l2Func.f (k : Nat) (a0 : tFuncD) (a1 : Int) : Option spec_l2Func.R := Option.bind (spec_CountOf.f k a0) fun r1 => bif decide (4 < ((List.length a0.1 : Nat) : Int)) then (some (((false, ()), ()), ())) else (Option.bind (spec_WidthOk.f k a0.2.1) fun r2 => bif !r2.1.1.1 then (some (((false, ()), ()), ())) else (Option.bind (spec_l1In.f k ((List.length a0.2.2.1 : Nat) : Int) 1 10) fun r3 => bif !r3.1.1.1 then (some (((false, ()), ()), ())) else (bif decide (60 < r1.1.1.1) then (some (((false, ()), ()), ())) else (spec_l2Func.l0 k a1 r1.1.1.1 ((List.length a0.2.2.1 : Nat) : Int) 0 a0))))
def spec_l2Func.s (k : Nat) : FS := ⟨[⟨true, [.lst (.int .i64), .int .i64, .lst tBlock]⟩, ⟨false, [.int .i64]⟩], [], false, [⟨false, [.bool]⟩], [], [], fun x => spec_l2Func.f k x.1.1 x.1.2.1.1⟩
def spec_l2Func.E (k : Nat) : Ents := [(⟨66, []⟩, spec_CountOf.s k), (⟨89, []⟩, spec_WidthOk.s k), (⟨52, []⟩, spec_l1In.s k), (⟨90, []⟩, spec_l2Inst.s k), (⟨91, []⟩, spec_l2Term.s k)]
def spec_l2Func.L0 (l : Int → Int → Int → Int → tFuncD → Option spec_l2Func.R) : LS spec_l2Func.R := ⟨[], [(1, ⟨false, [.int .i64]⟩), (2, ⟨false, [.ptr 100000 0]⟩), (5, ⟨false, [.int .i64]⟩), (6, ⟨false, [.int .i64]⟩), (7, ⟨false, [.int .i64]⟩)], [(100000, .box [.lst (.int .i64), .int .i64, .lst tBlock])], fun x => l x.1.1.1 x.1.2.2.1.1 x.1.2.2.2.1.1 x.1.2.2.2.2.1.1 x.2.1⟩
def spec_l2Func.L1 (l : Int → Int → Int → Int → tFuncD → Option spec_l2Func.R) : LS spec_l2Func.R := ⟨[], [(1, ⟨false, [.int .i64]⟩), (2, ⟨false, [.ptr 100000 0]⟩), (5, ⟨false, [.int .i64]⟩), (6, ⟨false, [.int .i64]⟩), (8, ⟨false, [.int .i64]⟩)], [(100000, .box [.lst (.int .i64), .int .i64, .lst tBlock])], fun x => l x.1.1.1 x.1.2.2.1.1 x.1.2.2.2.1.1 x.1.2.2.2.2.1.1 x.2.1⟩
def spec_l2Func.L2 (l : Int → Int → Int → Int → Int → tFuncD → tBlockD → Option spec_l2Func.R) : LS spec_l2Func.R := ⟨[], [(1, ⟨false, [.int .i64]⟩), (2, ⟨false, [.ptr 100000 0]⟩), (5, ⟨false, [.int .i64]⟩), (6, ⟨false, [.int .i64]⟩), (8, ⟨false, [.int .i64]⟩), (9, ⟨false, [.ptr 100001 0]⟩), (10, ⟨false, [.int .i64]⟩)], [(100000, .box [.lst (.int .i64), .int .i64, .lst tBlock]), (100001, .box [.lst tPhi, .lst tInst, .int .i64, .int .i64, .int .i64, .int .i64])], fun x => l x.1.1.1 x.1.2.2.1.1 x.1.2.2.2.1.1 x.1.2.2.2.2.1.1 x.1.2.2.2.2.2.2.1.1 x.2.1 x.2.2.1⟩
def spec_l2Func.L3 (l : Int → Int → Int → Int → Int → Int → tFuncD → tBlockD → Option spec_l2Func.R) : LS spec_l2Func.R := ⟨[], [(1, ⟨false, [.int .i64]⟩), (2, ⟨false, [.ptr 100000 0]⟩), (5, ⟨false, [.int .i64]⟩), (6, ⟨false, [.int .i64]⟩), (8, ⟨false, [.int .i64]⟩), (9, ⟨false, [.ptr 100001 0]⟩), (10, ⟨false, [.int .i64]⟩), (11, ⟨false, [.int .i64]⟩)], [(100000, .box [.lst (.int .i64), .int .i64, .lst tBlock]), (100001, .box [.lst tPhi, .lst tInst, .int .i64, .int .i64, .int .i64, .int .i64])], fun x => l x.1.1.1 x.1.2.2.1.1 x.1.2.2.2.1.1 x.1.2.2.2.2.1.1 x.1.2.2.2.2.2.2.1.1 x.1.2.2.2.2.2.2.2.1.1 x.2.1 x.2.2.1⟩
def spec_l2Func.L4 (l : Int → Int → Int → Int → Int → tFuncD → tBlockD → Option spec_l2Func.R) : LS spec_l2Func.R := ⟨[], [(1, ⟨false, [.int .i64]⟩), (2, ⟨false, [.ptr 100000 0]⟩), (5, ⟨false, [.int .i64]⟩), (6, ⟨false, [.int .i64]⟩), (8, ⟨false, [.int .i64]⟩), (9, ⟨false, [.ptr 100001 0]⟩), (12, ⟨false, [.int .i64]⟩)], [(100000, .box [.lst (.int .i64), .int .i64, .lst tBlock]), (100001, .box [.lst tPhi, .lst tInst, .int .i64, .int .i64, .int .i64, .int .i64])], fun x => l x.1.1.1 x.1.2.2.1.1 x.1.2.2.2.1.1 x.1.2.2.2.2.1.1 x.1.2.2.2.2.2.2.1.1 x.2.1 x.2.2.1⟩
def spec_l2Func.L (l0 : Int → Int → Int → Int → tFuncD → Option spec_l2Func.R) (l1 : Int → Int → Int → Int → tFuncD → Option spec_l2Func.R) (l2 : Int → Int → Int → Int → Int → tFuncD → tBlockD → Option spec_l2Func.R) (l3 : Int → Int → Int → Int → Int → Int → tFuncD → tBlockD → Option spec_l2Func.R) (l4 : Int → Int → Int → Int → Int → tFuncD → tBlockD → Option spec_l2Func.R) : List (LS spec_l2Func.R) := [spec_l2Func.L0 l0, spec_l2Func.L1 l1, spec_l2Func.L2 l2, spec_l2Func.L3 l3, spec_l2Func.L4 l4]
def spec_l2Func.c : Code := Try.f53.body.getD .skip
theorem spec_l2Func.eq (k : Nat) (x) : (spec_l2Func.s k).pf x = execF tab (spec_l2Func.E k) Try.f53 spec_l2Func.c (spec_l2Func.s k) (spec_l2Func.L (spec_l2Func.l0 k) (spec_l2Func.l1 k) (spec_l2Func.l2 k) (spec_l2Func.l3 k) (spec_l2Func.l4 k)) x := by kernel_rfl
theorem spec_l2Func.r0 (l0 : Int → Int → Int → Int → tFuncD → Option spec_l2Func.R) (l1 : Int → Int → Int → Int → tFuncD → Option spec_l2Func.R) (l2 : Int → Int → Int → Int → Int → tFuncD → tBlockD → Option spec_l2Func.R) (l3 : Int → Int → Int → Int → Int → Int → tFuncD → tBlockD → Option spec_l2Func.R) (l4 : Int → Int → Int → Int → Int → tFuncD → tBlockD → Option spec_l2Func.R) (k : Nat) (x) : spec_l2Func.l0_ k l0 l1 l2 l3 l4 x.1.1.1 x.1.2.2.1.1 x.1.2.2.2.1.1 x.1.2.2.2.2.1.1 x.2.1 = roundOf tab (spec_l2Func.E k) (spec_l2Func.L l0 l1 l2 l3 l4) spec_l2Func.c (fin tab Try.f53 (spec_l2Func.s k)) 0 (spec_l2Func.L0 l0) x := by kernel_rfl
theorem spec_l2Func.r1 (l0 : Int → Int → Int → Int → tFuncD → Option spec_l2Func.R) (l1 : Int → Int → Int → Int → tFuncD → Option spec_l2Func.R) (l2 : Int → Int → Int → Int → Int → tFuncD → tBlockD → Option spec_l2Func.R) (l3 : Int → Int → Int → Int → Int → Int → tFuncD → tBlockD → Option spec_l2Func.R) (l4 : Int → Int → Int → Int → Int → tFuncD → tBlockD → Option spec_l2Func.R) (k : Nat) (x) : spec_l2Func.l1_ k l0 l1 l2 l3 l4 x.1.1.1 x.1.2.2.1.1 x.1.2.2.2.1.1 x.1.2.2.2.2.1.1 x.2.1 = roundOf tab (spec_l2Func.E k) (spec_l2Func.L l0 l1 l2 l3 l4) spec_l2Func.c (fin tab Try.f53 (spec_l2Func.s k)) 1 (spec_l2Func.L1 l1) x := by kernel_rfl
theorem spec_l2Func.r2 (l0 : Int → Int → Int → Int → tFuncD → Option spec_l2Func.R) (l1 : Int → Int → Int → Int → tFuncD → Option spec_l2Func.R) (l2 : Int → Int → Int → Int → Int → tFuncD → tBlockD → Option spec_l2Func.R) (l3 : Int → Int → Int → Int → Int → Int → tFuncD → tBlockD → Option spec_l2Func.R) (l4 : Int → Int → Int → Int → Int → tFuncD → tBlockD → Option spec_l2Func.R) (k : Nat) (x) : spec_l2Func.l2_ k l0 l1 l2 l3 l4 x.1.1.1 x.1.2.2.1.1 x.1.2.2.2.1.1 x.1.2.2.2.2.1.1 x.1.2.2.2.2.2.2.1.1 x.2.1 x.2.2.1 = roundOf tab (spec_l2Func.E k) (spec_l2Func.L l0 l1 l2 l3 l4) spec_l2Func.c (fin tab Try.f53 (spec_l2Func.s k)) 2 (spec_l2Func.L2 l2) x := by kernel_rfl
theorem spec_l2Func.r3 (l0 : Int → Int → Int → Int → tFuncD → Option spec_l2Func.R) (l1 : Int → Int → Int → Int → tFuncD → Option spec_l2Func.R) (l2 : Int → Int → Int → Int → Int → tFuncD → tBlockD → Option spec_l2Func.R) (l3 : Int → Int → Int → Int → Int → Int → tFuncD → tBlockD → Option spec_l2Func.R) (l4 : Int → Int → Int → Int → Int → tFuncD → tBlockD → Option spec_l2Func.R) (k : Nat) (x) : spec_l2Func.l3_ k l0 l1 l2 l3 l4 x.1.1.1 x.1.2.2.1.1 x.1.2.2.2.1.1 x.1.2.2.2.2.1.1 x.1.2.2.2.2.2.2.1.1 x.1.2.2.2.2.2.2.2.1.1 x.2.1 x.2.2.1 = roundOf tab (spec_l2Func.E k) (spec_l2Func.L l0 l1 l2 l3 l4) spec_l2Func.c (fin tab Try.f53 (spec_l2Func.s k)) 3 (spec_l2Func.L3 l3) x := by kernel_rfl
theorem spec_l2Func.r4 (l0 : Int → Int → Int → Int → tFuncD → Option spec_l2Func.R) (l1 : Int → Int → Int → Int → tFuncD → Option spec_l2Func.R) (l2 : Int → Int → Int → Int → Int → tFuncD → tBlockD → Option spec_l2Func.R) (l3 : Int → Int → Int → Int → Int → Int → tFuncD → tBlockD → Option spec_l2Func.R) (l4 : Int → Int → Int → Int → Int → tFuncD → tBlockD → Option spec_l2Func.R) (k : Nat) (x) : spec_l2Func.l4_ k l0 l1 l2 l3 l4 x.1.1.1 x.1.2.2.1.1 x.1.2.2.2.1.1 x.1.2.2.2.2.1.1 x.1.2.2.2.2.2.2.1.1 x.2.1 x.2.2.1 = roundOf tab (spec_l2Func.E k) (spec_l2Func.L l0 l1 l2 l3 l4) spec_l2Func.c (fin tab Try.f53 (spec_l2Func.s k)) 4 (spec_l2Func.L4 l4) x := by kernel_rfl
theorem spec_l2Func.sound : ∀ k, Sound Try.prog 53 (spec_l2Func.s k) := sound_of mixed tab_ok (f := 53) (fn := Try.f53) (c := spec_l2Func.c) (by kernel_rfl) (by kernel_rfl) (by kernel_rfl) ⟨[⟨true, [.lst (.int .i64), .int .i64, .lst tBlock]⟩, ⟨false, [.int .i64]⟩], [], false, [⟨false, [.bool]⟩], [], []⟩ (by kernel_rfl) (by kernel_rfl) (fun k => (spec_l2Func.s k).pf) spec_l2Func.E (fun k => (EntsOK.cons (spec_CountOf.sound k) (EntsOK.cons (spec_WidthOk.sound k) (EntsOK.cons (spec_l1In.sound k) (EntsOK.cons (spec_l2Inst.sound k) (EntsOK.cons (spec_l2Term.sound k) EntsOK.nil)))))) (fun k => spec_l2Func.L (spec_l2Func.l0 k) (spec_l2Func.l1 k) (spec_l2Func.l2 k) (spec_l2Func.l3 k) (spec_l2Func.l4 k)) (fun k => ⟨rfl, rfl, rfl, rfl, rfl, trivial⟩) ⟨fun _ => rfl, fun _ => rfl, fun _ => rfl, fun _ => rfl, fun _ => rfl, trivial⟩ (fun k => ⟨⟨(spec_l2Func.L0 (spec_l2Func.l0 (k + 1))).l, rfl, fun x => spec_l2Func.r0 (spec_l2Func.l0 k) (spec_l2Func.l1 k) (spec_l2Func.l2 k) (spec_l2Func.l3 k) (spec_l2Func.l4 k) k x⟩, ⟨(spec_l2Func.L1 (spec_l2Func.l1 (k + 1))).l, rfl, fun x => spec_l2Func.r1 (spec_l2Func.l0 k) (spec_l2Func.l1 k) (spec_l2Func.l2 k) (spec_l2Func.l3 k) (spec_l2Func.l4 k) k x⟩, ⟨(spec_l2Func.L2 (spec_l2Func.l2 (k + 1))).l, rfl, fun x => spec_l2Func.r2 (spec_l2Func.l0 k) (spec_l2Func.l1 k) (spec_l2Func.l2 k) (spec_l2Func.l3 k) (spec_l2Func.l4 k) k x⟩, ⟨(spec_l2Func.L3 (spec_l2Func.l3 (k + 1))).l, rfl, fun x => spec_l2Func.r3 (spec_l2Func.l0 k) (spec_l2Func.l1 k) (spec_l2Func.l2 k) (spec_l2Func.l3 k) (spec_l2Func.l4 k) k x⟩, ⟨(spec_l2Func.L4 (spec_l2Func.l4 (k + 1))).l, rfl, fun x => spec_l2Func.r4 (spec_l2Func.l0 k) (spec_l2Func.l1 k) (spec_l2Func.l2 k) (spec_l2Func.l3 k) (spec_l2Func.l4 k) k x⟩, trivial⟩) spec_l2Func.eq
end
end Go.Proofs.Ytkfehogikjcgkaa.V
namespace Go.Proofs.Ytkfehogikjcgkaa.V
open Go
set_option linter.unusedVariables false
noncomputable section
/-! ### spec.l2Place: function 114 -/
abbrev spec_l2Place.R := (((Int × Unit) × (Int × Unit) × Unit) × Unit)
def spec_l2Place.l0_ (k : Nat) (l0 : Int → Int → tFuncD → Option spec_l2Place.R) (a0 : Int) (a1 : Int) (a2 : tFuncD) : Option spec_l2Place.R := bif decide (a1 < ((List.length a2.2.2.1 : Nat) : Int)) then (bif (decide (0 ≤ a1)) && (decide (a1 < ((List.length a2.2.2.1 : Nat) : Int))) then (bif (decide (0 ≤ a1)) && (decide (a1 < ((List.length a2.2.2.1 : Nat) : Int))) then (bif decide (a0 < IntKind.wrap .i64 (((List.length ((List.getD a2.2.2.1 (Int.toNat a1) tBlockZ).1) : Nat) : Int) + ((List.length ((List.getD a2.2.2.1 (Int.toNat a1) tBlockZ).2.1) : Nat) : Int))) then (some (((a1, ()), (a0, ()), ()), ())) else (l0 (IntKind.wrap .i64 (a0 - (IntKind.wrap .i64 (((List.length ((List.getD a2.2.2.1 (Int.toNat a1) tBlockZ).1) : Nat) : Int) + ((List.length ((List.getD a2.2.2.1 (Int.toNat a1) tBlockZ).2.1) : Nat) : Int))))) (IntKind.wrap .i64 (a1 + 1)) a2)) else none) else none) else (some (((-2, ()), (0, ()), ()), ()))
def spec_l2Place.all : Nat → (Int → Int → tFuncD → Option spec_l2Place.R) × Unit
  | 0 => (fun _ _ _ => none, ())
  | k + 1 => (spec_l2Place.l0_ k (spec_l2Place.all k).1, ())
def spec_l2Place.l0 (k : Nat) : Int → Int → tFuncD → Option spec_l2Place.R := (spec_l2Place.all k).1
def spec_l2Place.f (k : Nat) (a0 : tFuncD) (a1 : Int) : Option spec_l2Place.R := bif decide (a1 < 0) then (some (((-2, ()), (0, ()), ()), ())) else (bif decide (a1 < ((List.length a0.1 : Nat) : Int)) then (some (((-1, ()), (a1, ()), ()), ())) else (spec_l2Place.l0 k (IntKind.wrap .i64 (a1 - ((List.length a0.1 : Nat) : Int))) 0 a0))
def spec_l2Place.s (k : Nat) : FS := ⟨[⟨true, [.lst (.int .i64), .int .i64, .lst tBlock]⟩, ⟨false, [.int .i64]⟩], [], true, [⟨false, [.int .i64]⟩, ⟨false, [.int .i64]⟩], [], [], fun x => spec_l2Place.f k x.1.1 x.1.2.1.1⟩
def spec_l2Place.E (k : Nat) : Ents := []
def spec_l2Place.L0 (l : Int → Int → tFuncD → Option spec_l2Place.R) : LS spec_l2Place.R := ⟨[], [(1, ⟨false, [.int .i64]⟩), (2, ⟨false, [.ptr 100000 0]⟩), (6, ⟨false, [.int .i64]⟩)], [(100000, .box [.lst (.int .i64), .int .i64, .lst tBlock])], fun x => l x.1.1.1 x.1.2.2.1.1 x.2.1⟩
def spec_l2Place.L (l0 : Int → Int → tFuncD → Option spec_l2Place.R) : List (LS spec_l2Place.R) := [spec_l2Place.L0 l0]
def spec_l2Place.c : Code := Try.f114.body.getD .skip
theorem spec_l2Place.eq (k : Nat) (x) : (spec_l2Place.s k).pf x = execF tab (spec_l2Place.E k) Try.f114 spec_l2Place.c (spec_l2Place.s k) (spec_l2Place.L (spec_l2Place.l0 k)) x := by kernel_rfl
theorem spec_l2Place.r0 (l0 : Int → Int → tFuncD → Option spec_l2Place.R) (k : Nat) (x) : spec_l2Place.l0_ k l0 x.1.1.1 x.1.2.2.1.1 x.2.1 = roundOf tab (spec_l2Place.E k) (spec_l2Place.L l0) spec_l2Place.c (fin tab Try.f114 (spec_l2Place.s k)) 0 (spec_l2Place.L0 l0) x := by kernel_rfl
theorem spec_l2Place.sound : ∀ k, Sound Try.prog 114 (spec_l2Place.s k) := sound_of mixed tab_ok (f := 114) (fn := Try.f114) (c := spec_l2Place.c) (by kernel_rfl) (by kernel_rfl) (by kernel_rfl) ⟨[⟨true, [.lst (.int .i64), .int .i64, .lst tBlock]⟩, ⟨false, [.int .i64]⟩], [], true, [⟨false, [.int .i64]⟩, ⟨false, [.int .i64]⟩], [], []⟩ (by kernel_rfl) (by kernel_rfl) (fun k => (spec_l2Place.s k).pf) spec_l2Place.E (fun k => EntsOK.nil) (fun k => spec_l2Place.L (spec_l2Place.l0 k)) (fun k => ⟨rfl, trivial⟩) ⟨fun _ => rfl, trivial⟩ (fun k => ⟨⟨(spec_l2Place.L0 (spec_l2Place.l0 (k + 1))).l, rfl, fun x => spec_l2Place.r0 (spec_l2Place.l0 k) k x⟩, trivial⟩) spec_l2Place.eq
end
end Go.Proofs.Ytkfehogikjcgkaa.V
namespace Go.Proofs.Ytkfehogikjcgkaa.V
open Go
set_option linter.unusedVariables false
noncomputable section
/-! ### spec.l1Divides: function 153 -/
abbrev spec_l1Divides.R := (((Bool × Unit) × Unit) × Unit)
def spec_l1Divides.f (k : Nat) (a0 : Int) : Option spec_l1Divides.R := Option.bind (spec_l1In.f k a0 4 7) fun r1 => some (((r1.1.1.1, ()), ()), ())
def spec_l1Divides.s (k : Nat) : FS := ⟨[⟨false, [.int .i64]⟩], [], false, [⟨false, [.bool]⟩], [], [], fun x => spec_l1Divides.f k x.1.1.1⟩
def spec_l1Divides.E (k : Nat) : Ents := [(⟨52, []⟩, spec_l1In.s k)]
def spec_l1Divides.L : List (LS spec_l1Divides.R) := []
def spec_l1Divides.c : Code := Try.f153.body.getD .skip
theorem spec_l1Divides.eq (k : Nat) (x) : (spec_l1Divides.s k).pf x = execF tab (spec_l1Divides.E k) Try.f153 spec_l1Divides.c (spec_l1Divides.s k) spec_l1Divides.L x := by kernel_rfl
theorem spec_l1Divides.sound : ∀ k, Sound Try.prog 153 (spec_l1Divides.s k) := sound_of mixed tab_ok (f := 153) (fn := Try.f153) (c := spec_l1Divides.c) (by kernel_rfl) (by kernel_rfl) (by kernel_rfl) ⟨[⟨false, [.int .i64]⟩], [], false, [⟨false, [.bool]⟩], [], []⟩ (by kernel_rfl) (by kernel_rfl) (fun k => (spec_l1Divides.s k).pf) spec_l1Divides.E (fun k => (EntsOK.cons (spec_l1In.sound k) EntsOK.nil)) (fun k => spec_l1Divides.L) (fun k => trivial) trivial (fun k => trivial) spec_l1Divides.eq
end
end Go.Proofs.Ytkfehogikjcgkaa.V
namespace Go.Proofs.Ytkfehogikjcgkaa.V
open Go
set_option linter.unusedVariables false
noncomputable section
/-! ### spec.l9Inst: function 174 -/
abbrev spec_l9Inst.R := (((Int × Int × Int × Int × Int × Int × (List Int) × Unit) × (Bool × Unit) × Unit) × Unit)
def spec_l9Inst.f (k : Nat) (a0 : tFuncD) (a1 : Int) : Option spec_l9Inst.R := Option.bind (spec_l2Place.f k a0 a1) fun r1 => bif decide (r1.1.1.1 < 0) then (some (((0, 0, 0, 0, 0, 0, ([] : List Int), ()), (false, ()), ()), ())) else (bif (decide (0 ≤ r1.1.1.1)) && (decide (r1.1.1.1 < ((List.length a0.2.2.1 : Nat) : Int))) then (bif decide (r1.1.2.1.1 < ((List.length ((List.getD a0.2.2.1 (Int.toNat r1.1.1.1) tBlockZ).1) : Nat) : Int)) then (some (((0, 0, 0, 0, 0, 0, ([] : List Int), ()), (false, ()), ()), ())) else (bif (decide (0 ≤ r1.1.1.1)) && (decide (r1.1.1.1 < ((List.length a0.2.2.1 : Nat) : Int))) then (bif (decide (0 ≤ IntKind.wrap .i64 (r1.1.2.1.1 - ((List.length ((List.getD a0.2.2.1 (Int.toNat r1.1.1.1) tBlockZ).1) : Nat) : Int)))) && (decide (IntKind.wrap .i64 (r1.1.2.1.1 - ((List.length ((List.getD a0.2.2.1 (Int.toNat r1.1.1.1) tBlockZ).1) : Nat) : Int)) < ((List.length ((List.getD a0.2.2.1 (Int.toNat r1.1.1.1) tBlockZ).2.1) : Nat) : Int))) then (some (((List.getD ((List.getD a0.2.2.1 (Int.toNat r1.1.1.1) tBlockZ).2.1) (Int.toNat (IntKind.wrap .i64 (r1.1.2.1.1 - ((List.length ((List.getD a0.2.2.1 (Int.toNat r1.1.1.1) tBlockZ).1) : Nat) : Int)))) tInstZ), (true, ()), ()), ())) else none) else none)) else none)
def spec_l9Inst.s (k : Nat) : FS := ⟨[⟨true, [.lst (.int .i64), .int .i64, .lst tBlock]⟩, ⟨false, [.int .i64]⟩], [], true, [⟨true, [.int .i64, .int .i64, .int .i64, .int .i64, .int .i64, .int .i64, .lst (.int .i64)]⟩, ⟨false, [.bool]⟩], [], [], fun x => spec_l9Inst.f k x.1.1 x.1.2.1.1⟩
def spec_l9Inst.E (k : Nat) : Ents := [(⟨114, []⟩, spec_l2Place.s k)]
def spec_l9Inst.L : List (LS spec_l9Inst.R) := []
def spec_l9Inst.c : Code := Try.f174.body.getD .skip
theorem spec_l9Inst.eq (k : Nat) (x) : (spec_l9Inst.s k).pf x = execF tab (spec_l9Inst.E k) Try.f174 spec_l9Inst.c (spec_l9Inst.s k) spec_l9Inst.L x := by kernel_rfl
theorem spec_l9Inst.sound : ∀ k, Sound Try.prog 174 (spec_l9Inst.s k) := sound_of mixed tab_ok (f := 174) (fn := Try.f174) (c := spec_l9Inst.c) (by kernel_rfl) (by kernel_rfl) (by kernel_rfl) ⟨[⟨true, [.lst (.int .i64), .int .i64, .lst tBlock]⟩, ⟨false, [.int .i64]⟩], [], true, [⟨true, [.int .i64, .int .i64, .int .i64, .int .i64, .int .i64, .int .i64, .lst (.int .i64)]⟩, ⟨false, [.bool]⟩], [], []⟩ (by kernel_rfl) (by kernel_rfl) (fun k => (spec_l9Inst.s k).pf) spec_l9Inst.E (fun k => (EntsOK.cons (spec_l2Place.sound k) EntsOK.nil)) (fun k => spec_l9Inst.L) (fun k => trivial) trivial (fun k => trivial) spec_l9Inst.eq
end
end Go.Proofs.Ytkfehogikjcgkaa.V
namespace Go.Proofs.Ytkfehogikjcgkaa.V
open Go
set_option linter.unusedVariables false
noncomputable section
/-! ### spec.ConstOf: function 154 -/
abbrev spec_ConstOf.R := (((Int × Unit) × (Bool × Unit) × Unit) × Unit)
def spec_ConstOf.f (k : Nat) (a0 : tFuncD) (a1 : Int) : Option spec_ConstOf.R := Option.bind (spec_l9Inst.f k a0 a1) fun r1 => bif !r1.1.2.1.1 then (some (((0, ()), (false, ()), ()), ())) else (bif !decide (r1.1.1.1 = 21) then (some (((0, ()), (false, ()), ()), ())) else (some (((r1.1.1.2.2.2.2.2.1, ()), (true, ()), ()), ())))
def spec_ConstOf.s (k : Nat) : FS := ⟨[⟨true, [.lst (.int .i64), .int .i64, .lst tBlock]⟩, ⟨false, [.int .i64]⟩], [], true, [⟨false, [.int .i64]⟩, ⟨false, [.bool]⟩], [], [], fun x => spec_ConstOf.f k x.1.1 x.1.2.1.1⟩
def spec_ConstOf.E (k : Nat) : Ents := [(⟨174, []⟩, spec_l9Inst.s k)]
def spec_ConstOf.L : List (LS spec_ConstOf.R) := []
def spec_ConstOf.c : Code := Try.f154.body.getD .skip
theorem spec_ConstOf.eq (k : Nat) (x) : (spec_ConstOf.s k).pf x = execF tab (spec_ConstOf.E k) Try.f154 spec_ConstOf.c (spec_ConstOf.s k) spec_ConstOf.L x := by kernel_rfl
theorem spec_ConstOf.sound : ∀ k, Sound Try.prog 154 (spec_ConstOf.s k) := sound_of mixed tab_ok (f := 154) (fn := Try.f154) (c := spec_ConstOf.c) (by kernel_rfl) (by kernel_rfl) (by kernel_rfl) ⟨[⟨true, [.lst (.int .i64), .int .i64, .lst tBlock]⟩, ⟨false, [.int .i64]⟩], [], true, [⟨false, [.int .i64]⟩, ⟨false, [.bool]⟩], [], []⟩ (by kernel_rfl) (by kernel_rfl) (fun k => (spec_ConstOf.s k).pf) spec_ConstOf.E (fun k => (EntsOK.cons (spec_l9Inst.sound k) EntsOK.nil)) (fun k => spec_ConstOf.L) (fun k => trivial) trivial (fun k => trivial) spec_ConstOf.eq
end
end Go.Proofs.Ytkfehogikjcgkaa.V
namespace Go.Proofs.Ytkfehogikjcgkaa.V
open Go
set_option linter.unusedVariables false
noncomputable section
/-! ### spec.l10Root: function 113 -/
abbrev spec_l10Root.R := (((Bool × Unit) × Unit) × Unit)
def spec_l10Root.f (k : Nat) (a0 : tFuncD) (a1 : tInstD) : Option spec_l10Root.R := Option.bind (spec_l1Divides.f k a1.1) fun r1 => bif r1.1.1.1 then (Option.bind (spec_ConstOf.f k a0 a1.2.2.2.1) fun r2 => bif !r2.1.2.1.1 then (some (((true, ()), ()), ())) else (some (((decide (r2.1.1.1 = 0), ()), ()), ()))) else (Option.bind (spec_l1In.f k a1.1 23 26) fun r3 => some (((r3.1.1.1, ()), ()), ()))
def spec_l10Root.s (k : Nat) : FS := ⟨[⟨true, [.lst (.int .i64), .int .i64, .lst tBlock]⟩, ⟨true, [.int .i64, .int .i64, .int .i64, .int .i64, .int .i64, .int .i64, .lst (.int .i64)]⟩], [], false, [⟨false, [.bool]⟩], [], [], fun x => spec_l10Root.f k x.1.1 x.1.2.1⟩
def spec_l10Root.E (k : Nat) : Ents := [(⟨153, []⟩, spec_l1Divides.s k), (⟨154, []⟩, spec_ConstOf.s k), (⟨52, []⟩, spec_l1In.s k)]
def spec_l10Root.L : List (LS spec_l10Root.R) := []
def spec_l10Root.c : Code := Try.f113.body.getD .skip
theorem spec_l10Root.eq (k : Nat) (x) : (spec_l10Root.s k).pf x = execF tab (spec_l10Root.E k) Try.f113 spec_l10Root.c (spec_l10Root.s k) spec_l10Root.L x := by kernel_rfl
theorem spec_l10Root.sound : ∀ k, Sound Try.prog 113 (spec_l10Root.s k) := sound_of mixed tab_ok (f := 113) (fn := Try.f113) (c := spec_l10Root.c) (by kernel_rfl) (by kernel_rfl) (by kernel_rfl) ⟨[⟨true, [.lst (.int .i64), .int .i64, .lst tBlock]⟩, ⟨true, [.int .i64, .int .i64, .int .i64, .int .i64, .int .i64, .int .i64, .lst (.int .i64)]⟩], [], false, [⟨false, [.bool]⟩], [], []⟩ (by kernel_rfl) (by kernel_rfl) (fun k => (spec_l10Root.s k).pf) spec_l10Root.E (fun k => (EntsOK.cons (spec_l1Divides.sound k) (EntsOK.cons (spec_ConstOf.sound k) (EntsOK.cons (spec_l1In.sound k) EntsOK.nil)))) (fun k => spec_l10Root.L) (fun k => trivial) trivial (fun k => trivial) spec_l10Root.eq
end
end Go.Proofs.Ytkfehogikjcgkaa.V
namespace Go.Proofs.Ytkfehogikjcgkaa.V
open Go
set_option linter.unusedVariables false
noncomputable section
/-! ### spec.l1Has: function 77 -/
abbrev spec_l1Has.R := (((Bool × Unit) × Unit) × Unit)
def spec_l1Has.l0_ (k : Nat) (l0 : (List Int) → Int → Int → Option spec_l1Has.R) (a0 : List Int) (a1 : Int) (a2 : Int) : Option spec_l1Has.R := bif decide (a2 < ((List.length a0 : Nat) : Int)) then (bif (decide (0 ≤ a2)) && (decide (a2 < ((List.length a0 : Nat) : Int))) then (bif decide (List.getD a0 (Int.toNat a2) 0 = a1) then (some (((true, ()), ()), ())) else (l0 a0 a1 (IntKind.wrap .i64 (a2 + 1)))) else none) else (some (((false, ()), ()), ()))
def spec_l1Has.all : Nat → ((List Int) → Int → Int → Option spec_l1Has.R) × Unit
  | 0 => (fun _ _ _ => none, ())
  | k + 1 => (spec_l1Has.l0_ k (spec_l1Has.all k).1, ())
def spec_l1Has.l0 (k : Nat) : (List Int) → Int → Int → Option spec_l1Has.R := (spec_l1Has.all k).1
def spec_l1Has.f (k : Nat) (a0 : List Int) (a1 : Int) : Option spec_l1Has.R := spec_l1Has.l0 k a0 a1 0
def spec_l1Has.s (k : Nat) : FS := ⟨[⟨false, [.lst (.int .i64)]⟩, ⟨false, [.int .i64]⟩], [], false, [⟨false, [.bool]⟩], [], [], fun x => spec_l1Has.f k x.1.1.1 x.1.2.1.1⟩
def spec_l1Has.E (k : Nat) : Ents := []
def spec_l1Has.L0 (l : (List Int) → Int → Int → Option spec_l1Has.R) : LS spec_l1Has.R := ⟨[], [(0, ⟨false, [.lst (.int .i64)]⟩), (1, ⟨false, [.int .i64]⟩), (5, ⟨false, [.int .i64]⟩)], [], fun x => l x.1.1.1 x.1.2.1.1 x.1.2.2.1.1⟩
def spec_l1Has.L (l0 : (List Int) → Int → Int → Option spec_l1Has.R) : List (LS spec_l1Has.R) := [spec_l1Has.L0 l0]
def spec_l1Has.c : Code := Try.f77.body.getD .skip
theorem spec_l1Has.eq (k : Nat) (x) : (spec_l1Has.s k).pf x = execF tab (spec_l1Has.E k) Try.f77 spec_l1Has.c (spec_l1Has.s k) (spec_l1Has.L (spec_l1Has.l0 k)) x := by kernel_rfl
theorem spec_l1Has.r0 (l0 : (List Int) → Int → Int → Option spec_l1Has.R) (k : Nat) (x) : spec_l1Has.l0_ k l0 x.1.1.1 x.1.2.1.1 x.1.2.2.1.1 = roundOf tab (spec_l1Has.E k) (spec_l1Has.L l0) spec_l1Has.c (fin tab Try.f77 (spec_l1Has.s k)) 0 (spec_l1Has.L0 l0) x := by kernel_rfl
theorem spec_l1Has.sound : ∀ k, Sound Try.prog 77 (spec_l1Has.s k) := sound_of mixed tab_ok (f := 77) (fn := Try.f77) (c := spec_l1Has.c) (by kernel_rfl) (by kernel_rfl) (by kernel_rfl) ⟨[⟨false, [.lst (.int .i64)]⟩, ⟨false, [.int .i64]⟩], [], false, [⟨false, [.bool]⟩], [], []⟩ (by kernel_rfl) (by kernel_rfl) (fun k => (spec_l1Has.s k).pf) spec_l1Has.E (fun k => EntsOK.nil) (fun k => spec_l1Has.L (spec_l1Has.l0 k)) (fun k => ⟨rfl, trivial⟩) ⟨fun _ => rfl, trivial⟩ (fun k => ⟨⟨(spec_l1Has.L0 (spec_l1Has.l0 (k + 1))).l, rfl, fun x => spec_l1Has.r0 (spec_l1Has.l0 k) k x⟩, trivial⟩) spec_l1Has.eq
end
end Go.Proofs.Ytkfehogikjcgkaa.V
namespace Go.Proofs.Ytkfehogikjcgkaa.V
open Go
set_option linter.unusedVariables false
noncomputable section
/-! ### spec.l1Put: function 84 -/
abbrev spec_l1Put.R := ((((List Int) × Unit) × Unit) × Unit)
def spec_l1Put.l0_ (k : Nat) (l0 : (List Int) → Int → Int → Option spec_l1Put.R) (a0 : List Int) (a1 : Int) (a2 : Int) : Option spec_l1Put.R := bif decide (a2 < ((List.length a0 : Nat) : Int)) then (bif (decide (0 ≤ a2)) && (decide (a2 < ((List.length a0 : Nat) : Int))) then (bif decide (List.getD a0 (Int.toNat a2) 0 < a1) then (l0 a0 a1 (IntKind.wrap .i64 (a2 + 1))) else (bif decide (a2 < ((List.length a0 : Nat) : Int)) then (bif (decide (0 ≤ a2)) && (decide (a2 < ((List.length a0 : Nat) : Int))) then (bif decide (List.getD a0 (Int.toNat a2) 0 = a1) then (some (((a0, ()), ()), ())) else (bif (decide (0 ≤ 0)) && (decide (0 ≤ a2)) && (decide (a2 ≤ ((List.length a0 : Nat) : Int))) then (bif decide ((List.length ([] : List Int) + List.length (List.take (Int.toNat a2) a0)) * 8 ≤ 140737488355328) then (bif decide ((List.length (([] : List Int) ++ (List.take (Int.toNat a2) a0)) + List.length [a1]) * 8 ≤ 140737488355328) then (bif (decide (0 ≤ a2)) && (decide (a2 ≤ ((List.length a0 : Nat) : Int))) then (bif decide ((List.length ((([] : List Int) ++ (List.take (Int.toNat a2) a0)) ++ [a1]) + List.length (List.drop (Int.toNat a2) a0)) * 8 ≤ 140737488355328) then (some (((((([] : List Int) ++ (List.take (Int.toNat a2) a0)) ++ [a1]) ++ (List.drop (Int.toNat a2) a0), ()), ()), ())) else none) else none) else none) else none) else none)) else none) else (bif (decide (0 ≤ 0)) && (decide (0 ≤ a2)) && (decide (a2 ≤ ((List.length a0 : Nat) : Int))) then (bif decide ((List.length ([] : List Int) + List.length (List.take (Int.toNat a2) a0)) * 8 ≤ 140737488355328) then (bif decide ((List.length (([] : List Int) ++ (List.take (Int.toNat a2) a0)) + List.length [a1]) * 8 ≤ 140737488355328) then (bif (decide (0 ≤ a2)) && (decide (a2 ≤ ((List.length a0 : Nat) : Int))) then (bif decide ((List.length ((([] : List Int) ++ (List.take (Int.toNat a2) a0)) ++ [a1]) + List.length (List.drop (Int.toNat a2) a0)) * 8 ≤ 140737488355328) then (some (((((([] : List Int) ++ (List.take (Int.toNat a2) a0)) ++ [a1]) ++ (List.drop (Int.toNat a2) a0), ()), ()), ())) else none) else none) else none) else none) else none))) else none) else (bif decide (a2 < ((List.length a0 : Nat) : Int)) then (bif (decide (0 ≤ a2)) && (decide (a2 < ((List.length a0 : Nat) : Int))) then (bif decide (List.getD a0 (Int.toNat a2) 0 = a1) then (some (((a0, ()), ()), ())) else (bif (decide (0 ≤ 0)) && (decide (0 ≤ a2)) && (decide (a2 ≤ ((List.length a0 : Nat) : Int))) then (bif decide ((List.length ([] : List Int) + List.length (List.take (Int.toNat a2) a0)) * 8 ≤ 140737488355328) then (bif decide ((List.length (([] : List Int) ++ (List.take (Int.toNat a2) a0)) + List.length [a1]) * 8 ≤ 140737488355328) then (bif (decide (0 ≤ a2)) && (decide (a2 ≤ ((List.length a0 : Nat) : Int))) then (bif decide ((List.length ((([] : List Int) ++ (List.take (Int.toNat a2) a0)) ++ [a1]) + List.length (List.drop (Int.toNat a2) a0)) * 8 ≤ 140737488355328) then (some (((((([] : List Int) ++ (List.take (Int.toNat a2) a0)) ++ [a1]) ++ (List.drop (Int.toNat a2) a0), ()), ()), ())) else none) else none) else none) else none) else none)) else none) else (bif (decide (0 ≤ 0)) && (decide (0 ≤ a2)) && (decide (a2 ≤ ((List.length a0 : Nat) : Int))) then (bif decide ((List.length ([] : List Int) + List.length (List.take (Int.toNat a2) a0)) * 8 ≤ 140737488355328) then (bif decide ((List.length (([] : List Int) ++ (List.take (Int.toNat a2) a0)) + List.length [a1]) * 8 ≤ 140737488355328) then (bif (decide (0 ≤ a2)) && (decide (a2 ≤ ((List.length a0 : Nat) : Int))) then (bif decide ((List.length ((([] : List Int) ++ (List.take (Int.toNat a2) a0)) ++ [a1]) + List.length (List.drop (Int.toNat a2) a0)) * 8 ≤ 140737488355328) then (some (((((([] : List Int) ++ (List.take (Int.toNat a2) a0)) ++ [a1]) ++ (List.drop (Int.toNat a2) a0), ()), ()), ())) else none) else none) else none) else none) else none))
def spec_l1Put.all : Nat → ((List Int) → Int → Int → Option spec_l1Put.R) × Unit
  | 0 => (fun _ _ _ => none, ())
  | k + 1 => (spec_l1Put.l0_ k (spec_l1Put.all k).1, ())
def spec_l1Put.l0 (k : Nat) : (List Int) → Int → Int → Option spec_l1Put.R := (spec_l1Put.all k).1
def spec_l1Put.f (k : Nat) (a0 : List Int) (a1 : Int) : Option spec_l1Put.R := spec_l1Put.l0 k a0 a1 0
def spec_l1Put.s (k : Nat) : FS := ⟨[⟨false, [.lst (.int .i64)]⟩, ⟨false, [.int .i64]⟩], [], false, [⟨false, [.lst (.int .i64)]⟩], [], [], fun x => spec_l1Put.f k x.1.1.1 x.1.2.1.1⟩
def spec_l1Put.E (k : Nat) : Ents := []
def spec_l1Put.L0 (l : (List Int) → Int → Int → Option spec_l1Put.R) : LS spec_l1Put.R := ⟨[], [(0, ⟨false, [.lst (.int .i64)]⟩), (1, ⟨false, [.int .i64]⟩), (5, ⟨false, [.int .i64]⟩)], [], fun x => l x.1.1.1 x.1.2.1.1 x.1.2.2.1.1⟩
def spec_l1Put.L (l0 : (List Int) → Int → Int → Option spec_l1Put.R) : List (LS spec_l1Put.R) := [spec_l1Put.L0 l0]
def spec_l1Put.c : Code := Try.f84.body.getD .skip
theorem spec_l1Put.eq (k : Nat) (x) : (spec_l1Put.s k).pf x = execF tab (spec_l1Put.E k) Try.f84 spec_l1Put.c (spec_l1Put.s k) (spec_l1Put.L (spec_l1Put.l0 k)) x := by kernel_rfl
theorem spec_l1Put.r0 (l0 : (List Int) → Int → Int → Option spec_l1Put.R) (k : Nat) (x) : spec_l1Put.l0_ k l0 x.1.1.1 x.1.2.1.1 x.1.2.2.1.1 = roundOf tab (spec_l1Put.E k) (spec_l1Put.L l0) spec_l1Put.c (fin tab Try.f84 (spec_l1Put.s k)) 0 (spec_l1Put.L0 l0) x := by kernel_rfl
theorem spec_l1Put.sound : ∀ k, Sound Try.prog 84 (spec_l1Put.s k) := sound_of mixed tab_ok (f := 84) (fn := Try.f84) (c := spec_l1Put.c) (by kernel_rfl) (by kernel_rfl) (by kernel_rfl) ⟨[⟨false, [.lst (.int .i64)]⟩, ⟨false, [.int .i64]⟩], [], false, [⟨false, [.lst (.int .i64)]⟩], [], []⟩ (by kernel_rfl) (by kernel_rfl) (fun k => (spec_l1Put.s k).pf) spec_l1Put.E (fun k => EntsOK.nil) (fun k => spec_l1Put.L (spec_l1Put.l0 k)) (fun k => ⟨rfl, trivial⟩) ⟨fun _ => rfl, trivial⟩ (fun k => ⟨⟨(spec_l1Put.L0 (spec_l1Put.l0 (k + 1))).l, rfl, fun x => spec_l1Put.r0 (spec_l1Put.l0 k) k x⟩, trivial⟩) spec_l1Put.eq
end
end Go.Proofs.Ytkfehogikjcgkaa.V
namespace Go.Proofs.Ytkfehogikjcgkaa.V
open Go
set_option linter.unusedVariables false
noncomputable section
/-! ### spec.l10Needed: function 63 -/
abbrev spec_l10Needed.R := ((((List Int) × Unit) × Unit) × Unit)
def spec_l10Needed.l0_ (k : Nat) (l0 : Int → Int → tFuncD → (List Int) → (List Int) → Option spec_l10Needed.R) (l1 : Int → Int → Int → tFuncD → (List Int) → (List Int) → tBlockD → Option spec_l10Needed.R) (l2 : (List Int) → tFuncD → (List Int) → Option spec_l10Needed.R) (a0 : Int) (a1 : Int) (a2 : tFuncD) (a3 : List Int) (a4 : List Int) : Option spec_l10Needed.R := bif decide (a1 < ((List.length a2.2.2.1 : Nat) : Int)) then (bif (decide (0 ≤ a1)) && (decide (a1 < ((List.length a2.2.2.1 : Nat) : Int))) then (l1 (IntKind.wrap .i64 (a0 + ((List.length ((List.getD a2.2.2.1 (Int.toNat a1) tBlockZ).1) : Nat) : Int))) a1 0 a2 a3 a4 (List.getD a2.2.2.1 (Int.toNat a1) tBlockZ)) else none) else (l2 a3 a2 a4)
def spec_l10Needed.l1_ (k : Nat) (l0 : Int → Int → tFuncD → (List Int) → (List Int) → Option spec_l10Needed.R) (l1 : Int → Int → Int → tFuncD → (List Int) → (List Int) → tBlockD → Option spec_l10Needed.R) (l2 : (List Int) → tFuncD → (List Int) → Option spec_l10Needed.R) (a0 : Int) (a1 : Int) (a2 : Int) (a3 : tFuncD) (a4 : List Int) (a5 : List Int) (a6 : tBlockD) : Option spec_l10Needed.R := bif decide (a2 < ((List.length a6.2.1 : Nat) : Int)) then (bif (decide (0 ≤ a2)) && (decide (a2 < ((List.length a6.2.1 : Nat) : Int))) then (Option.bind (spec_l10Root.f k a3 (List.getD a6.2.1 (Int.toNat a2) tInstZ)) fun r1 => bif r1.1.1.1 then (bif decide ((List.length a5 + List.length [a0]) * 8 ≤ 140737488355328) then (l1 (IntKind.wrap .i64 (a0 + 1)) a1 (IntKind.wrap .i64 (a2 + 1)) a3 a4 (a5 ++ [a0]) a6) else none) else (l1 (IntKind.wrap .i64 (a0 + 1)) a1 (IntKind.wrap .i64 (a2 + 1)) a3 a4 a5 a6)) else none) else (bif decide (a6.2.2.1 = 1) then (bif decide ((List.length a5 + List.length [a6.2.2.2.1]) * 8 ≤ 140737488355328) then (l0 a0 (IntKind.wrap .i64 (a1 + 1)) a3 a4 (a5 ++ [a6.2.2.2.1])) else none) else (bif decide (a6.2.2.1 = 3) then (bif decide ((List.length a5 + List.length [a6.2.2.2.1]) * 8 ≤ 140737488355328) then (l0 a0 (IntKind.wrap .i64 (a1 + 1)) a3 a4 (a5 ++ [a6.2.2.2.1])) else none) else (l0 a0 (IntKind.wrap .i64 (a1 + 1)) a3 a4 a5)))
def spec_l10Needed.l2_ (k : Nat) (l0 : Int → Int → tFuncD → (List Int) → (List Int) → Option spec_l10Needed.R) (l1 : Int → Int → Int → tFuncD → (List Int) → (List Int) → tBlockD → Option spec_l10Needed.R) (l2 : (List Int) → tFuncD → (List Int) → Option spec_l10Needed.R) (a0 : List Int) (a1 : tFuncD) (a2 : List Int) : Option spec_l10Needed.R := bif decide (0 < ((List.length a2 : Nat) : Int)) then (bif (decide (0 ≤ 0)) && (decide (0 < ((List.length a2 : Nat) : Int))) then (bif (decide (0 ≤ 1)) && (decide (1 ≤ ((List.length a2 : Nat) : Int))) then (Option.bind (spec_l1Copy.f k (List.drop 1 a2)) fun r1 => Option.bind (spec_l1Has.f k a0 (List.getD a2 0 0)) fun r2 => bif r2.1.1.1 then (l2 a0 a1 r1.2.1) else (Option.bind (spec_l1Put.f k a0 (List.getD a2 0 0)) fun r3 => Option.bind (spec_l2Place.f k a1 (List.getD a2 0 0)) fun r4 => bif decide (r4.1.1.1 < 0) then (l2 r3.1.1.1 a1 r1.2.1) else (bif (decide (0 ≤ r4.1.1.1)) && (decide (r4.1.1.1 < ((List.length a1.2.2.1 : Nat) : Int))) then (bif decide (r4.1.2.1.1 < ((List.length ((List.getD a1.2.2.1 (Int.toNat r4.1.1.1) tBlockZ).1) : Nat) : Int)) then (bif (decide (0 ≤ r4.1.2.1.1)) && (decide (r4.1.2.1.1 < ((List.length ((List.getD a1.2.2.1 (Int.toNat r4.1.1.1) tBlockZ).1) : Nat) : Int))) then (bif decide ((List.length r1.2.1 + List.length ((List.getD ((List.getD a1.2.2.1 (Int.toNat r4.1.1.1) tBlockZ).1) (Int.toNat r4.1.2.1.1) tPhiZ).2.1)) * 8 ≤ 140737488355328) then (l2 r3.1.1.1 a1 (r1.2.1 ++ ((List.getD ((List.getD a1.2.2.1 (Int.toNat r4.1.1.1) tBlockZ).1) (Int.toNat r4.1.2.1.1) tPhiZ).2.1))) else none) else none) else (bif (decide (0 ≤ IntKind.wrap .i64 (r4.1.2.1.1 - ((List.length ((List.getD a1.2.2.1 (Int.toNat r4.1.1.1) tBlockZ).1) : Nat) : Int)))) && (decide (IntKind.wrap .i64 (r4.1.2.1.1 - ((List.length ((List.getD a1.2.2.1 (Int.toNat r4.1.1.1) tBlockZ).1) : Nat) : Int)) < ((List.length ((List.getD a1.2.2.1 (Int.toNat r4.1.1.1) tBlockZ).2.1) : Nat) : Int))) then (Option.bind (spec_l2Operands.f k (List.getD ((List.getD a1.2.2.1 (Int.toNat r4.1.1.1) tBlockZ).2.1) (Int.toNat (IntKind.wrap .i64 (r4.1.2.1.1 - ((List.length ((List.getD a1.2.2.1 (Int.toNat r4.1.1.1) tBlockZ).1) : Nat) : Int)))) tInstZ)) fun r5 => bif decide ((List.length r1.2.1 + List.length r5.2.1) * 8 ≤ 140737488355328) then (l2 r3.1.1.1 a1 (r1.2.1 ++ r5.2.1)) else none) else none)) else none))) else none) else none) else (some (((a0, ()), ()), ()))
def spec_l10Needed.all : Nat → (Int → Int → tFuncD → (List Int) → (List Int) → Option spec_l10Needed.R) × (Int → Int → Int → tFuncD → (List Int) → (List Int) → tBlockD → Option spec_l10Needed.R) × ((List Int) → tFuncD → (List Int) → Option spec_l10Needed.R) × Unit
  | 0 => (fun _ _ _ _ _ => none, fun _ _ _ _ _ _ _ => none, fun _ _ _ => none, ())
  | k + 1 => (spec_l10Needed.l0_ k (spec_l10Needed.all k).1 (spec_l10Needed.all k).2.1 (spec_l10Needed.all k).2.2.1, spec_l10Needed.l1_ k (spec_l10Needed.all k).1 (spec_l10Needed.all k).2.1 (spec_l10Needed.all k).2.2.1, spec_l10Needed.l2_ k (spec_l10Needed.all k).1 (spec_l10Needed.all k).2.1 (spec_l10Needed.all k).2.2.1, ())
def spec_l10Needed.l0 (k : Nat) : Int → Int → tFuncD → (List Int) → (List Int) → Option spec_l10Needed.R := (spec_l10Needed.all k).1
def spec_l10Needed.l1 (k : Nat) : Int → Int → Int → tFuncD → (List Int) → (List Int) → tBlockD → Option spec_l10Needed.R := (spec_l10Needed.all k).2.1
def spec_l10Needed.l2 (k : Nat) : (List Int) → tFuncD → (List Int) → Option spec_l10Needed.R := (spec_l10Needed.all k).2.2.1
def spec_l10Needed.f (k : Nat) (a0 : tFuncD) : Option spec_l10Needed.R := spec_l10Needed.l0 k ((List.length a0.1 : Nat) : Int) 0 a0 ([] : List Int) ([] : List Int)
def spec_l10Needed.s (k : Nat) : FS := ⟨[⟨true, [.lst (.int .i64), .int .i64, .lst tBlock]⟩], [], false, [⟨false, [.lst (.int .i64)]⟩], [], [], fun x => spec_l10Needed.f k x.1.1⟩
def spec_l10Needed.E (k : Nat) : Ents := [(⟨113, []⟩, spec_l10Root.s k), (⟨88, []⟩, spec_l1Copy.s k), (⟨77, []⟩, spec_l1Has.s k), (⟨84, []⟩, spec_l1Put.s k), (⟨114, []⟩, spec_l2Place.s k), (⟨115, []⟩, spec_l2Operands.s k)]
def spec_l10Needed.L0 (l : Int → Int → tFuncD → (List Int) → (List Int) → Option spec_l10Needed.R) : LS spec_l10Needed.R := ⟨[], [(1, ⟨false, [.ptr 100000 0]⟩), (3, ⟨false, [.own 100001]⟩), (4, ⟨false, [.own 100002]⟩), (5, ⟨false, [.int .i64]⟩), (6, ⟨false, [.int .i64]⟩)], [(100000, .box [.lst (.int .i64), .int .i64, .lst tBlock]), (100001, .row true (.int .i64)), (100002, .row true (.int .i64))], fun x => l x.1.2.2.2.1.1 x.1.2.2.2.2.1.1 x.2.1 x.2.2.1 x.2.2.2.1⟩
def spec_l10Needed.L1 (l : Int → Int → Int → tFuncD → (List Int) → (List Int) → tBlockD → Option spec_l10Needed.R) : LS spec_l10Needed.R := ⟨[], [(1, ⟨false, [.ptr 100000 0]⟩), (3, ⟨false, [.own 100001]⟩), (4, ⟨false, [.own 100002]⟩), (5, ⟨false, [.int .i64]⟩), (6, ⟨false, [.int .i64]⟩), (7, ⟨false, [.ptr 100003 0]⟩), (8, ⟨false, [.int .i64]⟩)], [(100000, .box [.lst (.int .i64), .int .i64, .lst tBlock]), (100001, .row true (.int .i64)), (100002, .row true (.int .i64)), (100003, .box [.lst tPhi, .lst tInst, .int .i64, .int .i64, .int .i64, .int .i64])], fun x => l x.1.2.2.2.1.1 x.1.2.2.2.2.1.1 x.1.2.2.2.2.2.2.1.1 x.2.1 x.2.2.1 x.2.2.2.1 x.2.2.2.2.1⟩
def spec_l10Needed.L2 (l : (List Int) → tFuncD → (List Int) → Option spec_l10Needed.R) : LS spec_l10Needed.R := ⟨[], [(1, ⟨false, [.ptr 100000 0]⟩), (3, ⟨false, [.lst (.int .i64)]⟩), (4, ⟨false, [.own 100002]⟩)], [(100000, .box [.lst (.int .i64), .int .i64, .lst tBlock]), (100002, .row true (.int .i64))], fun x => l x.1.2.1.1 x.2.1 x.2.2.1⟩
def spec_l10Needed.L (l0 : Int → Int → tFuncD → (List Int) → (List Int) → Option spec_l10Needed.R) (l1 : Int → Int → Int → tFuncD → (List Int) → (List Int) → tBlockD → Option spec_l10Needed.R) (l2 : (List Int) → tFuncD → (List Int) → Option spec_l10Needed.R) : List (LS spec_l10Needed.R) := [spec_l10Needed.L0 l0, spec_l10Needed.L1 l1, spec_l10Needed.L2 l2]
def spec_l10Needed.c : Code := Try.f63.body.getD .skip
theorem spec_l10Needed.eq (k : Nat) (x) : (spec_l10Needed.s k).pf x = execF tab (spec_l10Needed.E k) Try.f63 spec_l10Needed.c (spec_l10Needed.s k) (spec_l10Needed.L (spec_l10Needed.l0 k) (spec_l10Needed.l1 k) (spec_l10Needed.l2 k)) x := by kernel_rfl
theorem spec_l10Needed.r0 (l0 : Int → Int → tFuncD → (List Int) → (List Int) → Option spec_l10Needed.R) (l1 : Int → Int → Int → tFuncD → (List Int) → (List Int) → tBlockD → Option spec_l10Needed.R) (l2 : (List Int) → tFuncD → (List Int) → Option spec_l10Needed.R) (k : Nat) (x) : spec_l10Needed.l0_ k l0 l1 l2 x.1.2.2.2.1.1 x.1.2.2.2.2.1.1 x.2.1 x.2.2.1 x.2.2.2.1 = roundOf tab (spec_l10Needed.E k) (spec_l10Needed.L l0 l1 l2) spec_l10Needed.c (fin tab Try.f63 (spec_l10Needed.s k)) 0 (spec_l10Needed.L0 l0) x := by kernel_rfl
theorem spec_l10Needed.r1 (l0 : Int → Int → tFuncD → (List Int) → (List Int) → Option spec_l10Needed.R) (l1 : Int → Int → Int → tFuncD → (List Int) → (List Int) → tBlockD → Option spec_l10Needed.R) (l2 : (List Int) → tFuncD → (List Int) → Option spec_l10Needed.R) (k : Nat) (x) : spec_l10Needed.l1_ k l0 l1 l2 x.1.2.2.2.1.1 x.1.2.2.2.2.1.1 x.1.2.2.2.2.2.2.1.1 x.2.1 x.2.2.1 x.2.2.2.1 x.2.2.2.2.1 = roundOf tab (spec_l10Needed.E k) (spec_l10Needed.L l0 l1 l2) spec_l10Needed.c (fin tab Try.f63 (spec_l10Needed.s k)) 1 (spec_l10Needed.L1 l1) x := by kernel_rfl
theorem spec_l10Needed.r2 (l0 : Int → Int → tFuncD → (List Int) → (List Int) → Option spec_l10Needed.R) (l1 : Int → Int → Int → tFuncD → (List Int) → (List Int) → tBlockD → Option spec_l10Needed.R) (l2 : (List Int) → tFuncD → (List Int) → Option spec_l10Needed.R) (k : Nat) (x) : spec_l10Needed.l2_ k l0 l1 l2 x.1.2.1.1 x.2.1 x.2.2.1 = roundOf tab (spec_l10Needed.E k) (spec_l10Needed.L l0 l1 l2) spec_l10Needed.c (fin tab Try.f63 (spec_l10Needed.s k)) 2 (spec_l10Needed.L2 l2) x := by kernel_rfl
theorem spec_l10Needed.sound : ∀ k, Sound Try.prog 63 (spec_l10Needed.s k) := sound_of mixed tab_ok (f := 63) (fn := Try.f63) (c := spec_l10Needed.c) (by kernel_rfl) (by kernel_rfl) (by kernel_rfl) ⟨[⟨true, [.lst (.int .i64), .int .i64, .lst tBlock]⟩], [], false, [⟨false, [.lst (.int .i64)]⟩], [], []⟩ (by kernel_rfl) (by kernel_rfl) (fun k => (spec_l10Needed.s k).pf) spec_l10Needed.E (fun k => (EntsOK.cons (spec_l10Root.sound k) (EntsOK.cons (spec_l1Copy.sound k) (EntsOK.cons (spec_l1Has.sound k) (EntsOK.cons (spec_l1Put.sound k) (EntsOK.cons (spec_l2Place.sound k) (EntsOK.cons (spec_l2Operands.sound k) EntsOK.nil))))))) (fun k => spec_l10Needed.L (spec_l10Needed.l0 k) (spec_l10Needed.l1 k) (spec_l10Needed.l2 k)) (fun k => ⟨rfl, rfl, rfl, trivial⟩) ⟨fun _ => rfl, fun _ => rfl, fun _ => rfl, trivial⟩ (fun k => ⟨⟨(spec_l10Needed.L0 (spec_l10Needed.l0 (k + 1))).l, rfl, fun x => spec_l10Needed.r0 (spec_l10Needed.l0 k) (spec_l10Needed.l1 k) (spec_l10Needed.l2 k) k x⟩, ⟨(spec_l10Needed.L1 (spec_l10Needed.l1 (k + 1))).l, rfl, fun x => spec_l10Needed.r1 (spec_l10Needed.l0 k) (spec_l10Needed.l1 k) (spec_l10Needed.l2 k) k x⟩, ⟨(spec_l10Needed.L2 (spec_l10Needed.l2 (k + 1))).l, rfl, fun x => spec_l10Needed.r2 (spec_l10Needed.l0 k) (spec_l10Needed.l1 k) (spec_l10Needed.l2 k) k x⟩, trivial⟩) spec_l10Needed.eq
end
end Go.Proofs.Ytkfehogikjcgkaa.V
namespace Go.Proofs.Ytkfehogikjcgkaa.V
open Go
set_option linter.unusedVariables false
noncomputable section
/-! ### spec.Needed: function 30 -/
abbrev spec_Needed.R := ((((List Int) × Unit) × Unit) × Unit)
def spec_Needed.f (k : Nat) (a0 : tFuncD) : Option spec_Needed.R := Option.bind (spec_l2Func.f k a0 3) fun r1 => bif !r1.1.1.1 then (some (((([] : List Int), ()), ()), ())) else (Option.bind (spec_l10Needed.f k a0) fun r2 => some (((r2.1.1.1, ()), ()), ()))
def spec_Needed.s (k : Nat) : FS := ⟨[⟨true, [.lst (.int .i64), .int .i64, .lst tBlock]⟩], [], false, [⟨false, [.lst (.int .i64)]⟩], [], [], fun x => spec_Needed.f k x.1.1⟩
def spec_Needed.E (k : Nat) : Ents := [(⟨53, []⟩, spec_l2Func.s k), (⟨63, []⟩, spec_l10Needed.s k)]
def spec_Needed.L : List (LS spec_Needed.R) := []
def spec_Needed.c : Code := Try.f30.body.getD .skip
theorem spec_Needed.eq (k : Nat) (x) : (spec_Needed.s k).pf x = execF tab (spec_Needed.E k) Try.f30 spec_Needed.c (spec_Needed.s k) spec_Needed.L x := by kernel_rfl
theorem spec_Needed.sound : ∀ k, Sound Try.prog 30 (spec_Needed.s k) := sound_of mixed tab_ok (f := 30) (fn := Try.f30) (c := spec_Needed.c) (by kernel_rfl) (by kernel_rfl) (by kernel_rfl) ⟨[⟨true, [.lst (.int .i64), .int .i64, .lst tBlock]⟩], [], false, [⟨false, [.lst (.int .i64)]⟩], [], []⟩ (by kernel_rfl) (by kernel_rfl) (fun k => (spec_Needed.s k).pf) spec_Needed.E (fun k => (EntsOK.cons (spec_l2Func.sound k) (EntsOK.cons (spec_l10Needed.sound k) EntsOK.nil))) (fun k => spec_Needed.L) (fun k => trivial) trivial (fun k => trivial) spec_Needed.eq
end
end Go.Proofs.Ytkfehogikjcgkaa.V
namespace Go.Proofs.Ytkfehogikjcgkaa.V
open Go
set_option linter.unusedVariables false
noncomputable section
/-! ### impl.WidthOk: function 93 -/
abbrev impl_WidthOk.R := (((Bool × Unit) × Unit) × Unit)
def impl_WidthOk.f (k : Nat) (a0 : Int) : Option impl_WidthOk.R := bif decide (a0 = 1) then (some (((true, ()), ()), ())) else (bif decide (a0 = 8) then (some (((true, ()), ()), ())) else (bif decide (a0 = 16) then (some (((true, ()), ()), ())) else (some (((decide (a0 = 32), ()), ()), ()))))
def impl_WidthOk.s (k : Nat) : FS := ⟨[⟨false, [.int .i64]⟩], [], false, [⟨false, [.bool]⟩], [], [], fun x => impl_WidthOk.f k x.1.1.1⟩
def impl_WidthOk.E (k : Nat) : Ents := []
def impl_WidthOk.L : List (LS impl_WidthOk.R) := []
def impl_WidthOk.c : Code := Try.f93.body.getD .skip
theorem impl_WidthOk.eq (k : Nat) (x) : (impl_WidthOk.s k).pf x = execF tab (impl_WidthOk.E k) Try.f93 impl_WidthOk.c (impl_WidthOk.s k) impl_WidthOk.L x := by kernel_rfl
theorem impl_WidthOk.sound : ∀ k, Sound Try.prog 93 (impl_WidthOk.s k) := sound_of mixed tab_ok (f := 93) (fn := Try.f93) (c := impl_WidthOk.c) (by kernel_rfl) (by kernel_rfl) (by kernel_rfl) ⟨[⟨false, [.int .i64]⟩], [], false, [⟨false, [.bool]⟩], [], []⟩ (by kernel_rfl) (by kernel_rfl) (fun k => (impl_WidthOk.s k).pf) impl_WidthOk.E (fun k => EntsOK.nil) (fun k => impl_WidthOk.L) (fun k => trivial) trivial (fun k => trivial) impl_WidthOk.eq
end
end Go.Proofs.Ytkfehogikjcgkaa.V
namespace Go.Proofs.Ytkfehogikjcgkaa.V
open Go
set_option linter.unusedVariables false
noncomputable section
/-! ### impl.within: function 55 -/
abbrev impl_within.R := (((Bool × Unit) × Unit) × Unit)
def impl_within.f (k : Nat) (a0 : Int) (a1 : Int) (a2 : Int) : Option impl_within.R := bif decide (a1 ≤ a0) then (some (((decide (a0 ≤ a2), ()), ()), ())) else (some (((false, ()), ()), ()))
def impl_within.s (k : Nat) : FS := ⟨[⟨false, [.int .i64]⟩, ⟨false, [.int .i64]⟩, ⟨false, [.int .i64]⟩], [], false, [⟨false, [.bool]⟩], [], [], fun x => impl_within.f k x.1.1.1 x.1.2.1.1 x.1.2.2.1.1⟩
def impl_within.E (k : Nat) : Ents := []
def impl_within.L : List (LS impl_within.R) := []
def impl_within.c : Code := Try.f55.body.getD .skip
theorem impl_within.eq (k : Nat) (x) : (impl_within.s k).pf x = execF tab (impl_within.E k) Try.f55 impl_within.c (impl_within.s k) impl_within.L x := by kernel_rfl
theorem impl_within.sound : ∀ k, Sound Try.prog 55 (impl_within.s k) := sound_of mixed tab_ok (f := 55) (fn := Try.f55) (c := impl_within.c) (by kernel_rfl) (by kernel_rfl) (by kernel_rfl) ⟨[⟨false, [.int .i64]⟩, ⟨false, [.int .i64]⟩, ⟨false, [.int .i64]⟩], [], false, [⟨false, [.bool]⟩], [], []⟩ (by kernel_rfl) (by kernel_rfl) (fun k => (impl_within.s k).pf) impl_within.E (fun k => EntsOK.nil) (fun k => impl_within.L) (fun k => trivial) trivial (fun k => trivial) impl_within.eq
end
end Go.Proofs.Ytkfehogikjcgkaa.V
namespace Go.Proofs.Ytkfehogikjcgkaa.V
open Go
set_option linter.unusedVariables false
noncomputable section
/-! ### impl.isFunc$1: function 94 -/
abbrev impl_isFunc_1.R := (((Bool × Unit) × Unit) × Unit)
def impl_isFunc_1.f (k : Nat) (a0 : Int) : Option impl_isFunc_1.R := Option.bind (impl_WidthOk.f k a0) fun r1 => some (((!r1.1.1.1, ()), ()), ())
def impl_isFunc_1.s (k : Nat) : FS := ⟨[⟨false, [.int .i64]⟩], [], false, [⟨false, [.bool]⟩], [], [], fun x => impl_isFunc_1.f k x.1.1.1⟩
def impl_isFunc_1.E (k : Nat) : Ents := [(⟨93, []⟩, impl_WidthOk.s k)]
def impl_isFunc_1.L : List (LS impl_isFunc_1.R) := []
def impl_isFunc_1.c : Code := Try.f94.body.getD .skip
theorem impl_isFunc_1.eq (k : Nat) (x) : (impl_isFunc_1.s k).pf x = execF tab (impl_isFunc_1.E k) Try.f94 impl_isFunc_1.c (impl_isFunc_1.s k) impl_isFunc_1.L x := by kernel_rfl
theorem impl_isFunc_1.sound : ∀ k, Sound Try.prog 94 (impl_isFunc_1.s k) := sound_of mixed tab_ok (f := 94) (fn := Try.f94) (c := impl_isFunc_1.c) (by kernel_rfl) (by kernel_rfl) (by kernel_rfl) ⟨[⟨false, [.int .i64]⟩], [], false, [⟨false, [.bool]⟩], [], []⟩ (by kernel_rfl) (by kernel_rfl) (fun k => (impl_isFunc_1.s k).pf) impl_isFunc_1.E (fun k => (EntsOK.cons (impl_WidthOk.sound k) EntsOK.nil)) (fun k => impl_isFunc_1.L) (fun k => trivial) trivial (fun k => trivial) impl_isFunc_1.eq
end
end Go.Proofs.Ytkfehogikjcgkaa.V
namespace Go.Proofs.Ytkfehogikjcgkaa.V
open Go
set_option linter.unusedVariables false
noncomputable section
/-! ### slices.IndexFunc[[]int64,int64]: function 123 -/
abbrev slices_IndexFunc_int64_int64.R := (((Int × Unit) × Unit) × Unit)
def slices_IndexFunc_int64_int64.l0_ (k : Nat) (l0 : (List Int) → Int → Int → Option slices_IndexFunc_int64_int64.R) (a0 : List Int) (a1 : Int) (a2 : Int) : Option slices_IndexFunc_int64_int64.R := bif decide (a2 < a1) then (bif (decide (0 ≤ a2)) && (decide (a2 < ((List.length a0 : Nat) : Int))) then (Option.bind (impl_isFunc_1.f k (List.getD a0 (Int.toNat a2) 0)) fun r1 => bif r1.1.1.1 then (some (((a2, ()), ()), ())) else (l0 a0 a1 (IntKind.wrap .i64 (a2 + 1)))) else none) else (some (((-1, ()), ()), ()))
def slices_IndexFunc_int64_int64.all : Nat → ((List Int) → Int → Int → Option slices_IndexFunc_int64_int64.R) × Unit
  | 0 => (fun _ _ _ => none, ())
  | k + 1 => (slices_IndexFunc_int64_int64.l0_ k (slices_IndexFunc_int64_int64.all k).1, ())
def slices_IndexFunc_int64_int64.l0 (k : Nat) : (List Int) → Int → Int → Option slices_IndexFunc_int64_int64.R := (slices_IndexFunc_int64_int64.all k).1
def slices_IndexFunc_int64_int64.f (k : Nat) (a0 : List Int) : Option slices_IndexFunc_int64_int64.R := slices_IndexFunc_int64_int64.l0 k a0 ((List.length a0 : Nat) : Int) 0
def slices_IndexFunc_int64_int64.s (k : Nat) : FS := ⟨[⟨false, [.lst (.int .i64)]⟩, ⟨false, [.fn 94 []]⟩], [], false, [⟨false, [.int .i64]⟩], [], [], fun x => slices_IndexFunc_int64_int64.f k x.1.1.1⟩
def slices_IndexFunc_int64_int64.E (k : Nat) : Ents := [(⟨94, []⟩, impl_isFunc_1.s k)]
def slices_IndexFunc_int64_int64.L0 (l : (List Int) → Int → Int → Option slices_IndexFunc_int64_int64.R) : LS slices_IndexFunc_int64_int64.R := ⟨[], [(0, ⟨false, [.lst (.int .i64)]⟩), (1, ⟨false, [.fn 94 []]⟩), (7, ⟨false, [.int .i64]⟩), (8, ⟨false, [.int .i64]⟩)], [], fun x => l x.1.1.1 x.1.2.2.1.1 x.1.2.2.2.1.1⟩
def slices_IndexFunc_int64_int64.L (l0 : (List Int) → Int → Int → Option slices_IndexFunc_int64_int64.R) : List (LS slices_IndexFunc_int64_int64.R) := [slices_IndexFunc_int64_int64.L0 l0]
def slices_IndexFunc_int64_int64.c : Code := Try.f123.body.getD .skip
theorem slices_IndexFunc_int64_int64.eq (k : Nat) (x) : (slices_IndexFunc_int64_int64.s k).pf x = execF tab (slices_IndexFunc_int64_int64.E k) Try.f123 slices_IndexFunc_int64_int64.c (slices_IndexFunc_int64_int64.s k) (slices_IndexFunc_int64_int64.L (slices_IndexFunc_int64_int64.l0 k)) x := by kernel_rfl
theorem slices_IndexFunc_int64_int64.r0 (l0 : (List Int) → Int → Int → Option slices_IndexFunc_int64_int64.R) (k : Nat) (x) : slices_IndexFunc_int64_int64.l0_ k l0 x.1.1.1 x.1.2.2.1.1 x.1.2.2.2.1.1 = roundOf tab (slices_IndexFunc_int64_int64.E k) (slices_IndexFunc_int64_int64.L l0) slices_IndexFunc_int64_int64.c (fin tab Try.f123 (slices_IndexFunc_int64_int64.s k)) 0 (slices_IndexFunc_int64_int64.L0 l0) x := by kernel_rfl
theorem slices_IndexFunc_int64_int64.sound : ∀ k, Sound Try.prog 123 (slices_IndexFunc_int64_int64.s k) := sound_of mixed tab_ok (f := 123) (fn := Try.f123) (c := slices_IndexFunc_int64_int64.c) (by kernel_rfl) (by kernel_rfl) (by kernel_rfl) ⟨[⟨false, [.lst (.int .i64)]⟩, ⟨false, [.fn 94 []]⟩], [], false, [⟨false, [.int .i64]⟩], [], []⟩ (by kernel_rfl) (by kernel_rfl) (fun k => (slices_IndexFunc_int64_int64.s k).pf) slices_IndexFunc_int64_int64.E (fun k => (EntsOK.cons (impl_isFunc_1.sound k) EntsOK.nil)) (fun k => slices_IndexFunc_int64_int64.L (slices_IndexFunc_int64_int64.l0 k)) (fun k => ⟨rfl, trivial⟩) ⟨fun _ => rfl, trivial⟩ (fun k => ⟨⟨(slices_IndexFunc_int64_int64.L0 (slices_IndexFunc_int64_int64.l0 (k + 1))).l, rfl, fun x => slices_IndexFunc_int64_int64.r0 (slices_IndexFunc_int64_int64.l0 k) k x⟩, trivial⟩) slices_IndexFunc_int64_int64.eq
end
end Go.Proofs.Ytkfehogikjcgkaa.V
namespace Go.Proofs.Ytkfehogikjcgkaa.V
open Go
set_option linter.unusedVariables false
noncomputable section
/-! ### slices.ContainsFunc[[]int64,int64]: function 69 -/
abbrev slices_ContainsFunc_int64_int64.R := (((Bool × Unit) × Unit) × Unit)
def slices_ContainsFunc_int64_int64.f (k : Nat) (a0 : List Int) : Option slices_ContainsFunc_int64_int64.R := Option.bind (slices_IndexFunc_int64_int64.f k a0) fun r1 => some (((decide (0 ≤ r1.1.1.1), ()), ()), ())
def slices_ContainsFunc_int64_int64.s (k : Nat) : FS := ⟨[⟨false, [.lst (.int .i64)]⟩, ⟨false, [.fn 94 []]⟩], [], false, [⟨false, [.bool]⟩], [], [], fun x => slices_ContainsFunc_int64_int64.f k x.1.1.1⟩
def slices_ContainsFunc_int64_int64.E (k : Nat) : Ents := [(⟨123, [94]⟩, slices_IndexFunc_int64_int64.s k)]
def slices_ContainsFunc_int64_int64.L : List (LS slices_ContainsFunc_int64_int64.R) := []
def slices_ContainsFunc_int64_int64.c : Code := Try.f69.body.getD .skip
theorem slices_ContainsFunc_int64_int64.eq (k : Nat) (x) : (slices_ContainsFunc_int64_int64.s k).pf x = execF tab (slices_ContainsFunc_int64_int64.E k) Try.f69 slices_ContainsFunc_int64_int64.c (slices_ContainsFunc_int64_int64.s k) slices_ContainsFunc_int64_int64.L x := by kernel_rfl
theorem slices_ContainsFunc_int64_int64.sound : ∀ k, Sound Try.prog 69 (slices_ContainsFunc_int64_int64.s k) := sound_of mixed tab_ok (f := 69) (fn := Try.f69) (c := slices_ContainsFunc_int64_int64.c) (by kernel_rfl) (by kernel_rfl) (by kernel_rfl) ⟨[⟨false, [.lst (.int .i64)]⟩, ⟨false, [.fn 94 []]⟩], [], false, [⟨false, [.bool]⟩], [], []⟩ (by kernel_rfl) (by kernel_rfl) (fun k => (slices_ContainsFunc_int64_int64.s k).pf) slices_ContainsFunc_int64_int64.E (fun k => (EntsOK.cons (slices_IndexFunc_int64_int64.sound k) EntsOK.nil)) (fun k => slices_ContainsFunc_int64_int64.L) (fun k => trivial) trivial (fun k => trivial) slices_ContainsFunc_int64_int64.eq
end
end Go.Proofs.Ytkfehogikjcgkaa.V
namespace Go.Proofs.Ytkfehogikjcgkaa.V
open Go
set_option linter.unusedVariables false
noncomputable section
/-! ### impl.CountOf: function 68 -/
abbrev impl_CountOf.R := (((Int × Unit) × Unit) × Unit)
def impl_CountOf.l0_ (k : Nat) (l0 : Int → (List tBlockD) → Int → Int → Option impl_CountOf.R) (a0 : Int) (a1 : List tBlockD) (a2 : Int) (a3 : Int) : Option impl_CountOf.R := bif decide (a3 < a2) then (bif (decide (0 ≤ a3)) && (decide (a3 < ((List.length a1 : Nat) : Int))) then (l0 (IntKind.wrap .i64 (a0 + (IntKind.wrap .i64 (((List.length ((List.getD a1 (Int.toNat a3) tBlockZ).1) : Nat) : Int) + ((List.length ((List.getD a1 (Int.toNat a3) tBlockZ).2.1) : Nat) : Int))))) a1 a2 (IntKind.wrap .i64 (a3 + 1))) else none) else (some (((a0, ()), ()), ()))
def impl_CountOf.all : Nat → (Int → (List tBlockD) → Int → Int → Option impl_CountOf.R) × Unit
  | 0 => (fun _ _ _ _ => none, ())
  | k + 1 => (impl_CountOf.l0_ k (impl_CountOf.all k).1, ())
def impl_CountOf.l0 (k : Nat) : Int → (List tBlockD) → Int → Int → Option impl_CountOf.R := (impl_CountOf.all k).1
def impl_CountOf.f (k : Nat) (a0 : tFuncD) : Option impl_CountOf.R := impl_CountOf.l0 k ((List.length a0.1 : Nat) : Int) a0.2.2.1 ((List.length a0.2.2.1 : Nat) : Int) 0
def impl_CountOf.s (k : Nat) : FS := ⟨[⟨true, [.lst (.int .i64), .int .i64, .lst tBlock]⟩], [], false, [⟨false, [.int .i64]⟩], [], [], fun x => impl_CountOf.f k x.1.1⟩
def impl_CountOf.E (k : Nat) : Ents := []
def impl_CountOf.L0 (l : Int → (List tBlockD) → Int → Int → Option impl_CountOf.R) : LS impl_CountOf.R := ⟨[], [(3, ⟨false, [.int .i64]⟩), (10, ⟨false, [.lst tBlock]⟩), (11, ⟨false, [.int .i64]⟩), (12, ⟨false, [.int .i64]⟩)], [], fun x => l x.1.1.1 x.1.2.1.1 x.1.2.2.1.1 x.1.2.2.2.1.1⟩
def impl_CountOf.L (l0 : Int → (List tBlockD) → Int → Int → Option impl_CountOf.R) : List (LS impl_CountOf.R) := [impl_CountOf.L0 l0]
def impl_CountOf.c : Code := Try.f68.body.getD .skip
theorem impl_CountOf.eq (k : Nat) (x) : (impl_CountOf.s k).pf x = execF tab (impl_CountOf.E k) Try.f68 impl_CountOf.c (impl_CountOf.s k) (impl_CountOf.L (impl_CountOf.l0 k)) x := by kernel_rfl
theorem impl_CountOf.r0 (l0 : Int → (List tBlockD) → Int → Int → Option impl_CountOf.R) (k : Nat) (x) : impl_CountOf.l0_ k l0 x.1.1.1 x.1.2.1.1 x.1.2.2.1.1 x.1.2.2.2.1.1 = roundOf tab (impl_CountOf.E k) (impl_CountOf.L l0) impl_CountOf.c (fin tab Try.f68 (impl_CountOf.s k)) 0 (impl_CountOf.L0 l0) x := by kernel_rfl
theorem impl_CountOf.sound : ∀ k, Sound Try.prog 68 (impl_CountOf.s k) := sound_of mixed tab_ok (f := 68) (fn := Try.f68) (c := impl_CountOf.c) (by kernel_rfl) (by kernel_rfl) (by kernel_rfl) ⟨[⟨true, [.lst (.int .i64), .int .i64, .lst tBlock]⟩], [], false, [⟨false, [.int .i64]⟩], [], []⟩ (by kernel_rfl) (by kernel_rfl) (fun k => (impl_CountOf.s k).pf) impl_CountOf.E (fun k => EntsOK.nil) (fun k => impl_CountOf.L (impl_CountOf.l0 k)) (fun k => ⟨rfl, trivial⟩) ⟨fun _ => rfl, trivial⟩ (fun k => ⟨⟨(impl_CountOf.L0 (impl_CountOf.l0 (k + 1))).l, rfl, fun x => impl_CountOf.r0 (impl_CountOf.l0 k) k x⟩, trivial⟩) impl_CountOf.eq
end
end Go.Proofs.Ytkfehogikjcgkaa.V
namespace Go.Proofs.Ytkfehogikjcgkaa.V
open Go
set_option linter.unusedVariables false
noncomputable section
/-! ### impl.isFunc$2$1: function 97 -/
abbrev impl_isFunc_2_1.R := (((Bool × Unit) × Unit) × Unit)
def impl_isFunc_2_1.f (k : Nat) (a0 : Int) (a1 : Int) : Option impl_isFunc_2_1.R := Option.bind (impl_within.f k a0 0 (IntKind.wrap .i64 (a1 - 1))) fun r1 => some (((!r1.1.1.1, ()), ()), ())
def impl_isFunc_2_1.s (k : Nat) : FS := ⟨[⟨false, [.int .i64]⟩, ⟨false, [.ptr 0 0]⟩], [(0, .cbox [.int .i64])], false, [⟨false, [.bool]⟩], [], [], fun x => impl_isFunc_2_1.f k x.1.1.1 x.2.1.1⟩
def impl_isFunc_2_1.E (k : Nat) : Ents := [(⟨55, []⟩, impl_within.s k)]
def impl_isFunc_2_1.L : List (LS impl_isFunc_2_1.R) := []
def impl_isFunc_2_1.c : Code := Try.f97.body.getD .skip
theorem impl_isFunc_2_1.eq (k : Nat) (x) : (impl_isFunc_2_1.s k).pf x = execF tab (impl_isFunc_2_1.E k) Try.f97 impl_isFunc_2_1.c (impl_isFunc_2_1.s k) impl_isFunc_2_1.L x := by kernel_rfl
theorem impl_isFunc_2_1.sound : ∀ k, Sound Try.prog 97 (impl_isFunc_2_1.s k) := sound_of mixed tab_ok (f := 97) (fn := Try.f97) (c := impl_isFunc_2_1.c) (by kernel_rfl) (by kernel_rfl) (by kernel_rfl) ⟨[⟨false, [.int .i64]⟩, ⟨false, [.ptr 0 0]⟩], [(0, .cbox [.int .i64])], false, [⟨false, [.bool]⟩], [], []⟩ (by kernel_rfl) (by kernel_rfl) (fun k => (impl_isFunc_2_1.s k).pf) impl_isFunc_2_1.E (fun k => (EntsOK.cons (impl_within.sound k) EntsOK.nil)) (fun k => impl_isFunc_2_1.L) (fun k => trivial) trivial (fun k => trivial) impl_isFunc_2_1.eq
end
end Go.Proofs.Ytkfehogikjcgkaa.V
namespace Go.Proofs.Ytkfehogikjcgkaa.V
open Go
set_option linter.unusedVariables false
noncomputable section
/-! ### slices.IndexFunc[[]int64,int64]: function 123 -/
abbrev slices_IndexFunc_int64_int64_2.R := (((Int × Unit) × Unit) × Unit)
def slices_IndexFunc_int64_int64_2.l0_ (k : Nat) (l0 : (List Int) → Int → Int → Int → Option slices_IndexFunc_int64_int64_2.R) (a0 : List Int) (a1 : Int) (a2 : Int) (a3 : Int) : Option slices_IndexFunc_int64_int64_2.R := bif decide (a2 < a1) then (bif (decide (0 ≤ a2)) && (decide (a2 < ((List.length a0 : Nat) : Int))) then (Option.bind (impl_isFunc_2_1.f k (List.getD a0 (Int.toNat a2) 0) a3) fun r1 => bif r1.1.1.1 then (some (((a2, ()), ()), ())) else (l0 a0 a1 (IntKind.wrap .i64 (a2 + 1)) a3)) else none) else (some (((-1, ()), ()), ()))
def slices_IndexFunc_int64_int64_2.all : Nat → ((List Int) → Int → Int → Int → Option slices_IndexFunc_int64_int64_2.R) × Unit
  | 0 => (fun _ _ _ _ => none, ())
  | k + 1 => (slices_IndexFunc_int64_int64_2.l0_ k (slices_IndexFunc_int64_int64_2.all k).1, ())
def slices_IndexFunc_int64_int64_2.l0 (k : Nat) : (List Int) → Int → Int → Int → Option slices_IndexFunc_int64_int64_2.R := (slices_IndexFunc_int64_int64_2.all k).1
def slices_IndexFunc_int64_int64_2.f (k : Nat) (a0 : List Int) (a1 : Int) : Option slices_IndexFunc_int64_int64_2.R := slices_IndexFunc_int64_int64_2.l0 k a0 ((List.length a0 : Nat) : Int) 0 a1
def slices_IndexFunc_int64_int64_2.s (k : Nat) : FS := ⟨[⟨false, [.lst (.int .i64)]⟩, ⟨false, [.fn 97 [(0, 0)]]⟩], [(0, .cbox [.int .i64])], false, [⟨false, [.int .i64]⟩], [], [], fun x => slices_IndexFunc_int64_int64_2.f k x.1.1.1 x.2.1.1⟩
def slices_IndexFunc_int64_int64_2.E (k : Nat) : Ents := [(⟨97, []⟩, impl_isFunc_2_1.s k)]
def slices_IndexFunc_int64_int64_2.L0 (l : (List Int) → Int → Int → Int → Option slices_IndexFunc_int64_int64_2.R) : LS slices_IndexFunc_int64_int64_2.R := ⟨[], [(0, ⟨false, [.lst (.int .i64)]⟩), (1, ⟨false, [.fn 97 [(0, 0)]]⟩), (7, ⟨false, [.int .i64]⟩), (8, ⟨false, [.int .i64]⟩)], [(0, .cbox [.int .i64])], fun x => l x.1.1.1 x.1.2.2.1.1 x.1.2.2.2.1.1 x.2.1.1⟩
def slices_IndexFunc_int64_int64_2.L (l0 : (List Int) → Int → Int → Int → Option slices_IndexFunc_int64_int64_2.R) : List (LS slices_IndexFunc_int64_int64_2.R) := [slices_IndexFunc_int64_int64_2.L0 l0]
def slices_IndexFunc_int64_int64_2.c : Code := Try.f123.body.getD .skip
theorem slices_IndexFunc_int64_int64_2.eq (k : Nat) (x) : (slices_IndexFunc_int64_int64_2.s k).pf x = execF tab (slices_IndexFunc_int64_int64_2.E k) Try.f123 slices_IndexFunc_int64_int64_2.c (slices_IndexFunc_int64_int64_2.s k) (slices_IndexFunc_int64_int64_2.L (slices_IndexFunc_int64_int64_2.l0 k)) x := by kernel_rfl
theorem slices_IndexFunc_int64_int64_2.r0 (l0 : (List Int) → Int → Int → Int → Option slices_IndexFunc_int64_int64_2.R) (k : Nat) (x) : slices_IndexFunc_int64_int64_2.l0_ k l0 x.1.1.1 x.1.2.2.1.1 x.1.2.2.2.1.1 x.2.1.1 = roundOf tab (slices_IndexFunc_int64_int64_2.E k) (slices_IndexFunc_int64_int64_2.L l0) slices_IndexFunc_int64_int64_2.c (fin tab Try.f123 (slices_IndexFunc_int64_int64_2.s k)) 0 (slices_IndexFunc_int64_int64_2.L0 l0) x := by kernel_rfl
theorem slices_IndexFunc_int64_int64_2.sound : ∀ k, Sound Try.prog 123 (slices_IndexFunc_int64_int64_2.s k) := sound_of mixed tab_ok (f := 123) (fn := Try.f123) (c := slices_IndexFunc_int64_int64_2.c) (by kernel_rfl) (by kernel_rfl) (by kernel_rfl) ⟨[⟨false, [.lst (.int .i64)]⟩, ⟨false, [.fn 97 [(0, 0)]]⟩], [(0, .cbox [.int .i64])], false, [⟨false, [.int .i64]⟩], [], []⟩ (by kernel_rfl) (by kernel_rfl) (fun k => (slices_IndexFunc_int64_int64_2.s k).pf) slices_IndexFunc_int64_int64_2.E (fun k => (EntsOK.cons (impl_isFunc_2_1.sound k) EntsOK.nil)) (fun k => slices_IndexFunc_int64_int64_2.L (slices_IndexFunc_int64_int64_2.l0 k)) (fun k => ⟨rfl, trivial⟩) ⟨fun _ => rfl, trivial⟩ (fun k => ⟨⟨(slices_IndexFunc_int64_int64_2.L0 (slices_IndexFunc_int64_int64_2.l0 (k + 1))).l, rfl, fun x => slices_IndexFunc_int64_int64_2.r0 (slices_IndexFunc_int64_int64_2.l0 k) k x⟩, trivial⟩) slices_IndexFunc_int64_int64_2.eq
end
end Go.Proofs.Ytkfehogikjcgkaa.V
namespace Go.Proofs.Ytkfehogikjcgkaa.V
open Go
set_option linter.unusedVariables false
noncomputable section
/-! ### slices.ContainsFunc[[]int64,int64]: function 69 -/
abbrev slices_ContainsFunc_int64_int64_2.R := (((Bool × Unit) × Unit) × Unit)
def slices_ContainsFunc_int64_int64_2.f (k : Nat) (a0 : List Int) (a1 : Int) : Option slices_ContainsFunc_int64_int64_2.R := Option.bind (slices_IndexFunc_int64_int64_2.f k a0 a1) fun r1 => some (((decide (0 ≤ r1.1.1.1), ()), ()), ())
def slices_ContainsFunc_int64_int64_2.s (k : Nat) : FS := ⟨[⟨false, [.lst (.int .i64)]⟩, ⟨false, [.fn 97 [(0, 0)]]⟩], [(0, .cbox [.int .i64])], false, [⟨false, [.bool]⟩], [], [], fun x => slices_ContainsFunc_int64_int64_2.f k x.1.1.1 x.2.1.1⟩
def slices_ContainsFunc_int64_int64_2.E (k : Nat) : Ents := [(⟨123, [97]⟩, slices_IndexFunc_int64_int64_2.s k)]
def slices_ContainsFunc_int64_int64_2.L : List (LS slices_ContainsFunc_int64_int64_2.R) := []
def slices_ContainsFunc_int64_int64_2.c : Code := Try.f69.body.getD .skip
theorem slices_ContainsFunc_int64_int64_2.eq (k : Nat) (x) : (slices_ContainsFunc_int64_int64_2.s k).pf x = execF tab (slices_ContainsFunc_int64_int64_2.E k) Try.f69 slices_ContainsFunc_int64_int64_2.c (slices_ContainsFunc_int64_int64_2.s k) slices_ContainsFunc_int64_int64_2.L x := by kernel_rfl
theorem slices_ContainsFunc_int64_int64_2.sound : ∀ k, Sound Try.prog 69 (slices_ContainsFunc_int64_int64_2.s k) := sound_of mixed tab_ok (f := 69) (fn := Try.f69) (c := slices_ContainsFunc_int64_int64_2.c) (by kernel_rfl) (by kernel_rfl) (by kernel_rfl) ⟨[⟨false, [.lst (.int .i64)]⟩, ⟨false, [.fn 97 [(0, 0)]]⟩], [(0, .cbox [.int .i64])], false, [⟨false, [.bool]⟩], [], []⟩ (by kernel_rfl) (by kernel_rfl) (fun k => (slices_ContainsFunc_int64_int64_2.s k).pf) slices_ContainsFunc_int64_int64_2.E (fun k => (EntsOK.cons (slices_IndexFunc_int64_int64_2.sound k) EntsOK.nil)) (fun k => slices_ContainsFunc_int64_int64_2.L) (fun k => trivial) trivial (fun k => trivial) slices_ContainsFunc_int64_int64_2.eq
end
end Go.Proofs.Ytkfehogikjcgkaa.V
namespace Go.Proofs.Ytkfehogikjcgkaa.V
open Go
set_option linter.unusedVariables false
noncomputable section
/-! ### impl.isFunc$2: function 96 -/
abbrev impl_isFunc_2.R := (((Bool × Unit) × Unit) × Unit)
def impl_isFunc_2.f (k : Nat) (a0 : tPhiD) (a1 : Int) : Option impl_isFunc_2.R := Option.bind (impl_WidthOk.f k a0.1) fun r1 => bif !r1.1.1.1 then (some (((true, ()), ()), ())) else (bif decide (10 < ((List.length a0.2.1 : Nat) : Int)) then (some (((true, ()), ()), ())) else (Option.bind (slices_ContainsFunc_int64_int64_2.f k a0.2.1 a1) fun r2 => some (((r2.1.1.1, ()), ()), ())))
def impl_isFunc_2.s (k : Nat) : FS := ⟨[⟨true, [.int .i64, .lst (.int .i64)]⟩, ⟨false, [.ptr 0 0]⟩], [(0, .cbox [.int .i64])], false, [⟨false, [.bool]⟩], [], [], fun x => impl_isFunc_2.f k x.1.1 x.2.1.1⟩
def impl_isFunc_2.E (k : Nat) : Ents := [(⟨93, []⟩, impl_WidthOk.s k), (⟨69, [97]⟩, slices_ContainsFunc_int64_int64_2.s k)]
def impl_isFunc_2.L : List (LS impl_isFunc_2.R) := []
def impl_isFunc_2.c : Code := Try.f96.body.getD .skip
theorem impl_isFunc_2.eq (k : Nat) (x) : (impl_isFunc_2.s k).pf x = execF tab (impl_isFunc_2.E k) Try.f96 impl_isFunc_2.c (impl_isFunc_2.s k) impl_isFunc_2.L x := by kernel_rfl
theorem impl_isFunc_2.sound : ∀ k, Sound Try.prog 96 (impl_isFunc_2.s k) := sound_of mixed tab_ok (f := 96) (fn := Try.f96) (c := impl_isFunc_2.c) (by kernel_rfl) (by kernel_rfl) (by kernel_rfl) ⟨[⟨true, [.int .i64, .lst (.int .i64)]⟩, ⟨false, [.ptr 0 0]⟩], [(0, .cbox [.int .i64])], false, [⟨false, [.bool]⟩], [], []⟩ (by kernel_rfl) (by kernel_rfl) (fun k => (impl_isFunc_2.s k).pf) impl_isFunc_2.E (fun k => (EntsOK.cons (impl_WidthOk.sound k) (EntsOK.cons (slices_ContainsFunc_int64_int64_2.sound k) EntsOK.nil))) (fun k => impl_isFunc_2.L) (fun k => trivial) trivial (fun k => trivial) impl_isFunc_2.eq
end
end Go.Proofs.Ytkfehogikjcgkaa.V
namespace Go.Proofs.Ytkfehogikjcgkaa.V
open Go
set_option linter.unusedVariables false
noncomputable section
/-! ### slices.IndexFunc[[]impl.Phi,impl.Phi]: function 140 -/
abbrev slices_IndexFunc_impl_Phi_impl_Phi.R := (((Int × Unit) × Unit) × Unit)
def slices_IndexFunc_impl_Phi_impl_Phi.l0_ (k : Nat) (l0 : (List tPhiD) → Int → Int → Int → Option slices_IndexFunc_impl_Phi_impl_Phi.R) (a0 : List tPhiD) (a1 : Int) (a2 : Int) (a3 : Int) : Option slices_IndexFunc_impl_Phi_impl_Phi.R := bif decide (a2 < a1) then (bif (decide (0 ≤ a2)) && (decide (a2 < ((List.length a0 : Nat) : Int))) then (Option.bind (impl_isFunc_2.f k (List.getD a0 (Int.toNat a2) tPhiZ) a3) fun r1 => bif r1.1.1.1 then (some (((a2, ()), ()), ())) else (l0 a0 a1 (IntKind.wrap .i64 (a2 + 1)) a3)) else none) else (some (((-1, ()), ()), ()))
def slices_IndexFunc_impl_Phi_impl_Phi.all : Nat → ((List tPhiD) → Int → Int → Int → Option slices_IndexFunc_impl_Phi_impl_Phi.R) × Unit
  | 0 => (fun _ _ _ _ => none, ())
  | k + 1 => (slices_IndexFunc_impl_Phi_impl_Phi.l0_ k (slices_IndexFunc_impl_Phi_impl_Phi.all k).1, ())
def slices_IndexFunc_impl_Phi_impl_Phi.l0 (k : Nat) : (List tPhiD) → Int → Int → Int → Option slices_IndexFunc_impl_Phi_impl_Phi.R := (slices_IndexFunc_impl_Phi_impl_Phi.all k).1
def slices_IndexFunc_impl_Phi_impl_Phi.f (k : Nat) (a0 : List tPhiD) (a1 : Int) : Option slices_IndexFunc_impl_Phi_impl_Phi.R := slices_IndexFunc_impl_Phi_impl_Phi.l0 k a0 ((List.length a0 : Nat) : Int) 0 a1
def slices_IndexFunc_impl_Phi_impl_Phi.s (k : Nat) : FS := ⟨[⟨false, [.lst tPhi]⟩, ⟨false, [.fn 96 [(0, 0)]]⟩], [(0, .cbox [.int .i64])], false, [⟨false, [.int .i64]⟩], [], [], fun x => slices_IndexFunc_impl_Phi_impl_Phi.f k x.1.1.1 x.2.1.1⟩
def slices_IndexFunc_impl_Phi_impl_Phi.E (k : Nat) : Ents := [(⟨96, []⟩, impl_isFunc_2.s k)]
def slices_IndexFunc_impl_Phi_impl_Phi.L0 (l : (List tPhiD) → Int → Int → Int → Option slices_IndexFunc_impl_Phi_impl_Phi.R) : LS slices_IndexFunc_impl_Phi_impl_Phi.R := ⟨[], [(0, ⟨false, [.lst tPhi]⟩), (1, ⟨false, [.fn 96 [(0, 0)]]⟩), (7, ⟨false, [.int .i64]⟩), (8, ⟨false, [.int .i64]⟩)], [(0, .cbox [.int .i64])], fun x => l x.1.1.1 x.1.2.2.1.1 x.1.2.2.2.1.1 x.2.1.1⟩
def slices_IndexFunc_impl_Phi_impl_Phi.L (l0 : (List tPhiD) → Int → Int → Int → Option slices_IndexFunc_impl_Phi_impl_Phi.R) : List (LS slices_IndexFunc_impl_Phi_impl_Phi.R) := [slices_IndexFunc_impl_Phi_impl_Phi.L0 l0]
def slices_IndexFunc_impl_Phi_impl_Phi.c : Code := Try.f140.body.getD .skip
theorem slices_IndexFunc_impl_Phi_impl_Phi.eq (k : Nat) (x) : (slices_IndexFunc_impl_Phi_impl_Phi.s k).pf x = execF tab (slices_IndexFunc_impl_Phi_impl_Phi.E k) Try.f140 slices_IndexFunc_impl_Phi_impl_Phi.c (slices_IndexFunc_impl_Phi_impl_Phi.s k) (slices_IndexFunc_impl_Phi_impl_Phi.L (slices_IndexFunc_impl_Phi_impl_Phi.l0 k)) x := by kernel_rfl
theorem slices_IndexFunc_impl_Phi_impl_Phi.r0 (l0 : (List tPhiD) → Int → Int → Int → Option slices_IndexFunc_impl_Phi_impl_Phi.R) (k : Nat) (x) : slices_IndexFunc_impl_Phi_impl_Phi.l0_ k l0 x.1.1.1 x.1.2.2.1.1 x.1.2.2.2.1.1 x.2.1.1 = roundOf tab (slices_IndexFunc_impl_Phi_impl_Phi.E k) (slices_IndexFunc_impl_Phi_impl_Phi.L l0) slices_IndexFunc_impl_Phi_impl_Phi.c (fin tab Try.f140 (slices_IndexFunc_impl_Phi_impl_Phi.s k)) 0 (slices_IndexFunc_impl_Phi_impl_Phi.L0 l0) x := by kernel_rfl
theorem slices_IndexFunc_impl_Phi_impl_Phi.sound : ∀ k, Sound Try.prog 140 (slices_IndexFunc_impl_Phi_impl_Phi.s k) := sound_of mixed tab_ok (f := 140) (fn := Try.f140) (c := slices_IndexFunc_impl_Phi_impl_Phi.c) (by kernel_rfl) (by kernel_rfl) (by kernel_rfl) ⟨[⟨false, [.lst tPhi]⟩, ⟨false, [.fn 96 [(0, 0)]]⟩], [(0, .cbox [.int .i64])], false, [⟨false, [.int .i64]⟩], [], []⟩ (by kernel_rfl) (by kernel_rfl) (fun k => (slices_IndexFunc_impl_Phi_impl_Phi.s k).pf) slices_IndexFunc_impl_Phi_impl_Phi.E (fun k => (EntsOK.cons (impl_isFunc_2.sound k) EntsOK.nil)) (fun k => slices_IndexFunc_impl_Phi_impl_Phi.L (slices_IndexFunc_impl_Phi_impl_Phi.l0 k)) (fun k => ⟨rfl, trivial⟩) ⟨fun _ => rfl, trivial⟩ (fun k => ⟨⟨(slices_IndexFunc_impl_Phi_impl_Phi.L0 (slices_IndexFunc_impl_Phi_impl_Phi.l0 (k + 1))).l, rfl, fun x => slices_IndexFunc_impl_Phi_impl_Phi.r0 (slices_IndexFunc_impl_Phi_impl_Phi.l0 k) k x⟩, trivial⟩) slices_IndexFunc_impl_Phi_impl_Phi.eq
end
end Go.Proofs.Ytkfehogikjcgkaa.V
namespace Go.Proofs.Ytkfehogikjcgkaa.V
open Go
set_option linter.unusedVariables false
noncomputable section
/-! ### slices.ContainsFunc[[]impl.Phi,impl.Phi]: function 95 -/
abbrev slices_ContainsFunc_impl_Phi_impl_Phi.R := (((Bool × Unit) × Unit) × Unit)
def slices_ContainsFunc_impl_Phi_impl_Phi.f (k : Nat) (a0 : List tPhiD) (a1 : Int) : Option slices_ContainsFunc_impl_Phi_impl_Phi.R := Option.bind (slices_IndexFunc_impl_Phi_impl_Phi.f k a0 a1) fun r1 => some (((decide (0 ≤ r1.1.1.1), ()), ()), ())
def slices_ContainsFunc_impl_Phi_impl_Phi.s (k : Nat) : FS := ⟨[⟨false, [.lst tPhi]⟩, ⟨false, [.fn 96 [(0, 0)]]⟩], [(0, .cbox [.int .i64])], false, [⟨false, [.bool]⟩], [], [], fun x => slices_ContainsFunc_impl_Phi_impl_Phi.f k x.1.1.1 x.2.1.1⟩
def slices_ContainsFunc_impl_Phi_impl_Phi.E (k : Nat) : Ents := [(⟨140, [96]⟩, slices_IndexFunc_impl_Phi_impl_Phi.s k)]
def slices_ContainsFunc_impl_Phi_impl_Phi.L : List (LS slices_ContainsFunc_impl_Phi_impl_Phi.R) := []
def slices_ContainsFunc_impl_Phi_impl_Phi.c : Code := Try.f95.body.getD .skip
theorem slices_ContainsFunc_impl_Phi_impl_Phi.eq (k : Nat) (x) : (slices_ContainsFunc_impl_Phi_impl_Phi.s k).pf x = execF tab (slices_ContainsFunc_impl_Phi_impl_Phi.E k) Try.f95 slices_ContainsFunc_impl_Phi_impl_Phi.c (slices_ContainsFunc_impl_Phi_impl_Phi.s k) slices_ContainsFunc_impl_Phi_impl_Phi.L x := by kernel_rfl
theorem slices_ContainsFunc_impl_Phi_impl_Phi.sound : ∀ k, Sound Try.prog 95 (slices_ContainsFunc_impl_Phi_impl_Phi.s k) := sound_of mixed tab_ok (f := 95) (fn := Try.f95) (c := slices_ContainsFunc_impl_Phi_impl_Phi.c) (by kernel_rfl) (by kernel_rfl) (by kernel_rfl) ⟨[⟨false, [.lst tPhi]⟩, ⟨false, [.fn 96 [(0, 0)]]⟩], [(0, .cbox [.int .i64])], false, [⟨false, [.bool]⟩], [], []⟩ (by kernel_rfl) (by kernel_rfl) (fun k => (slices_ContainsFunc_impl_Phi_impl_Phi.s k).pf) slices_ContainsFunc_impl_Phi_impl_Phi.E (fun k => (EntsOK.cons (slices_IndexFunc_impl_Phi_impl_Phi.sound k) EntsOK.nil)) (fun k => slices_ContainsFunc_impl_Phi_impl_Phi.L) (fun k => trivial) trivial (fun k => trivial) slices_ContainsFunc_impl_Phi_impl_Phi.eq
end
end Go.Proofs.Ytkfehogikjcgkaa.V
namespace Go.Proofs.Ytkfehogikjcgkaa.V
open Go
set_option linter.unusedVariables false
noncomputable section
/-! ### impl.isBinary: function 170 -/
abbrev impl_isBinary.R := (((Bool × Unit) × Unit) × Unit)
def impl_isBinary.f (k : Nat) (a0 : Int) : Option impl_isBinary.R := Option.bind (impl_within.f k a0 1 17) fun r1 => some (((r1.1.1.1, ()), ()), ())
def impl_isBinary.s (k : Nat) : FS := ⟨[⟨false, [.int .i64]⟩], [], false, [⟨false, [.bool]⟩], [], [], fun x => impl_isBinary.f k x.1.1.1⟩
def impl_isBinary.E (k : Nat) : Ents := [(⟨55, []⟩, impl_within.s k)]
def impl_isBinary.L : List (LS impl_isBinary.R) := []
def impl_isBinary.c : Code := Try.f170.body.getD .skip
theorem impl_isBinary.eq (k : Nat) (x) : (impl_isBinary.s k).pf x = execF tab (impl_isBinary.E k) Try.f170 impl_isBinary.c (impl_isBinary.s k) impl_isBinary.L x := by kernel_rfl
theorem impl_isBinary.sound : ∀ k, Sound Try.prog 170 (impl_isBinary.s k) := sound_of mixed tab_ok (f := 170) (fn := Try.f170) (c := impl_isBinary.c) (by kernel_rfl) (by kernel_rfl) (by kernel_rfl) ⟨[⟨false, [.int .i64]⟩], [], false, [⟨false, [.bool]⟩], [], []⟩ (by kernel_rfl) (by kernel_rfl) (fun k => (impl_isBinary.s k).pf) impl_isBinary.E (fun k => (EntsOK.cons (impl_within.sound k) EntsOK.nil)) (fun k => impl_isBinary.L) (fun k => trivial) trivial (fun k => trivial) impl_isBinary.eq
end
end Go.Proofs.Ytkfehogikjcgkaa.V
namespace Go.Proofs.Ytkfehogikjcgkaa.V
open Go
set_option linter.unusedVariables false
noncomputable section
/-! ### impl.isCast: function 171 -/
abbrev impl_isCast.R := (((Bool × Unit) × Unit) × Unit)
def impl_isCast.f (k : Nat) (a0 : Int) : Option impl_isCast.R := Option.bind (impl_within.f k a0 18 20) fun r1 => some (((r1.1.1.1, ()), ()), ())
def impl_isCast.s (k : Nat) : FS := ⟨[⟨false, [.int .i64]⟩], [], false, [⟨false, [.bool]⟩], [], [], fun x => impl_isCast.f k x.1.1.1⟩
def impl_isCast.E (k : Nat) : Ents := [(⟨55, []⟩, impl_within.s k)]
def impl_isCast.L : List (LS impl_isCast.R) := []
def impl_isCast.c : Code := Try.f171.body.getD .skip
theorem impl_isCast.eq (k : Nat) (x) : (impl_isCast.s k).pf x = execF tab (impl_isCast.E k) Try.f171 impl_isCast.c (impl_isCast.s k) impl_isCast.L x := by kernel_rfl
theorem impl_isCast.sound : ∀ k, Sound Try.prog 171 (impl_isCast.s k) := sound_of mixed tab_ok (f := 171) (fn := Try.f171) (c := impl_isCast.c) (by kernel_rfl) (by kernel_rfl) (by kernel_rfl) ⟨[⟨false, [.int .i64]⟩], [], false, [⟨false, [.bool]⟩], [], []⟩ (by kernel_rfl) (by kernel_rfl) (fun k => (impl_isCast.s k).pf) impl_isCast.E (fun k => (EntsOK.cons (impl_within.sound k) EntsOK.nil)) (fun k => impl_isCast.L) (fun k => trivial) trivial (fun k => trivial) impl_isCast.eq
end
end Go.Proofs.Ytkfehogikjcgkaa.V
namespace Go.Proofs.Ytkfehogikjcgkaa.V
open Go
set_option linter.unusedVariables false
noncomputable section
/-! ### impl.OperandsOf: function 142 -/
abbrev impl_OperandsOf.R := (((Unit × Unit) × Unit) × ((List Int) × Unit))
def impl_OperandsOf.f (k : Nat) (a0 : tInstD) : Option impl_OperandsOf.R := Option.bind (impl_isBinary.f k a0.1) fun r1 => bif r1.1.1.1 then (some ((((), ()), ()), ([a0.2.2.1, a0.2.2.2.1], ()))) else (bif decide (a0.1 = 24) then (some ((((), ()), ()), ([a0.2.2.1, a0.2.2.2.1], ()))) else (Option.bind (impl_isCast.f k a0.1) fun r2 => bif r2.1.1.1 then (some ((((), ()), ()), ([a0.2.2.1], ()))) else (bif decide (a0.1 = 23) then (some ((((), ()), ()), ([a0.2.2.1], ()))) else (bif decide (a0.1 = 25) then (some ((((), ()), ()), ([a0.2.2.1], ()))) else (bif decide (a0.1 = 27) then (some ((((), ()), ()), ([a0.2.2.1], ()))) else (bif decide (a0.1 = 22) then (some ((((), ()), ()), ([a0.2.2.1, a0.2.2.2.1, a0.2.2.2.2.1], ()))) else (bif decide (a0.1 = 26) then (Option.bind (slices_Clone_int64_int64.f k a0.2.2.2.2.2.2.1) fun r3 => some ((((), ()), ()), (r3.2.1, ()))) else (some ((((), ()), ()), (([] : List Int), ()))))))))))
def impl_OperandsOf.s (k : Nat) : FS := ⟨[⟨true, [.int .i64, .int .i64, .int .i64, .int .i64, .int .i64, .int .i64, .lst (.int .i64)]⟩], [], false, [⟨false, [.own 100]⟩], [(100, .row true (.int .i64))], [], fun x => impl_OperandsOf.f k x.1.1⟩
def impl_OperandsOf.E (k : Nat) : Ents := [(⟨170, []⟩, impl_isBinary.s k), (⟨171, []⟩, impl_isCast.s k), (⟨160, []⟩, slices_Clone_int64_int64.s k)]
def impl_OperandsOf.L : List (LS impl_OperandsOf.R) := []
def impl_OperandsOf.c : Code := Try.f142.body.getD .skip
theorem impl_OperandsOf.eq (k : Nat) (x) : (impl_OperandsOf.s k).pf x = execF tab (impl_OperandsOf.E k) Try.f142 impl_OperandsOf.c (impl_OperandsOf.s k) impl_OperandsOf.L x := by kernel_rfl
theorem impl_OperandsOf.sound : ∀ k, Sound Try.prog 142 (impl_OperandsOf.s k) := sound_of mixed tab_ok (f := 142) (fn := Try.f142) (c := impl_OperandsOf.c) (by kernel_rfl) (by kernel_rfl) (by kernel_rfl) ⟨[⟨true, [.int .i64, .int .i64, .int .i64, .int .i64, .int .i64, .int .i64, .lst (.int .i64)]⟩], [], false, [⟨false, [.own 100]⟩], [(100, .row true (.int .i64))], []⟩ (by kernel_rfl) (by kernel_rfl) (fun k => (impl_OperandsOf.s k).pf) impl_OperandsOf.E (fun k => (EntsOK.cons (impl_isBinary.sound k) (EntsOK.cons (impl_isCast.sound k) (EntsOK.cons (slices_Clone_int64_int64.sound k) EntsOK.nil)))) (fun k => impl_OperandsOf.L) (fun k => trivial) trivial (fun k => trivial) impl_OperandsOf.eq
end
end Go.Proofs.Ytkfehogikjcgkaa.V
namespace Go.Proofs.Ytkfehogikjcgkaa.V
open Go
set_option linter.unusedVariables false
noncomputable section
/-! ### impl.isInst$1: function 143 -/
abbrev impl_isInst_1.R := (((Bool × Unit) × Unit) × Unit)
def impl_isInst_1.f (k : Nat) (a0 : Int) (a1 : Int) : Option impl_isInst_1.R := Option.bind (impl_within.f k a0 0 (IntKind.wrap .i64 (a1 - 1))) fun r1 => some (((!r1.1.1.1, ()), ()), ())
def impl_isInst_1.s (k : Nat) : FS := ⟨[⟨false, [.int .i64]⟩, ⟨false, [.ptr 0 0]⟩], [(0, .cbox [.int .i64])], false, [⟨false, [.bool]⟩], [], [], fun x => impl_isInst_1.f k x.1.1.1 x.2.1.1⟩
def impl_isInst_1.E (k : Nat) : Ents := [(⟨55, []⟩, impl_within.s k)]
def impl_isInst_1.L : List (LS impl_isInst_1.R) := []
def impl_isInst_1.c : Code := Try.f143.body.getD .skip
theorem impl_isInst_1.eq (k : Nat) (x) : (impl_isInst_1.s k).pf x = execF tab (impl_isInst_1.E k) Try.f143 impl_isInst_1.c (impl_isInst_1.s k) impl_isInst_1.L x := by kernel_rfl
theorem impl_isInst_1.sound : ∀ k, Sound Try.prog 143 (impl_isInst_1.s k) := sound_of mixed tab_ok (f := 143) (fn := Try.f143) (c := impl_isInst_1.c) (by kernel_rfl) (by kernel_rfl) (by kernel_rfl) ⟨[⟨false, [.int .i64]⟩, ⟨false, [.ptr 0 0]⟩], [(0, .cbox [.int .i64])], false, [⟨false, [.bool]⟩], [], []⟩ (by kernel_rfl) (by kernel_rfl) (fun k => (impl_isInst_1.s k).pf) impl_isInst_1.E (fun k => (EntsOK.cons (impl_within.sound k) EntsOK.nil)) (fun k => impl_isInst_1.L) (fun k => trivial) trivial (fun k => trivial) impl_isInst_1.eq
end
end Go.Proofs.Ytkfehogikjcgkaa.V
namespace Go.Proofs.Ytkfehogikjcgkaa.V
open Go
set_option linter.unusedVariables false
noncomputable section
/-! ### slices.IndexFunc[[]int64,int64]: function 123 -/
abbrev slices_IndexFunc_int64_int64_3.R := (((Int × Unit) × Unit) × Unit)
def slices_IndexFunc_int64_int64_3.l0_ (k : Nat) (l0 : (List Int) → Int → Int → Int → Option slices_IndexFunc_int64_int64_3.R) (a0 : List Int) (a1 : Int) (a2 : Int) (a3 : Int) : Option slices_IndexFunc_int64_int64_3.R := bif decide (a2 < a1) then (bif (decide (0 ≤ a2)) && (decide (a2 < ((List.length a0 : Nat) : Int))) then (Option.bind (impl_isInst_1.f k (List.getD a0 (Int.toNat a2) 0) a3) fun r1 => bif r1.1.1.1 then (some (((a2, ()), ()), ())) else (l0 a0 a1 (IntKind.wrap .i64 (a2 + 1)) a3)) else none) else (some (((-1, ()), ()), ()))
def slices_IndexFunc_int64_int64_3.all : Nat → ((List Int) → Int → Int → Int → Option slices_IndexFunc_int64_int64_3.R) × Unit
  | 0 => (fun _ _ _ _ => none, ())
  | k + 1 => (slices_IndexFunc_int64_int64_3.l0_ k (slices_IndexFunc_int64_int64_3.all k).1, ())
def slices_IndexFunc_int64_int64_3.l0 (k : Nat) : (List Int) → Int → Int → Int → Option slices_IndexFunc_int64_int64_3.R := (slices_IndexFunc_int64_int64_3.all k).1
def slices_IndexFunc_int64_int64_3.f (k : Nat) (a0 : List Int) (a1 : Int) : Option slices_IndexFunc_int64_int64_3.R := slices_IndexFunc_int64_int64_3.l0 k a0 ((List.length a0 : Nat) : Int) 0 a1
def slices_IndexFunc_int64_int64_3.s (k : Nat) : FS := ⟨[⟨false, [.lst (.int .i64)]⟩, ⟨false, [.fn 143 [(0, 0)]]⟩], [(0, .cbox [.int .i64])], false, [⟨false, [.int .i64]⟩], [], [], fun x => slices_IndexFunc_int64_int64_3.f k x.1.1.1 x.2.1.1⟩
def slices_IndexFunc_int64_int64_3.E (k : Nat) : Ents := [(⟨143, []⟩, impl_isInst_1.s k)]
def slices_IndexFunc_int64_int64_3.L0 (l : (List Int) → Int → Int → Int → Option slices_IndexFunc_int64_int64_3.R) : LS slices_IndexFunc_int64_int64_3.R := ⟨[], [(0, ⟨false, [.lst (.int .i64)]⟩), (1, ⟨false, [.fn 143 [(0, 0)]]⟩), (7, ⟨false, [.int .i64]⟩), (8, ⟨false, [.int .i64]⟩)], [(0, .cbox [.int .i64])], fun x => l x.1.1.1 x.1.2.2.1.1 x.1.2.2.2.1.1 x.2.1.1⟩
def slices_IndexFunc_int64_int64_3.L (l0 : (List Int) → Int → Int → Int → Option slices_IndexFunc_int64_int64_3.R) : List (LS slices_IndexFunc_int64_int64_3.R) := [slices_IndexFunc_int64_int64_3.L0 l0]
def slices_IndexFunc_int64_int64_3.c : Code := Try.f123.body.getD .skip
theorem slices_IndexFunc_int64_int64_3.eq (k : Nat) (x) : (slices_IndexFunc_int64_int64_3.s k).pf x = execF tab (slices_IndexFunc_int64_int64_3.E k) Try.f123 slices_IndexFunc_int64_int64_3.c (slices_IndexFunc_int64_int64_3.s k) (slices_IndexFunc_int64_int64_3.L (slices_IndexFunc_int64_int64_3.l0 k)) x := by kernel_rfl
theorem slices_IndexFunc_int64_int64_3.r0 (l0 : (List Int) → Int → Int → Int → Option slices_IndexFunc_int64_int64_3.R) (k : Nat) (x) : slices_IndexFunc_int64_int64_3.l0_ k l0 x.1.1.1 x.1.2.2.1.1 x.1.2.2.2.1.1 x.2.1.1 = roundOf tab (slices_IndexFunc_int64_int64_3.E k) (slices_IndexFunc_int64_int64_3.L l0) slices_IndexFunc_int64_int64_3.c (fin tab Try.f123 (slices_IndexFunc_int64_int64_3.s k)) 0 (slices_IndexFunc_int64_int64_3.L0 l0) x := by kernel_rfl
theorem slices_IndexFunc_int64_int64_3.sound : ∀ k, Sound Try.prog 123 (slices_IndexFunc_int64_int64_3.s k) := sound_of mixed tab_ok (f := 123) (fn := Try.f123) (c := slices_IndexFunc_int64_int64_3.c) (by kernel_rfl) (by kernel_rfl) (by kernel_rfl) ⟨[⟨false, [.lst (.int .i64)]⟩, ⟨false, [.fn 143 [(0, 0)]]⟩], [(0, .cbox [.int .i64])], false, [⟨false, [.int .i64]⟩], [], []⟩ (by kernel_rfl) (by kernel_rfl) (fun k => (slices_IndexFunc_int64_int64_3.s k).pf) slices_IndexFunc_int64_int64_3.E (fun k => (EntsOK.cons (impl_isInst_1.sound k) EntsOK.nil)) (fun k => slices_IndexFunc_int64_int64_3.L (slices_IndexFunc_int64_int64_3.l0 k)) (fun k => ⟨rfl, trivial⟩) ⟨fun _ => rfl, trivial⟩ (fun k => ⟨⟨(slices_IndexFunc_int64_int64_3.L0 (slices_IndexFunc_int64_int64_3.l0 (k + 1))).l, rfl, fun x => slices_IndexFunc_int64_int64_3.r0 (slices_IndexFunc_int64_int64_3.l0 k) k x⟩, trivial⟩) slices_IndexFunc_int64_int64_3.eq
end
end Go.Proofs.Ytkfehogikjcgkaa.V
namespace Go.Proofs.Ytkfehogikjcgkaa.V
open Go
set_option linter.unusedVariables false
noncomputable section
/-! ### slices.ContainsFunc[[]int64,int64]: function 69 -/
abbrev slices_ContainsFunc_int64_int64_3.R := (((Bool × Unit) × Unit) × Unit)
def slices_ContainsFunc_int64_int64_3.f (k : Nat) (a0 : List Int) (a1 : Int) : Option slices_ContainsFunc_int64_int64_3.R := Option.bind (slices_IndexFunc_int64_int64_3.f k a0 a1) fun r1 => some (((decide (0 ≤ r1.1.1.1), ()), ()), ())
def slices_ContainsFunc_int64_int64_3.s (k : Nat) : FS := ⟨[⟨false, [.lst (.int .i64)]⟩, ⟨false, [.fn 143 [(0, 0)]]⟩], [(0, .cbox [.int .i64])], false, [⟨false, [.bool]⟩], [], [], fun x => slices_ContainsFunc_int64_int64_3.f k x.1.1.1 x.2.1.1⟩
def slices_ContainsFunc_int64_int64_3.E (k : Nat) : Ents := [(⟨123, [143]⟩, slices_IndexFunc_int64_int64_3.s k)]
def slices_ContainsFunc_int64_int64_3.L : List (LS slices_ContainsFunc_int64_int64_3.R) := []
def slices_ContainsFunc_int64_int64_3.c : Code := Try.f69.body.getD .skip
theorem slices_ContainsFunc_int64_int64_3.eq (k : Nat) (x) : (slices_ContainsFunc_int64_int64_3.s k).pf x = execF tab (slices_ContainsFunc_int64_int64_3.E k) Try.f69 slices_ContainsFunc_int64_int64_3.c (slices_ContainsFunc_int64_int64_3.s k) slices_ContainsFunc_int64_int64_3.L x := by kernel_rfl
theorem slices_ContainsFunc_int64_int64_3.sound : ∀ k, Sound Try.prog 69 (slices_ContainsFunc_int64_int64_3.s k) := sound_of mixed tab_ok (f := 69) (fn := Try.f69) (c := slices_ContainsFunc_int64_int64_3.c) (by kernel_rfl) (by kernel_rfl) (by kernel_rfl) ⟨[⟨false, [.lst (.int .i64)]⟩, ⟨false, [.fn 143 [(0, 0)]]⟩], [(0, .cbox [.int .i64])], false, [⟨false, [.bool]⟩], [], []⟩ (by kernel_rfl) (by kernel_rfl) (fun k => (slices_ContainsFunc_int64_int64_3.s k).pf) slices_ContainsFunc_int64_int64_3.E (fun k => (EntsOK.cons (slices_IndexFunc_int64_int64_3.sound k) EntsOK.nil)) (fun k => slices_ContainsFunc_int64_int64_3.L) (fun k => trivial) trivial (fun k => trivial) slices_ContainsFunc_int64_int64_3.eq
end
end Go.Proofs.Ytkfehogikjcgkaa.V
namespace Go.Proofs.Ytkfehogikjcgkaa.V
open Go
set_option linter.unusedVariables false
noncomputable section
/-! ### impl.isInst$2: function 144 -/
abbrev impl_isInst_2.R := (((Bool × Unit) × Unit) × Unit)
def impl_isInst_2.f (k : Nat) (a0 : Int) : Option impl_isInst_2.R := some (((!decide (a0 = 0), ()), ()), ())
def impl_isInst_2.s (k : Nat) : FS := ⟨[⟨false, [.int .i64]⟩], [], false, [⟨false, [.bool]⟩], [], [], fun x => impl_isInst_2.f k x.1.1.1⟩
def impl_isInst_2.E (k : Nat) : Ents := []
def impl_isInst_2.L : List (LS impl_isInst_2.R) := []
def impl_isInst_2.c : Code := Try.f144.body.getD .skip
theorem impl_isInst_2.eq (k : Nat) (x) : (impl_isInst_2.s k).pf x = execF tab (impl_isInst_2.E k) Try.f144 impl_isInst_2.c (impl_isInst_2.s k) impl_isInst_2.L x := by kernel_rfl
theorem impl_isInst_2.sound : ∀ k, Sound Try.prog 144 (impl_isInst_2.s k) := sound_of mixed tab_ok (f := 144) (fn := Try.f144) (c := impl_isInst_2.c) (by kernel_rfl) (by kernel_rfl) (by kernel_rfl) ⟨[⟨false, [.int .i64]⟩], [], false, [⟨false, [.bool]⟩], [], []⟩ (by kernel_rfl) (by kernel_rfl) (fun k => (impl_isInst_2.s k).pf) impl_isInst_2.E (fun k => EntsOK.nil) (fun k => impl_isInst_2.L) (fun k => trivial) trivial (fun k => trivial) impl_isInst_2.eq
end
end Go.Proofs.Ytkfehogikjcgkaa.V
namespace Go.Proofs.Ytkfehogikjcgkaa.V
open Go
set_option linter.unusedVariables false
noncomputable section
/-! ### slices.IndexFunc[[]int64,int64]: function 123 -/
abbrev slices_IndexFunc_int64_int64_4.R := (((Int × Unit) × Unit) × Unit)
def slices_IndexFunc_int64_int64_4.l0_ (k : Nat) (l0 : (List Int) → Int → Int → Option slices_IndexFunc_int64_int64_4.R) (a0 : List Int) (a1 : Int) (a2 : Int) : Option slices_IndexFunc_int64_int64_4.R := bif decide (a2 < a1) then (bif (decide (0 ≤ a2)) && (decide (a2 < ((List.length a0 : Nat) : Int))) then (Option.bind (impl_isInst_2.f k (List.getD a0 (Int.toNat a2) 0)) fun r1 => bif r1.1.1.1 then (some (((a2, ()), ()), ())) else (l0 a0 a1 (IntKind.wrap .i64 (a2 + 1)))) else none) else (some (((-1, ()), ()), ()))
def slices_IndexFunc_int64_int64_4.all : Nat → ((List Int) → Int → Int → Option slices_IndexFunc_int64_int64_4.R) × Unit
  | 0 => (fun _ _ _ => none, ())
  | k + 1 => (slices_IndexFunc_int64_int64_4.l0_ k (slices_IndexFunc_int64_int64_4.all k).1, ())
def slices_IndexFunc_int64_int64_4.l0 (k : Nat) : (List Int) → Int → Int → Option slices_IndexFunc_int64_int64_4.R := (slices_IndexFunc_int64_int64_4.all k).1
def slices_IndexFunc_int64_int64_4.f (k : Nat) (a0 : List Int) : Option slices_IndexFunc_int64_int64_4.R := slices_IndexFunc_int64_int64_4.l0 k a0 ((List.length a0 : Nat) : Int) 0
def slices_IndexFunc_int64_int64_4.s (k : Nat) : FS := ⟨[⟨false, [.lst (.int .i64)]⟩, ⟨false, [.fn 144 []]⟩], [], false, [⟨false, [.int .i64]⟩], [], [], fun x => slices_IndexFunc_int64_int64_4.f k x.1.1.1⟩
def slices_IndexFunc_int64_int64_4.E (k : Nat) : Ents := [(⟨144, []⟩, impl_isInst_2.s k)]
def slices_IndexFunc_int64_int64_4.L0 (l : (List Int) → Int → Int → Option slices_IndexFunc_int64_int64_4.R) : LS slices_IndexFunc_int64_int64_4.R := ⟨[], [(0, ⟨false, [.lst (.int .i64)]⟩), (1, ⟨false, [.fn 144 []]⟩), (7, ⟨false, [.int .i64]⟩), (8, ⟨false, [.int .i64]⟩)], [], fun x => l x.1.1.1 x.1.2.2.1.1 x.1.2.2.2.1.1⟩
def slices_IndexFunc_int64_int64_4.L (l0 : (List Int) → Int → Int → Option slices_IndexFunc_int64_int64_4.R) : List (LS slices_IndexFunc_int64_int64_4.R) := [slices_IndexFunc_int64_int64_4.L0 l0]
def slices_IndexFunc_int64_int64_4.c : Code := Try.f123.body.getD .skip
theorem slices_IndexFunc_int64_int64_4.eq (k : Nat) (x) : (slices_IndexFunc_int64_int64_4.s k).pf x = execF tab (slices_IndexFunc_int64_int64_4.E k) Try.f123 slices_IndexFunc_int64_int64_4.c (slices_IndexFunc_int64_int64_4.s k) (slices_IndexFunc_int64_int64_4.L (slices_IndexFunc_int64_int64_4.l0 k)) x := by kernel_rfl
theorem slices_IndexFunc_int64_int64_4.r0 (l0 : (List Int) → Int → Int → Option slices_IndexFunc_int64_int64_4.R) (k : Nat) (x) : slices_IndexFunc_int64_int64_4.l0_ k l0 x.1.1.1 x.1.2.2.1.1 x.1.2.2.2.1.1 = roundOf tab (slices_IndexFunc_int64_int64_4.E k) (slices_IndexFunc_int64_int64_4.L l0) slices_IndexFunc_int64_int64_4.c (fin tab Try.f123 (slices_IndexFunc_int64_int64_4.s k)) 0 (slices_IndexFunc_int64_int64_4.L0 l0) x := by kernel_rfl
theorem slices_IndexFunc_int64_int64_4.sound : ∀ k, Sound Try.prog 123 (slices_IndexFunc_int64_int64_4.s k) := sound_of mixed tab_ok (f := 123) (fn := Try.f123) (c := slices_IndexFunc_int64_int64_4.c) (by kernel_rfl) (by kernel_rfl) (by kernel_rfl) ⟨[⟨false, [.lst (.int .i64)]⟩, ⟨false, [.fn 144 []]⟩], [], false, [⟨false, [.int .i64]⟩], [], []⟩ (by kernel_rfl) (by kernel_rfl) (fun k => (slices_IndexFunc_int64_int64_4.s k).pf) slices_IndexFunc_int64_int64_4.E (fun k => (EntsOK.cons (impl_isInst_2.sound k) EntsOK.nil)) (fun k => slices_IndexFunc_int64_int64_4.L (slices_IndexFunc_int64_int64_4.l0 k)) (fun k => ⟨rfl, trivial⟩) ⟨fun _ => rfl, trivial⟩ (fun k => ⟨⟨(slices_IndexFunc_int64_int64_4.L0 (slices_IndexFunc_int64_int64_4.l0 (k + 1))).l, rfl, fun x => slices_IndexFunc_int64_int64_4.r0 (slices_IndexFunc_int64_int64_4.l0 k) k x⟩, trivial⟩) slices_IndexFunc_int64_int64_4.eq
end
end Go.Proofs.Ytkfehogikjcgkaa.V
namespace Go.Proofs.Ytkfehogikjcgkaa.V
open Go
set_option linter.unusedVariables false
noncomputable section
/-! ### slices.ContainsFunc[[]int64,int64]: function 69 -/
abbrev slices_ContainsFunc_int64_int64_4.R := (((Bool × Unit) × Unit) × Unit)
def slices_ContainsFunc_int64_int64_4.f (k : Nat) (a0 : List Int) : Option slices_ContainsFunc_int64_int64_4.R := Option.bind (slices_IndexFunc_int64_int64_4.f k a0) fun r1 => some (((decide (0 ≤ r1.1.1.1), ()), ()), ())
def slices_ContainsFunc_int64_int64_4.s (k : Nat) : FS := ⟨[⟨false, [.lst (.int .i64)]⟩, ⟨false, [.fn 144 []]⟩], [], false, [⟨false, [.bool]⟩], [], [], fun x => slices_ContainsFunc_int64_int64_4.f k x.1.1.1⟩
def slices_ContainsFunc_int64_int64_4.E (k : Nat) : Ents := [(⟨123, [144]⟩, slices_IndexFunc_int64_int64_4.s k)]
def slices_ContainsFunc_int64_int64_4.L : List (LS slices_ContainsFunc_int64_int64_4.R) := []
def slices_ContainsFunc_int64_int64_4.c : Code := Try.f69.body.getD .skip
theorem slices_ContainsFunc_int64_int64_4.eq (k : Nat) (x) : (slices_ContainsFunc_int64_int64_4.s k).pf x = execF tab (slices_ContainsFunc_int64_int64_4.E k) Try.f69 slices_ContainsFunc_int64_int64_4.c (slices_ContainsFunc_int64_int64_4.s k) slices_ContainsFunc_int64_int64_4.L x := by kernel_rfl
theorem slices_ContainsFunc_int64_int64_4.sound : ∀ k, Sound Try.prog 69 (slices_ContainsFunc_int64_int64_4.s k) := sound_of mixed tab_ok (f := 69) (fn := Try.f69) (c := slices_ContainsFunc_int64_int64_4.c) (by kernel_rfl) (by kernel_rfl) (by kernel_rfl) ⟨[⟨false, [.lst (.int .i64)]⟩, ⟨false, [.fn 144 []]⟩], [], false, [⟨false, [.bool]⟩], [], []⟩ (by kernel_rfl) (by kernel_rfl) (fun k => (slices_ContainsFunc_int64_int64_4.s k).pf) slices_ContainsFunc_int64_int64_4.E (fun k => (EntsOK.cons (slices_IndexFunc_int64_int64_4.sound k) EntsOK.nil)) (fun k => slices_ContainsFunc_int64_int64_4.L) (fun k => trivial) trivial (fun k => trivial) slices_ContainsFunc_int64_int64_4.eq
end
end Go.Proofs.Ytkfehogikjcgkaa.V
namespace Go.Proofs.Ytkfehogikjcgkaa.V
open Go
set_option linter.unusedVariables false
noncomputable section
/-! ### impl.isWidth: function 145 -/
abbrev impl_isWidth.R := (((Bool × Unit) × Unit) × Unit)
def impl_isWidth.f (k : Nat) (a0 : tInstD) : Option impl_isWidth.R := bif decide (a0.1 = 24) then (bif decide (a0.1 = 24) then (some (((decide (a0.2.1 = 0), ()), ()), ())) else (bif decide (a0.1 = 23) then (some (((decide (a0.2.1 = 8), ()), ()), ())) else (Option.bind (impl_WidthOk.f k a0.2.1) fun r1 => some (((r1.1.1.1, ()), ()), ())))) else (bif decide (a0.1 = 25) then (some (((decide (a0.2.1 = 0), ()), ()), ())) else (bif decide (a0.1 = 23) then (some (((decide (a0.2.1 = 8), ()), ()), ())) else (Option.bind (impl_WidthOk.f k a0.2.1) fun r2 => some (((r2.1.1.1, ()), ()), ()))))
def impl_isWidth.s (k : Nat) : FS := ⟨[⟨true, [.int .i64, .int .i64, .int .i64, .int .i64, .int .i64, .int .i64, .lst (.int .i64)]⟩], [], false, [⟨false, [.bool]⟩], [], [], fun x => impl_isWidth.f k x.1.1⟩
def impl_isWidth.E (k : Nat) : Ents := [(⟨93, []⟩, impl_WidthOk.s k)]
def impl_isWidth.L : List (LS impl_isWidth.R) := []
def impl_isWidth.c : Code := Try.f145.body.getD .skip
theorem impl_isWidth.eq (k : Nat) (x) : (impl_isWidth.s k).pf x = execF tab (impl_isWidth.E k) Try.f145 impl_isWidth.c (impl_isWidth.s k) impl_isWidth.L x := by kernel_rfl
theorem impl_isWidth.sound : ∀ k, Sound Try.prog 145 (impl_isWidth.s k) := sound_of mixed tab_ok (f := 145) (fn := Try.f145) (c := impl_isWidth.c) (by kernel_rfl) (by kernel_rfl) (by kernel_rfl) ⟨[⟨true, [.int .i64, .int .i64, .int .i64, .int .i64, .int .i64, .int .i64, .lst (.int .i64)]⟩], [], false, [⟨false, [.bool]⟩], [], []⟩ (by kernel_rfl) (by kernel_rfl) (fun k => (impl_isWidth.s k).pf) impl_isWidth.E (fun k => (EntsOK.cons (impl_WidthOk.sound k) EntsOK.nil)) (fun k => impl_isWidth.L) (fun k => trivial) trivial (fun k => trivial) impl_isWidth.eq
end
end Go.Proofs.Ytkfehogikjcgkaa.V
namespace Go.Proofs.Ytkfehogikjcgkaa.V
open Go
set_option linter.unusedVariables false
noncomputable section
/-! ### impl.mask: function 175 -/
abbrev impl_mask.R := (((Int × Unit) × Unit) × Unit)
def impl_mask.f (k : Nat) (a0 : Int) : Option impl_mask.R := bif decide (0 ≤ a0) then (some (((IntKind.wrap .i64 ((V.shl .i64 1 a0) - 1), ()), ()), ())) else none
def impl_mask.s (k : Nat) : FS := ⟨[⟨false, [.int .i64]⟩], [], false, [⟨false, [.int .i64]⟩], [], [], fun x => impl_mask.f k x.1.1.1⟩
def impl_mask.E (k : Nat) : Ents := []
def impl_mask.L : List (LS impl_mask.R) := []
def impl_mask.c : Code := Try.f175.body.getD .skip
theorem impl_mask.eq (k : Nat) (x) : (impl_mask.s k).pf x = execF tab (impl_mask.E k) Try.f175 impl_mask.c (impl_mask.s k) impl_mask.L x := by kernel_rfl
theorem impl_mask.sound : ∀ k, Sound Try.prog 175 (impl_mask.s k) := sound_of mixed tab_ok (f := 175) (fn := Try.f175) (c := impl_mask.c) (by kernel_rfl) (by kernel_rfl) (by kernel_rfl) ⟨[⟨false, [.int .i64]⟩], [], false, [⟨false, [.int .i64]⟩], [], []⟩ (by kernel_rfl) (by kernel_rfl) (fun k => (impl_mask.s k).pf) impl_mask.E (fun k => EntsOK.nil) (fun k => impl_mask.L) (fun k => trivial) trivial (fun k => trivial) impl_mask.eq
end
end Go.Proofs.Ytkfehogikjcgkaa.V
namespace Go.Proofs.Ytkfehogikjcgkaa.V
open Go
set_option linter.unusedVariables false
noncomputable section
/-! ### impl.isValue: function 172 -/
abbrev impl_isValue.R := (((Bool × Unit) × Unit) × Unit)
def impl_isValue.f (k : Nat) (a0 : Int) (a1 : Int) : Option impl_isValue.R := Option.bind (impl_WidthOk.f k a0) fun r1 => bif r1.1.1.1 then (Option.bind (impl_mask.f k a0) fun r2 => Option.bind (impl_within.f k a1 0 r2.1.1.1) fun r3 => some (((r3.1.1.1, ()), ()), ())) else (some (((false, ()), ()), ()))
def impl_isValue.s (k : Nat) : FS := ⟨[⟨false, [.int .i64]⟩, ⟨false, [.int .i64]⟩], [], false, [⟨false, [.bool]⟩], [], [], fun x => impl_isValue.f k x.1.1.1 x.1.2.1.1⟩
def impl_isValue.E (k : Nat) : Ents := [(⟨93, []⟩, impl_WidthOk.s k), (⟨175, []⟩, impl_mask.s k), (⟨55, []⟩, impl_within.s k)]
def impl_isValue.L : List (LS impl_isValue.R) := []
def impl_isValue.c : Code := Try.f172.body.getD .skip
theorem impl_isValue.eq (k : Nat) (x) : (impl_isValue.s k).pf x = execF tab (impl_isValue.E k) Try.f172 impl_isValue.c (impl_isValue.s k) impl_isValue.L x := by kernel_rfl
theorem impl_isValue.sound : ∀ k, Sound Try.prog 172 (impl_isValue.s k) := sound_of mixed tab_ok (f := 172) (fn := Try.f172) (c := impl_isValue.c) (by kernel_rfl) (by kernel_rfl) (by kernel_rfl) ⟨[⟨false, [.int .i64]⟩, ⟨false, [.int .i64]⟩], [], false, [⟨false, [.bool]⟩], [], []⟩ (by kernel_rfl) (by kernel_rfl) (fun k => (impl_isValue.s k).pf) impl_isValue.E (fun k => (EntsOK.cons (impl_WidthOk.sound k) (EntsOK.cons (impl_mask.sound k) (EntsOK.cons (impl_within.sound k) EntsOK.nil)))) (fun k => impl_isValue.L) (fun k => trivial) trivial (fun k => trivial) impl_isValue.eq
end
end Go.Proofs.Ytkfehogikjcgkaa.V
namespace Go.Proofs.Ytkfehogikjcgkaa.V
open Go
set_option linter.unusedVariables false
noncomputable section
/-! ### impl.isImm: function 146 -/
abbrev impl_isImm.R := (((Bool × Unit) × Unit) × Unit)
def impl_isImm.f (k : Nat) (a0 : tInstD) (a1 : Int) : Option impl_isImm.R := bif decide (a0.1 = 21) then (Option.bind (impl_isValue.f k a0.2.1 a0.2.2.2.2.2.1) fun r1 => some (((r1.1.1.1, ()), ()), ())) else (bif decide (a0.1 = 26) then (Option.bind (impl_within.f k a0.2.2.2.2.2.1 0 (IntKind.wrap .i64 (a1 - 1))) fun r2 => some (((r2.1.1.1, ()), ()), ())) else (some (((decide (a0.2.2.2.2.2.1 = 0), ()), ()), ())))
def impl_isImm.s (k : Nat) : FS := ⟨[⟨true, [.int .i64, .int .i64, .int .i64, .int .i64, .int .i64, .int .i64, .lst (.int .i64)]⟩, ⟨false, [.int .i64]⟩], [], false, [⟨false, [.bool]⟩], [], [], fun x => impl_isImm.f k x.1.1 x.1.2.1.1⟩
def impl_isImm.E (k : Nat) : Ents := [(⟨172, []⟩, impl_isValue.s k), (⟨55, []⟩, impl_within.s k)]
def impl_isImm.L : List (LS impl_isImm.R) := []
def impl_isImm.c : Code := Try.f146.body.getD .skip
theorem impl_isImm.eq (k : Nat) (x) : (impl_isImm.s k).pf x = execF tab (impl_isImm.E k) Try.f146 impl_isImm.c (impl_isImm.s k) impl_isImm.L x := by kernel_rfl
theorem impl_isImm.sound : ∀ k, Sound Try.prog 146 (impl_isImm.s k) := sound_of mixed tab_ok (f := 146) (fn := Try.f146) (c := impl_isImm.c) (by kernel_rfl) (by kernel_rfl) (by kernel_rfl) ⟨[⟨true, [.int .i64, .int .i64, .int .i64, .int .i64, .int .i64, .int .i64, .lst (.int .i64)]⟩, ⟨false, [.int .i64]⟩], [], false, [⟨false, [.bool]⟩], [], []⟩ (by kernel_rfl) (by kernel_rfl) (fun k => (impl_isImm.s k).pf) impl_isImm.E (fun k => (EntsOK.cons (impl_isValue.sound k) (EntsOK.cons (impl_within.sound k) EntsOK.nil))) (fun k => impl_isImm.L) (fun k => trivial) trivial (fun k => trivial) impl_isImm.eq
end
end Go.Proofs.Ytkfehogikjcgkaa.V
namespace Go.Proofs.Ytkfehogikjcgkaa.V
open Go
set_option linter.unusedVariables false
noncomputable section
/-! ### impl.isInst: function 100 -/
abbrev impl_isInst.R := (((Bool × Unit) × Unit) × Unit)
def impl_isInst.f (k : Nat) (a0 : tInstD) (a1 : Int) (a2 : Int) : Option impl_isInst.R := Option.bind (impl_within.f k a0.1 1 27) fun r1 => bif !r1.1.1.1 then (some (((false, ()), ()), ())) else (bif decide (4 < ((List.length a0.2.2.2.2.2.2.1 : Nat) : Int)) then (some (((false, ()), ()), ())) else (bif decide (0 < ((List.length a0.2.2.2.2.2.2.1 : Nat) : Int)) then (bif !decide (a0.1 = 26) then (some (((false, ()), ()), ())) else (Option.bind (impl_OperandsOf.f k a0) fun r2 => Option.bind (slices_ContainsFunc_int64_int64_3.f k r2.2.1 a1) fun r3 => bif r3.1.1.1 then (some (((false, ()), ()), ())) else (bif decide (a0.1 = 26) then (bif (decide (0 ≤ 0)) && (decide (0 ≤ ((List.length [a0.2.2.1, a0.2.2.2.1, a0.2.2.2.2.1] : Nat) : Int))) then (Option.bind (slices_ContainsFunc_int64_int64_4.f k [a0.2.2.1, a0.2.2.2.1, a0.2.2.2.2.1]) fun r4 => bif r4.1.1.1 then (some (((false, ()), ()), ())) else (Option.bind (impl_isWidth.f k a0) fun r5 => bif r5.1.1.1 then (Option.bind (impl_isImm.f k a0 a2) fun r6 => some (((r6.1.1.1, ()), ()), ())) else (some (((false, ()), ()), ())))) else none) else (bif (decide (0 ≤ ((List.length r2.2.1 : Nat) : Int))) && (decide (((List.length r2.2.1 : Nat) : Int) ≤ ((List.length [a0.2.2.1, a0.2.2.2.1, a0.2.2.2.2.1] : Nat) : Int))) then (Option.bind (slices_ContainsFunc_int64_int64_4.f k (List.drop (Int.toNat ((List.length r2.2.1 : Nat) : Int)) [a0.2.2.1, a0.2.2.2.1, a0.2.2.2.2.1])) fun r7 => bif r7.1.1.1 then (some (((false, ()), ()), ())) else (Option.bind (impl_isWidth.f k a0) fun r8 => bif r8.1.1.1 then (Option.bind (impl_isImm.f k a0 a2) fun r9 => some (((r9.1.1.1, ()), ()), ())) else (some (((false, ()), ()), ())))) else none)))) else (Option.bind (impl_OperandsOf.f k a0) fun r10 => Option.bind (slices_ContainsFunc_int64_int64_3.f k r10.2.1 a1) fun r11 => bif r11.1.1.1 then (some (((false, ()), ()), ())) else (bif decide (a0.1 = 26) then (bif (decide (0 ≤ 0)) && (decide (0 ≤ ((List.length [a0.2.2.1, a0.2.2.2.1, a0.2.2.2.2.1] : Nat) : Int))) then (Option.bind (slices_ContainsFunc_int64_int64_4.f k [a0.2.2.1, a0.2.2.2.1, a0.2.2.2.2.1]) fun r12 => bif r12.1.1.1 then (some (((false, ()), ()), ())) else (Option.bind (impl_isWidth.f k a0) fun r13 => bif r13.1.1.1 then (Option.bind (impl_isImm.f k a0 a2) fun r14 => some (((r14.1.1.1, ()), ()), ())) else (some (((false, ()), ()), ())))) else none) else (bif (decide (0 ≤ ((List.length r10.2.1 : Nat) : Int))) && (decide (((List.length r10.2.1 : Nat) : Int) ≤ ((List.length [a0.2.2.1, a0.2.2.2.1, a0.2.2.2.2.1] : Nat) : Int))) then (Option.bind (slices_ContainsFunc_int64_int64_4.f k (List.drop (Int.toNat ((List.length r10.2.1 : Nat) : Int)) [a0.2.2.1, a0.2.2.2.1, a0.2.2.2.2.1])) fun r15 => bif r15.1.1.1 then (some (((false, ()), ()), ())) else (Option.bind (impl_isWidth.f k a0) fun r16 => bif r16.1.1.1 then (Option.bind (impl_isImm.f k a0 a2) fun r17 => some (((r17.1.1.1, ()), ()), ())) else (some (((false, ()), ()), ())))) else none)))))
def impl_isInst.s (k : Nat) : FS := ⟨[⟨true, [.int .i64, .int .i64, .int .i64, .int .i64, .int .i64, .int .i64, .lst (.int .i64)]⟩, ⟨false, [.int .i64]⟩, ⟨false, [.int .i64]⟩], [], false, [⟨false, [.bool]⟩], [], [], fun x => impl_isInst.f k x.1.1 x.1.2.1.1 x.1.2.2.1.1⟩
def impl_isInst.E (k : Nat) : Ents := [(⟨55, []⟩, impl_within.s k), (⟨142, []⟩, impl_OperandsOf.s k), (⟨69, [143]⟩, slices_ContainsFunc_int64_int64_3.s k), (⟨69, [144]⟩, slices_ContainsFunc_int64_int64_4.s k), (⟨145, []⟩, impl_isWidth.s k), (⟨146, []⟩, impl_isImm.s k)]
def impl_isInst.L : List (LS impl_isInst.R) := []
def impl_isInst.c : Code := Try.f100.body.getD .skip
theorem impl_isInst.eq (k : Nat) (x) : (impl_isInst.s k).pf x = execF tab (impl_isInst.E k) Try.f100 impl_isInst.c (impl_isInst.s k) impl_isInst.L x := by kernel_rfl
theorem impl_isInst.sound : ∀ k, Sound Try.prog 100 (impl_isInst.s k) := sound_of mixed tab_ok (f := 100) (fn := Try.f100) (c := impl_isInst.c) (by kernel_rfl) (by kernel_rfl) (by kernel_rfl) ⟨[⟨true, [.int .i64, .int .i64, .int .i64, .int .i64, .int .i64, .int .i64, .lst (.int .i64)]⟩, ⟨false, [.int .i64]⟩, ⟨false, [.int .i64]⟩], [], false, [⟨false, [.bool]⟩], [], []⟩ (by kernel_rfl) (by kernel_rfl) (fun k => (impl_isInst.s k).pf) impl_isInst.E (fun k => (EntsOK.cons (impl_within.sound k) (EntsOK.cons (impl_OperandsOf.sound k) (EntsOK.cons (slices_ContainsFunc_int64_int64_3.sound k) (EntsOK.cons (slices_ContainsFunc_int64_int64_4.sound k) (EntsOK.cons (impl_isWidth.sound k) (EntsOK.cons (impl_isImm.sound k) EntsOK.nil))))))) (fun k => impl_isInst.L) (fun k => trivial) trivial (fun k => trivial) impl_isInst.eq
end
end Go.Proofs.Ytkfehogikjcgkaa.V
namespace Go.Proofs.Ytkfehogikjcgkaa.V
open Go
set_option linter.unusedVariables false
noncomputable section
/-! ### impl.isFunc$3: function 99 -/
abbrev impl_isFunc_3.R := (((Bool × Unit) × Unit) × Unit)
def impl_isFunc_3.f (k : Nat) (a0 : tInstD) (a1 : Int) (a2 : Int) : Option impl_isFunc_3.R := Option.bind (impl_isInst.f k a0 a1 a2) fun r1 => some (((!r1.1.1.1, ()), ()), ())
def impl_isFunc_3.s (k : Nat) : FS := ⟨[⟨true, [.int .i64, .int .i64, .int .i64, .int .i64, .int .i64, .int .i64, .lst (.int .i64)]⟩, ⟨false, [.ptr 0 0]⟩, ⟨false, [.ptr 1 0]⟩], [(0, .cbox [.int .i64]), (1, .cbox [.int .i64])], false, [⟨false, [.bool]⟩], [], [], fun x => impl_isFunc_3.f k x.1.1 x.2.1.1 x.2.2.1.1⟩
def impl_isFunc_3.E (k : Nat) : Ents := [(⟨100, []⟩, impl_isInst.s k)]
def impl_isFunc_3.L : List (LS impl_isFunc_3.R) := []
def impl_isFunc_3.c : Code := Try.f99.body.getD .skip
theorem impl_isFunc_3.eq (k : Nat) (x) : (impl_isFunc_3.s k).pf x = execF tab (impl_isFunc_3.E k) Try.f99 impl_isFunc_3.c (impl_isFunc_3.s k) impl_isFunc_3.L x := by kernel_rfl
theorem impl_isFunc_3.sound : ∀ k, Sound Try.prog 99 (impl_isFunc_3.s k) := sound_of mixed tab_ok (f := 99) (fn := Try.f99) (c := impl_isFunc_3.c) (by kernel_rfl) (by kernel_rfl) (by kernel_rfl) ⟨[⟨true, [.int .i64, .int .i64, .int .i64, .int .i64, .int .i64, .int .i64, .lst (.int .i64)]⟩, ⟨false, [.ptr 0 0]⟩, ⟨false, [.ptr 1 0]⟩], [(0, .cbox [.int .i64]), (1, .cbox [.int .i64])], false, [⟨false, [.bool]⟩], [], []⟩ (by kernel_rfl) (by kernel_rfl) (fun k => (impl_isFunc_3.s k).pf) impl_isFunc_3.E (fun k => (EntsOK.cons (impl_isInst.sound k) EntsOK.nil)) (fun k => impl_isFunc_3.L) (fun k => trivial) trivial (fun k => trivial) impl_isFunc_3.eq
end
end Go.Proofs.Ytkfehogikjcgkaa.V
namespace Go.Proofs.Ytkfehogikjcgkaa.V
open Go
set_option linter.unusedVariables false
noncomputable section
/-! ### slices.IndexFunc[[]impl.Inst,impl.Inst]: function 141 -/
abbrev slices_IndexFunc_impl_Inst_impl_Inst.R := (((Int × Unit) × Unit) × Unit)
def slices_IndexFunc_impl_Inst_impl_Inst.l0_ (k : Nat) (l0 : (List tInstD) → Int → Int → Int → Int → Option slices_IndexFunc_impl_Inst_impl_Inst.R) (a0 : List tInstD) (a1 : Int) (a2 : Int) (a3 : Int) (a4 : Int) : Option slices_IndexFunc_impl_Inst_impl_Inst.R := bif decide (a2 < a1) then (bif (decide (0 ≤ a2)) && (decide (a2 < ((List.length a0 : Nat) : Int))) then (Option.bind (impl_isFunc_3.f k (List.getD a0 (Int.toNat a2) tInstZ) a3 a4) fun r1 => bif r1.1.1.1 then (some (((a2, ()), ()), ())) else (l0 a0 a1 (IntKind.wrap .i64 (a2 + 1)) a3 a4)) else none) else (some (((-1, ()), ()), ()))
def slices_IndexFunc_impl_Inst_impl_Inst.all : Nat → ((List tInstD) → Int → Int → Int → Int → Option slices_IndexFunc_impl_Inst_impl_Inst.R) × Unit
  | 0 => (fun _ _ _ _ _ => none, ())
  | k + 1 => (slices_IndexFunc_impl_Inst_impl_Inst.l0_ k (slices_IndexFunc_impl_Inst_impl_Inst.all k).1, ())
def slices_IndexFunc_impl_Inst_impl_Inst.l0 (k : Nat) : (List tInstD) → Int → Int → Int → Int → Option slices_IndexFunc_impl_Inst_impl_Inst.R := (slices_IndexFunc_impl_Inst_impl_Inst.all k).1
def slices_IndexFunc_impl_Inst_impl_Inst.f (k : Nat) (a0 : List tInstD) (a1 : Int) (a2 : Int) : Option slices_IndexFunc_impl_Inst_impl_Inst.R := slices_IndexFunc_impl_Inst_impl_Inst.l0 k a0 ((List.length a0 : Nat) : Int) 0 a1 a2
def slices_IndexFunc_impl_Inst_impl_Inst.s (k : Nat) : FS := ⟨[⟨false, [.lst tInst]⟩, ⟨false, [.fn 99 [(0, 0), (1, 0)]]⟩], [(0, .cbox [.int .i64]), (1, .cbox [.int .i64])], false, [⟨false, [.int .i64]⟩], [], [], fun x => slices_IndexFunc_impl_Inst_impl_Inst.f k x.1.1.1 x.2.1.1 x.2.2.1.1⟩
def slices_IndexFunc_impl_Inst_impl_Inst.E (k : Nat) : Ents := [(⟨99, []⟩, impl_isFunc_3.s k)]
def slices_IndexFunc_impl_Inst_impl_Inst.L0 (l : (List tInstD) → Int → Int → Int → Int → Option slices_IndexFunc_impl_Inst_impl_Inst.R) : LS slices_IndexFunc_impl_Inst_impl_Inst.R := ⟨[], [(0, ⟨false, [.lst tInst]⟩), (1, ⟨false, [.fn 99 [(0, 0), (1, 0)]]⟩), (7, ⟨false, [.int .i64]⟩), (8, ⟨false, [.int .i64]⟩)], [(0, .cbox [.int .i64]), (1, .cbox [.int .i64])], fun x => l x.1.1.1 x.1.2.2.1.1 x.1.2.2.2.1.1 x.2.1.1 x.2.2.1.1⟩
def slices_IndexFunc_impl_Inst_impl_Inst.L (l0 : (List tInstD) → Int → Int → Int → Int → Option slices_IndexFunc_impl_Inst_impl_Inst.R) : List (LS slices_IndexFunc_impl_Inst_impl_Inst.R) := [slices_IndexFunc_impl_Inst_impl_Inst.L0 l0]
def slices_IndexFunc_impl_Inst_impl_Inst.c : Code := Try.f141.body.getD .skip
theorem slices_IndexFunc_impl_Inst_impl_Inst.eq (k : Nat) (x) : (slices_IndexFunc_impl_Inst_impl_Inst.s k).pf x = execF tab (slices_IndexFunc_impl_Inst_impl_Inst.E k) Try.f141 slices_IndexFunc_impl_Inst_impl_Inst.c (slices_IndexFunc_impl_Inst_impl_Inst.s k) (slices_IndexFunc_impl_Inst_impl_Inst.L (slices_IndexFunc_impl_Inst_impl_Inst.l0 k)) x := by kernel_rfl
theorem slices_IndexFunc_impl_Inst_impl_Inst.r0 (l0 : (List tInstD) → Int → Int → Int → Int → Option slices_IndexFunc_impl_Inst_impl_Inst.R) (k : Nat) (x) : slices_IndexFunc_impl_Inst_impl_Inst.l0_ k l0 x.1.1.1 x.1.2.2.1.1 x.1.2.2.2.1.1 x.2.1.1 x.2.2.1.1 = roundOf tab (slices_IndexFunc_impl_Inst_impl_Inst.E k) (slices_IndexFunc_impl_Inst_impl_Inst.L l0) slices_IndexFunc_impl_Inst_impl_Inst.c (fin tab Try.f141 (slices_IndexFunc_impl_Inst_impl_Inst.s k)) 0 (slices_IndexFunc_impl_Inst_impl_Inst.L0 l0) x := by kernel_rfl
theorem slices_IndexFunc_impl_Inst_impl_Inst.sound : ∀ k, Sound Try.prog 141 (slices_IndexFunc_impl_Inst_impl_Inst.s k) := sound_of mixed tab_ok (f := 141) (fn := Try.f141) (c := slices_IndexFunc_impl_Inst_impl_Inst.c) (by kernel_rfl) (by kernel_rfl) (by kernel_rfl) ⟨[⟨false, [.lst tInst]⟩, ⟨false, [.fn 99 [(0, 0), (1, 0)]]⟩], [(0, .cbox [.int .i64]), (1, .cbox [.int .i64])], false, [⟨false, [.int .i64]⟩], [], []⟩ (by kernel_rfl) (by kernel_rfl) (fun k => (slices_IndexFunc_impl_Inst_impl_Inst.s k).pf) slices_IndexFunc_impl_Inst_impl_Inst.E (fun k => (EntsOK.cons (impl_isFunc_3.sound k) EntsOK.nil)) (fun k => slices_IndexFunc_impl_Inst_impl_Inst.L (slices_IndexFunc_impl_Inst_impl_Inst.l0 k)) (fun k => ⟨rfl, trivial⟩) ⟨fun _ => rfl, trivial⟩ (fun k => ⟨⟨(slices_IndexFunc_impl_Inst_impl_Inst.L0 (slices_IndexFunc_impl_Inst_impl_Inst.l0 (k + 1))).l, rfl, fun x => slices_IndexFunc_impl_Inst_impl_Inst.r0 (slices_IndexFunc_impl_Inst_impl_Inst.l0 k) k x⟩, trivial⟩) slices_IndexFunc_impl_Inst_impl_Inst.eq
end
end Go.Proofs.Ytkfehogikjcgkaa.V
namespace Go.Proofs.Ytkfehogikjcgkaa.V
open Go
set_option linter.unusedVariables false
noncomputable section
/-! ### slices.ContainsFunc[[]impl.Inst,impl.Inst]: function 98 -/
abbrev slices_ContainsFunc_impl_Inst_impl_Inst.R := (((Bool × Unit) × Unit) × Unit)
def slices_ContainsFunc_impl_Inst_impl_Inst.f (k : Nat) (a0 : List tInstD) (a1 : Int) (a2 : Int) : Option slices_ContainsFunc_impl_Inst_impl_Inst.R := Option.bind (slices_IndexFunc_impl_Inst_impl_Inst.f k a0 a1 a2) fun r1 => some (((decide (0 ≤ r1.1.1.1), ()), ()), ())
def slices_ContainsFunc_impl_Inst_impl_Inst.s (k : Nat) : FS := ⟨[⟨false, [.lst tInst]⟩, ⟨false, [.fn 99 [(0, 0), (1, 0)]]⟩], [(0, .cbox [.int .i64]), (1, .cbox [.int .i64])], false, [⟨false, [.bool]⟩], [], [], fun x => slices_ContainsFunc_impl_Inst_impl_Inst.f k x.1.1.1 x.2.1.1 x.2.2.1.1⟩
def slices_ContainsFunc_impl_Inst_impl_Inst.E (k : Nat) : Ents := [(⟨141, [99]⟩, slices_IndexFunc_impl_Inst_impl_Inst.s k)]
def slices_ContainsFunc_impl_Inst_impl_Inst.L : List (LS slices_ContainsFunc_impl_Inst_impl_Inst.R) := []
def slices_ContainsFunc_impl_Inst_impl_Inst.c : Code := Try.f98.body.getD .skip
theorem slices_ContainsFunc_impl_Inst_impl_Inst.eq (k : Nat) (x) : (slices_ContainsFunc_impl_Inst_impl_Inst.s k).pf x = execF tab (slices_ContainsFunc_impl_Inst_impl_Inst.E k) Try.f98 slices_ContainsFunc_impl_Inst_impl_Inst.c (slices_ContainsFunc_impl_Inst_impl_Inst.s k) slices_ContainsFunc_impl_Inst_impl_Inst.L x := by kernel_rfl
theorem slices_ContainsFunc_impl_Inst_impl_Inst.sound : ∀ k, Sound Try.prog 98 (slices_ContainsFunc_impl_Inst_impl_Inst.s k) := sound_of mixed tab_ok (f := 98) (fn := Try.f98) (c := slices_ContainsFunc_impl_Inst_impl_Inst.c) (by kernel_rfl) (by kernel_rfl) (by kernel_rfl) ⟨[⟨false, [.lst tInst]⟩, ⟨false, [.fn 99 [(0, 0), (1, 0)]]⟩], [(0, .cbox [.int .i64]), (1, .cbox [.int .i64])], false, [⟨false, [.bool]⟩], [], []⟩ (by kernel_rfl) (by kernel_rfl) (fun k => (slices_ContainsFunc_impl_Inst_impl_Inst.s k).pf) slices_ContainsFunc_impl_Inst_impl_Inst.E (fun k => (EntsOK.cons (slices_IndexFunc_impl_Inst_impl_Inst.sound k) EntsOK.nil)) (fun k => slices_ContainsFunc_impl_Inst_impl_Inst.L) (fun k => trivial) trivial (fun k => trivial) slices_ContainsFunc_impl_Inst_impl_Inst.eq
end
end Go.Proofs.Ytkfehogikjcgkaa.V
namespace Go.Proofs.Ytkfehogikjcgkaa.V
open Go
set_option linter.unusedVariables false
noncomputable section
/-! ### impl.isTerm$1: function 147 -/
abbrev impl_isTerm_1.R := (((Bool × Unit) × Unit) × Unit)
def impl_isTerm_1.f (k : Nat) (a0 : Int) (a1 : tFuncD) : Option impl_isTerm_1.R := Option.bind (impl_within.f k a0 0 (IntKind.wrap .i64 (((List.length a1.2.2.1 : Nat) : Int) - 1))) fun r1 => some (((r1.1.1.1, ()), ()), ())
def impl_isTerm_1.s (k : Nat) : FS := ⟨[⟨false, [.int .i64]⟩, ⟨false, [.ptr 0 0]⟩], [(0, .cbox [.lst (.int .i64), .int .i64, .lst tBlock])], false, [⟨false, [.bool]⟩], [], [], fun x => impl_isTerm_1.f k x.1.1.1 x.2.1⟩
def impl_isTerm_1.E (k : Nat) : Ents := [(⟨55, []⟩, impl_within.s k)]
def impl_isTerm_1.L : List (LS impl_isTerm_1.R) := []
def impl_isTerm_1.c : Code := Try.f147.body.getD .skip
theorem impl_isTerm_1.eq (k : Nat) (x) : (impl_isTerm_1.s k).pf x = execF tab (impl_isTerm_1.E k) Try.f147 impl_isTerm_1.c (impl_isTerm_1.s k) impl_isTerm_1.L x := by kernel_rfl
theorem impl_isTerm_1.sound : ∀ k, Sound Try.prog 147 (impl_isTerm_1.s k) := sound_of mixed tab_ok (f := 147) (fn := Try.f147) (c := impl_isTerm_1.c) (by kernel_rfl) (by kernel_rfl) (by kernel_rfl) ⟨[⟨false, [.int .i64]⟩, ⟨false, [.ptr 0 0]⟩], [(0, .cbox [.lst (.int .i64), .int .i64, .lst tBlock])], false, [⟨false, [.bool]⟩], [], []⟩ (by kernel_rfl) (by kernel_rfl) (fun k => (impl_isTerm_1.s k).pf) impl_isTerm_1.E (fun k => (EntsOK.cons (impl_within.sound k) EntsOK.nil)) (fun k => impl_isTerm_1.L) (fun k => trivial) trivial (fun k => trivial) impl_isTerm_1.eq
end
end Go.Proofs.Ytkfehogikjcgkaa.V
namespace Go.Proofs.Ytkfehogikjcgkaa.V
open Go
set_option linter.unusedVariables false
noncomputable section
/-! ### impl.isTerm: function 101 -/
abbrev impl_isTerm.R := (((Bool × Unit) × Unit) × Unit)
def impl_isTerm.f (k : Nat) (a0 : tFuncD) (a1 : tTermD) (a2 : Int) : Option impl_isTerm.R := bif decide (a1.1 = 1) then (Option.bind (impl_within.f k a1.2.1 0 (IntKind.wrap .i64 (a2 - 1))) fun r1 => bif r1.1.1.1 then (bif decide (a1.2.2.1 = 0) then (some (((decide (a1.2.2.2.1 = 0), ()), ()), ())) else (some (((false, ()), ()), ()))) else (some (((false, ()), ()), ()))) else (bif decide (a1.1 = 2) then (bif decide (a1.2.1 = 0) then (Option.bind (impl_isTerm_1.f k a1.2.2.1 a0) fun r2 => bif r2.1.1.1 then (some (((decide (a1.2.2.2.1 = 0), ()), ()), ())) else (some (((false, ()), ()), ()))) else (some (((false, ()), ()), ()))) else (bif decide (a1.1 = 3) then (Option.bind (impl_within.f k a1.2.1 0 (IntKind.wrap .i64 (a2 - 1))) fun r3 => bif r3.1.1.1 then (Option.bind (impl_isTerm_1.f k a1.2.2.1 a0) fun r4 => bif r4.1.1.1 then (Option.bind (impl_isTerm_1.f k a1.2.2.2.1 a0) fun r5 => bif r5.1.1.1 then (some (((!decide (a1.2.2.1 = a1.2.2.2.1), ()), ()), ())) else (some (((false, ()), ()), ()))) else (some (((false, ()), ()), ()))) else (some (((false, ()), ()), ()))) else (bif decide (a1.1 = 4) then (bif decide (a1.2.1 = 0) then (bif decide (a1.2.2.1 = 0) then (some (((decide (a1.2.2.2.1 = 0), ()), ()), ())) else (some (((false, ()), ()), ()))) else (some (((false, ()), ()), ()))) else (some (((false, ()), ()), ())))))
def impl_isTerm.s (k : Nat) : FS := ⟨[⟨true, [.lst (.int .i64), .int .i64, .lst tBlock]⟩, ⟨true, [.int .i64, .int .i64, .int .i64, .int .i64]⟩, ⟨false, [.int .i64]⟩], [], false, [⟨false, [.bool]⟩], [], [], fun x => impl_isTerm.f k x.1.1 x.1.2.1 x.1.2.2.1.1⟩
def impl_isTerm.E (k : Nat) : Ents := [(⟨55, []⟩, impl_within.s k), (⟨147, []⟩, impl_isTerm_1.s k)]
def impl_isTerm.L : List (LS impl_isTerm.R) := []
def impl_isTerm.c : Code := Try.f101.body.getD .skip
theorem impl_isTerm.eq (k : Nat) (x) : (impl_isTerm.s k).pf x = execF tab (impl_isTerm.E k) Try.f101 impl_isTerm.c (impl_isTerm.s k) impl_isTerm.L x := by kernel_rfl
theorem impl_isTerm.sound : ∀ k, Sound Try.prog 101 (impl_isTerm.s k) := sound_of mixed tab_ok (f := 101) (fn := Try.f101) (c := impl_isTerm.c) (by kernel_rfl) (by kernel_rfl) (by kernel_rfl) ⟨[⟨true, [.lst (.int .i64), .int .i64, .lst tBlock]⟩, ⟨true, [.int .i64, .int .i64, .int .i64, .int .i64]⟩, ⟨false, [.int .i64]⟩], [], false, [⟨false, [.bool]⟩], [], []⟩ (by kernel_rfl) (by kernel_rfl) (fun k => (impl_isTerm.s k).pf) impl_isTerm.E (fun k => (EntsOK.cons (impl_within.sound k) (EntsOK.cons (impl_isTerm_1.sound k) EntsOK.nil))) (fun k => impl_isTerm.L) (fun k => trivial) trivial (fun k => trivial) impl_isTerm.eq
end
end Go.Proofs.Ytkfehogikjcgkaa.V
namespace Go.Proofs.Ytkfehogikjcgkaa.V
open Go
set_option linter.unusedVariables false
noncomputable section
/-! ### impl.isFunc: function 58 -/
abbrev impl_isFunc.R := (((Bool × Unit) × Unit) × Unit)
def impl_isFunc.l0_ (k : Nat) (l0 : (List tBlockD) → Int → Int → tFuncD → Int → Int → Option impl_isFunc.R) (a0 : List tBlockD) (a1 : Int) (a2 : Int) (a3 : tFuncD) (a4 : Int) (a5 : Int) : Option impl_isFunc.R := bif decide (a2 < a1) then (bif (decide (0 ≤ a2)) && (decide (a2 < ((List.length a0 : Nat) : Int))) then (Option.bind (slices_ContainsFunc_impl_Phi_impl_Phi.f k ((List.getD a0 (Int.toNat a2) tBlockZ).1) a5) fun r1 => bif r1.1.1.1 then (some (((false, ()), ()), ())) else (Option.bind (slices_ContainsFunc_impl_Inst_impl_Inst.f k ((List.getD a0 (Int.toNat a2) tBlockZ).2.1) a5 a4) fun r2 => bif r2.1.1.1 then (some (((false, ()), ()), ())) else (Option.bind (impl_isTerm.f k a3 ((List.getD a0 (Int.toNat a2) tBlockZ).2.2) a5) fun r3 => bif !r3.1.1.1 then (some (((false, ()), ()), ())) else (l0 a0 a1 (IntKind.wrap .i64 (a2 + 1)) a3 a4 a5)))) else none) else (some (((true, ()), ()), ()))
def impl_isFunc.all : Nat → ((List tBlockD) → Int → Int → tFuncD → Int → Int → Option impl_isFunc.R) × Unit
  | 0 => (fun _ _ _ _ _ _ => none, ())
  | k + 1 => (impl_isFunc.l0_ k (impl_isFunc.all k).1, ())
def impl_isFunc.l0 (k : Nat) : (List tBlockD) → Int → Int → tFuncD → Int → Int → Option impl_isFunc.R := (impl_isFunc.all k).1
def impl_isFunc.f (k : Nat) (a0 : tFuncD) (a1 : Int) : Option impl_isFunc.R := bif decide (4 < ((List.length a0.1 : Nat) : Int)) then (some (((false, ()), ()), ())) else (Option.bind (impl_WidthOk.f k a0.2.1) fun r1 => bif !r1.1.1.1 then (some (((false, ()), ()), ())) else (Option.bind (impl_within.f k ((List.length a0.2.2.1 : Nat) : Int) 1 10) fun r2 => bif !r2.1.1.1 then (some (((false, ()), ()), ())) else (Option.bind (slices_ContainsFunc_int64_int64.f k a0.1) fun r3 => bif r3.1.1.1 then (some (((false, ()), ()), ())) else (Option.bind (impl_CountOf.f k a0) fun r4 => bif decide (60 < r4.1.1.1) then (some (((false, ()), ()), ())) else (impl_isFunc.l0 k a0.2.2.1 ((List.length a0.2.2.1 : Nat) : Int) 0 a0 a1 r4.1.1.1)))))
def impl_isFunc.s (k : Nat) : FS := ⟨[⟨true, [.lst (.int .i64), .int .i64, .lst tBlock]⟩, ⟨false, [.int .i64]⟩], [], false, [⟨false, [.bool]⟩], [], [], fun x => impl_isFunc.f k x.1.1 x.1.2.1.1⟩
def impl_isFunc.E (k : Nat) : Ents := [(⟨93, []⟩, impl_WidthOk.s k), (⟨55, []⟩, impl_within.s k), (⟨69, [94]⟩, slices_ContainsFunc_int64_int64.s k), (⟨68, []⟩, impl_CountOf.s k), (⟨95, [96]⟩, slices_ContainsFunc_impl_Phi_impl_Phi.s k), (⟨98, [99]⟩, slices_ContainsFunc_impl_Inst_impl_Inst.s k), (⟨101, []⟩, impl_isTerm.s k)]
def impl_isFunc.L0 (l : (List tBlockD) → Int → Int → tFuncD → Int → Int → Option impl_isFunc.R) : LS impl_isFunc.R := ⟨[], [(2, ⟨false, [.ptr 100000 0]⟩), (3, ⟨false, [.ptr 100001 0]⟩), (5, ⟨false, [.ptr 100002 0]⟩), (35, ⟨false, [.lst tBlock]⟩), (36, ⟨false, [.int .i64]⟩), (37, ⟨false, [.int .i64]⟩)], [(100000, .box [.lst (.int .i64), .int .i64, .lst tBlock]), (100001, .box [.int .i64]), (100002, .box [.int .i64])], fun x => l x.1.2.2.2.1.1 x.1.2.2.2.2.1.1 x.1.2.2.2.2.2.1.1 x.2.1 x.2.2.1.1 x.2.2.2.1.1⟩
def impl_isFunc.L (l0 : (List tBlockD) → Int → Int → tFuncD → Int → Int → Option impl_isFunc.R) : List (LS impl_isFunc.R) := [impl_isFunc.L0 l0]
def impl_isFunc.c : Code := Try.f58.body.getD .skip
theorem impl_isFunc.eq (k : Nat) (x) : (impl_isFunc.s k).pf x = execF tab (impl_isFunc.E k) Try.f58 impl_isFunc.c (impl_isFunc.s k) (impl_isFunc.L (impl_isFunc.l0 k)) x := by kernel_rfl
theorem impl_isFunc.r0 (l0 : (List tBlockD) → Int → Int → tFuncD → Int → Int → Option impl_isFunc.R) (k : Nat) (x) : impl_isFunc.l0_ k l0 x.1.2.2.2.1.1 x.1.2.2.2.2.1.1 x.1.2.2.2.2.2.1.1 x.2.1 x.2.2.1.1 x.2.2.2.1.1 = roundOf tab (impl_isFunc.E k) (impl_isFunc.L l0) impl_isFunc.c (fin tab Try.f58 (impl_isFunc.s k)) 0 (impl_isFunc.L0 l0) x := by kernel_rfl
theorem impl_isFunc.sound : ∀ k, Sound Try.prog 58 (impl_isFunc.s k) := sound_of mixed tab_ok (f := 58) (fn := Try.f58) (c := impl_isFunc.c) (by kernel_rfl) (by kernel_rfl) (by kernel_rfl) ⟨[⟨true, [.lst (.int .i64), .int .i64, .lst tBlock]⟩, ⟨false, [.int .i64]⟩], [], false, [⟨false, [.bool]⟩], [], []⟩ (by kernel_rfl) (by kernel_rfl) (fun k => (impl_isFunc.s k).pf) impl_isFunc.E (fun k => (EntsOK.cons (impl_WidthOk.sound k) (EntsOK.cons (impl_within.sound k) (EntsOK.cons (slices_ContainsFunc_int64_int64.sound k) (EntsOK.cons (impl_CountOf.sound k) (EntsOK.cons (slices_ContainsFunc_impl_Phi_impl_Phi.sound k) (EntsOK.cons (slices_ContainsFunc_impl_Inst_impl_Inst.sound k) (EntsOK.cons (impl_isTerm.sound k) EntsOK.nil)))))))) (fun k => impl_isFunc.L (impl_isFunc.l0 k)) (fun k => ⟨rfl, trivial⟩) ⟨fun _ => rfl, trivial⟩ (fun k => ⟨⟨(impl_isFunc.L0 (impl_isFunc.l0 (k + 1))).l, rfl, fun x => impl_isFunc.r0 (impl_isFunc.l0 k) k x⟩, trivial⟩) impl_isFunc.eq
end
end Go.Proofs.Ytkfehogikjcgkaa.V
namespace Go.Proofs.Ytkfehogikjcgkaa.V
open Go
set_option linter.unusedVariables false
noncomputable section
/-! ### impl.isFormed: function 64 -/
abbrev impl_isFormed.R := (((Bool × Unit) × Unit) × Unit)
def impl_isFormed.f (k : Nat) (a0 : tFuncD) : Option impl_isFormed.R := Option.bind (impl_isFunc.f k a0 3) fun r1 => some (((r1.1.1.1, ()), ()), ())
def impl_isFormed.s (k : Nat) : FS := ⟨[⟨true, [.lst (.int .i64), .int .i64, .lst tBlock]⟩], [], false, [⟨false, [.bool]⟩], [], [], fun x => impl_isFormed.f k x.1.1⟩
def impl_isFormed.E (k : Nat) : Ents := [(⟨58, []⟩, impl_isFunc.s k)]
def impl_isFormed.L : List (LS impl_isFormed.R) := []
def impl_isFormed.c : Code := Try.f64.body.getD .skip
theorem impl_isFormed.eq (k : Nat) (x) : (impl_isFormed.s k).pf x = execF tab (impl_isFormed.E k) Try.f64 impl_isFormed.c (impl_isFormed.s k) impl_isFormed.L x := by kernel_rfl
theorem impl_isFormed.sound : ∀ k, Sound Try.prog 64 (impl_isFormed.s k) := sound_of mixed tab_ok (f := 64) (fn := Try.f64) (c := impl_isFormed.c) (by kernel_rfl) (by kernel_rfl) (by kernel_rfl) ⟨[⟨true, [.lst (.int .i64), .int .i64, .lst tBlock]⟩], [], false, [⟨false, [.bool]⟩], [], []⟩ (by kernel_rfl) (by kernel_rfl) (fun k => (impl_isFormed.s k).pf) impl_isFormed.E (fun k => (EntsOK.cons (impl_isFunc.sound k) EntsOK.nil)) (fun k => impl_isFormed.L) (fun k => trivial) trivial (fun k => trivial) impl_isFormed.eq
end
end Go.Proofs.Ytkfehogikjcgkaa.V
namespace Go.Proofs.Ytkfehogikjcgkaa.V
open Go
set_option linter.unusedVariables false
noncomputable section
/-! ### impl.isId: function 71 -/
abbrev impl_isId.R := (((Bool × Unit) × Unit) × Unit)
def impl_isId.f (k : Nat) (a0 : tFuncD) (a1 : Int) : Option impl_isId.R := Option.bind (impl_CountOf.f k a0) fun r1 => Option.bind (impl_within.f k a1 0 (IntKind.wrap .i64 (r1.1.1.1 - 1))) fun r2 => some (((r2.1.1.1, ()), ()), ())
def impl_isId.s (k : Nat) : FS := ⟨[⟨true, [.lst (.int .i64), .int .i64, .lst tBlock]⟩, ⟨false, [.int .i64]⟩], [], false, [⟨false, [.bool]⟩], [], [], fun x => impl_isId.f k x.1.1 x.1.2.1.1⟩
def impl_isId.E (k : Nat) : Ents := [(⟨68, []⟩, impl_CountOf.s k), (⟨55, []⟩, impl_within.s k)]
def impl_isId.L : List (LS impl_isId.R) := []
def impl_isId.c : Code := Try.f71.body.getD .skip
theorem impl_isId.eq (k : Nat) (x) : (impl_isId.s k).pf x = execF tab (impl_isId.E k) Try.f71 impl_isId.c (impl_isId.s k) impl_isId.L x := by kernel_rfl
theorem impl_isId.sound : ∀ k, Sound Try.prog 71 (impl_isId.s k) := sound_of mixed tab_ok (f := 71) (fn := Try.f71) (c := impl_isId.c) (by kernel_rfl) (by kernel_rfl) (by kernel_rfl) ⟨[⟨true, [.lst (.int .i64), .int .i64, .lst tBlock]⟩, ⟨false, [.int .i64]⟩], [], false, [⟨false, [.bool]⟩], [], []⟩ (by kernel_rfl) (by kernel_rfl) (fun k => (impl_isId.s k).pf) impl_isId.E (fun k => (EntsOK.cons (impl_CountOf.sound k) (EntsOK.cons (impl_within.sound k) EntsOK.nil))) (fun k => impl_isId.L) (fun k => trivial) trivial (fun k => trivial) impl_isId.eq
end
end Go.Proofs.Ytkfehogikjcgkaa.V
namespace Go.Proofs.Ytkfehogikjcgkaa.V
open Go
set_option linter.unusedVariables false
noncomputable section
/-! ### impl.PlaceOf: function 155 -/
abbrev impl_PlaceOf.R := (((Int × Unit) × (Int × Unit) × Unit) × Unit)
def impl_PlaceOf.l0_ (k : Nat) (l0 : Int → Int → (List tBlockD) → Int → Int → Option impl_PlaceOf.R) (a0 : Int) (a1 : Int) (a2 : List tBlockD) (a3 : Int) (a4 : Int) : Option impl_PlaceOf.R := bif decide (a4 < a3) then (bif (decide (0 ≤ a4)) && (decide (a4 < ((List.length a2 : Nat) : Int))) then (bif decide (a0 < IntKind.wrap .i64 (a1 + (IntKind.wrap .i64 (((List.length ((List.getD a2 (Int.toNat a4) tBlockZ).1) : Nat) : Int) + ((List.length ((List.getD a2 (Int.toNat a4) tBlockZ).2.1) : Nat) : Int))))) then (some (((a4, ()), (IntKind.wrap .i64 (a0 - a1), ()), ()), ())) else (l0 a0 (IntKind.wrap .i64 (a1 + (IntKind.wrap .i64 (((List.length ((List.getD a2 (Int.toNat a4) tBlockZ).1) : Nat) : Int) + ((List.length ((List.getD a2 (Int.toNat a4) tBlockZ).2.1) : Nat) : Int))))) a2 a3 (IntKind.wrap .i64 (a4 + 1)))) else none) else (some (((-2, ()), (0, ()), ()), ()))
def impl_PlaceOf.all : Nat → (Int → Int → (List tBlockD) → Int → Int → Option impl_PlaceOf.R) × Unit
  | 0 => (fun _ _ _ _ _ => none, ())
  | k + 1 => (impl_PlaceOf.l0_ k (impl_PlaceOf.all k).1, ())
def impl_PlaceOf.l0 (k : Nat) : Int → Int → (List tBlockD) → Int → Int → Option impl_PlaceOf.R := (impl_PlaceOf.all k).1
def impl_PlaceOf.f (k : Nat) (a0 : tFuncD) (a1 : Int) : Option impl_PlaceOf.R := Option.bind (impl_isId.f k a0 a1) fun r1 => bif !r1.1.1.1 then (some (((-2, ()), (0, ()), ()), ())) else (bif decide (a1 < ((List.length a0.1 : Nat) : Int)) then (some (((-1, ()), (a1, ()), ()), ())) else (impl_PlaceOf.l0 k a1 ((List.length a0.1 : Nat) : Int) a0.2.2.1 ((List.length a0.2.2.1 : Nat) : Int) 0))
def impl_PlaceOf.s (k : Nat) : FS := ⟨[⟨true, [.lst (.int .i64), .int .i64, .lst tBlock]⟩, ⟨false, [.int .i64]⟩], [], true, [⟨false, [.int .i64]⟩, ⟨false, [.int .i64]⟩], [], [], fun x => impl_PlaceOf.f k x.1.1 x.1.2.1.1⟩
def impl_PlaceOf.E (k : Nat) : Ents := [(⟨71, []⟩, impl_isId.s k)]
def impl_PlaceOf.L0 (l : Int → Int → (List tBlockD) → Int → Int → Option impl_PlaceOf.R) : LS impl_PlaceOf.R := ⟨[], [(1, ⟨false, [.int .i64]⟩), (6, ⟨false, [.int .i64]⟩), (22, ⟨false, [.lst tBlock]⟩), (23, ⟨false, [.int .i64]⟩), (24, ⟨false, [.int .i64]⟩)], [], fun x => l x.1.1.1 x.1.2.1.1 x.1.2.2.1.1 x.1.2.2.2.1.1 x.1.2.2.2.2.1.1⟩
def impl_PlaceOf.L (l0 : Int → Int → (List tBlockD) → Int → Int → Option impl_PlaceOf.R) : List (LS impl_PlaceOf.R) := [impl_PlaceOf.L0 l0]
def impl_PlaceOf.c : Code := Try.f155.body.getD .skip
theorem impl_PlaceOf.eq (k : Nat) (x) : (impl_PlaceOf.s k).pf x = execF tab (impl_PlaceOf.E k) Try.f155 impl_PlaceOf.c (impl_PlaceOf.s k) (impl_PlaceOf.L (impl_PlaceOf.l0 k)) x := by kernel_rfl
theorem impl_PlaceOf.r0 (l0 : Int → Int → (List tBlockD) → Int → Int → Option impl_PlaceOf.R) (k : Nat) (x) : impl_PlaceOf.l0_ k l0 x.1.1.1 x.1.2.1.1 x.1.2.2.1.1 x.1.2.2.2.1.1 x.1.2.2.2.2.1.1 = roundOf tab (impl_PlaceOf.E k) (impl_PlaceOf.L l0) impl_PlaceOf.c (fin tab Try.f155 (impl_PlaceOf.s k)) 0 (impl_PlaceOf.L0 l0) x := by kernel_rfl
theorem impl_PlaceOf.sound : ∀ k, Sound Try.prog 155 (impl_PlaceOf.s k) := sound_of mixed tab_ok (f := 155) (fn := Try.f155) (c := impl_PlaceOf.c) (by kernel_rfl) (by kernel_rfl) (by kernel_rfl) ⟨[⟨true, [.lst (.int .i64), .int .i64, .lst tBlock]⟩, ⟨false, [.int .i64]⟩], [], true, [⟨false, [.int .i64]⟩, ⟨false, [.int .i64]⟩], [], []⟩ (by kernel_rfl) (by kernel_rfl) (fun k => (impl_PlaceOf.s k).pf) impl_PlaceOf.E (fun k => (EntsOK.cons (impl_isId.sound k) EntsOK.nil)) (fun k => impl_PlaceOf.L (impl_PlaceOf.l0 k)) (fun k => ⟨rfl, trivial⟩) ⟨fun _ => rfl, trivial⟩ (fun k => ⟨⟨(impl_PlaceOf.L0 (impl_PlaceOf.l0 (k + 1))).l, rfl, fun x => impl_PlaceOf.r0 (impl_PlaceOf.l0 k) k x⟩, trivial⟩) impl_PlaceOf.eq
end
end Go.Proofs.Ytkfehogikjcgkaa.V
namespace Go.Proofs.Ytkfehogikjcgkaa.V
open Go
set_option linter.unusedVariables false
noncomputable section
/-! ### impl.instOf: function 116 -/
abbrev impl_instOf.R := (((Int × Int × Int × Int × Int × Int × (List Int) × Unit) × (Bool × Unit) × Unit) × Unit)
def impl_instOf.f (k : Nat) (a0 : tFuncD) (a1 : Int) : Option impl_instOf.R := Option.bind (impl_PlaceOf.f k a0 a1) fun r1 => bif decide (r1.1.1.1 < 0) then (some (((0, 0, 0, 0, 0, 0, ([] : List Int), ()), (false, ()), ()), ())) else (bif (decide (0 ≤ r1.1.1.1)) && (decide (r1.1.1.1 < ((List.length a0.2.2.1 : Nat) : Int))) then (bif decide (r1.1.2.1.1 < ((List.length ((List.getD a0.2.2.1 (Int.toNat r1.1.1.1) tBlockZ).1) : Nat) : Int)) then (some (((0, 0, 0, 0, 0, 0, ([] : List Int), ()), (false, ()), ()), ())) else (bif (decide (0 ≤ r1.1.1.1)) && (decide (r1.1.1.1 < ((List.length a0.2.2.1 : Nat) : Int))) then (bif (decide (0 ≤ r1.1.1.1)) && (decide (r1.1.1.1 < ((List.length a0.2.2.1 : Nat) : Int))) then (bif (decide (0 ≤ IntKind.wrap .i64 (r1.1.2.1.1 - ((List.length ((List.getD a0.2.2.1 (Int.toNat r1.1.1.1) tBlockZ).1) : Nat) : Int)))) && (decide (IntKind.wrap .i64 (r1.1.2.1.1 - ((List.length ((List.getD a0.2.2.1 (Int.toNat r1.1.1.1) tBlockZ).1) : Nat) : Int)) < ((List.length ((List.getD a0.2.2.1 (Int.toNat r1.1.1.1) tBlockZ).2.1) : Nat) : Int))) then (some (((List.getD ((List.getD a0.2.2.1 (Int.toNat r1.1.1.1) tBlockZ).2.1) (Int.toNat (IntKind.wrap .i64 (r1.1.2.1.1 - ((List.length ((List.getD a0.2.2.1 (Int.toNat r1.1.1.1) tBlockZ).1) : Nat) : Int)))) tInstZ), (true, ()), ()), ())) else none) else none) else none)) else none)
def impl_instOf.s (k : Nat) : FS := ⟨[⟨true, [.lst (.int .i64), .int .i64, .lst tBlock]⟩, ⟨false, [.int .i64]⟩], [], true, [⟨true, [.int .i64, .int .i64, .int .i64, .int .i64, .int .i64, .int .i64, .lst (.int .i64)]⟩, ⟨false, [.bool]⟩], [], [], fun x => impl_instOf.f k x.1.1 x.1.2.1.1⟩
def impl_instOf.E (k : Nat) : Ents := [(⟨155, []⟩, impl_PlaceOf.s k)]
def impl_instOf.L : List (LS impl_instOf.R) := []
def impl_instOf.c : Code := Try.f116.body.getD .skip
theorem impl_instOf.eq (k : Nat) (x) : (impl_instOf.s k).pf x = execF tab (impl_instOf.E k) Try.f116 impl_instOf.c (impl_instOf.s k) impl_instOf.L x := by kernel_rfl
theorem impl_instOf.sound : ∀ k, Sound Try.prog 116 (impl_instOf.s k) := sound_of mixed tab_ok (f := 116) (fn := Try.f116) (c := impl_instOf.c) (by kernel_rfl) (by kernel_rfl) (by kernel_rfl) ⟨[⟨true, [.lst (.int .i64), .int .i64, .lst tBlock]⟩, ⟨false, [.int .i64]⟩], [], true, [⟨true, [.int .i64, .int .i64, .int .i64, .int .i64, .int .i64, .int .i64, .lst (.int .i64)]⟩, ⟨false, [.bool]⟩], [], []⟩ (by kernel_rfl) (by kernel_rfl) (fun k => (impl_instOf.s k).pf) impl_instOf.E (fun k => (EntsOK.cons (impl_PlaceOf.sound k) EntsOK.nil)) (fun k => impl_instOf.L) (fun k => trivial) trivial (fun k => trivial) impl_instOf.eq
end
end Go.Proofs.Ytkfehogikjcgkaa.V
namespace Go.Proofs.Ytkfehogikjcgkaa.V
open Go
set_option linter.unusedVariables false
noncomputable section
/-! ### impl.isDivision: function 156 -/
abbrev impl_isDivision.R := (((Bool × Unit) × Unit) × Unit)
def impl_isDivision.f (k : Nat) (a0 : Int) : Option impl_isDivision.R := Option.bind (impl_within.f k a0 4 7) fun r1 => some (((r1.1.1.1, ()), ()), ())
def impl_isDivision.s (k : Nat) : FS := ⟨[⟨false, [.int .i64]⟩], [], false, [⟨false, [.bool]⟩], [], [], fun x => impl_isDivision.f k x.1.1.1⟩
def impl_isDivision.E (k : Nat) : Ents := [(⟨55, []⟩, impl_within.s k)]
def impl_isDivision.L : List (LS impl_isDivision.R) := []
def impl_isDivision.c : Code := Try.f156.body.getD .skip
theorem impl_isDivision.eq (k : Nat) (x) : (impl_isDivision.s k).pf x = execF tab (impl_isDivision.E k) Try.f156 impl_isDivision.c (impl_isDivision.s k) impl_isDivision.L x := by kernel_rfl
theorem impl_isDivision.sound : ∀ k, Sound Try.prog 156 (impl_isDivision.s k) := sound_of mixed tab_ok (f := 156) (fn := Try.f156) (c := impl_isDivision.c) (by kernel_rfl) (by kernel_rfl) (by kernel_rfl) ⟨[⟨false, [.int .i64]⟩], [], false, [⟨false, [.bool]⟩], [], []⟩ (by kernel_rfl) (by kernel_rfl) (fun k => (impl_isDivision.s k).pf) impl_isDivision.E (fun k => (EntsOK.cons (impl_within.sound k) EntsOK.nil)) (fun k => impl_isDivision.L) (fun k => trivial) trivial (fun k => trivial) impl_isDivision.eq
end
end Go.Proofs.Ytkfehogikjcgkaa.V
namespace Go.Proofs.Ytkfehogikjcgkaa.V
open Go
set_option linter.unusedVariables false
noncomputable section
/-! ### impl.ConstOf: function 157 -/
abbrev impl_ConstOf.R := (((Int × Unit) × (Bool × Unit) × Unit) × Unit)
def impl_ConstOf.f (k : Nat) (a0 : tFuncD) (a1 : Int) : Option impl_ConstOf.R := Option.bind (impl_instOf.f k a0 a1) fun r1 => bif !r1.1.2.1.1 then (some (((0, ()), (false, ()), ()), ())) else (bif !decide (r1.1.1.1 = 21) then (some (((0, ()), (false, ()), ()), ())) else (some (((r1.1.1.2.2.2.2.2.1, ()), (true, ()), ()), ())))
def impl_ConstOf.s (k : Nat) : FS := ⟨[⟨true, [.lst (.int .i64), .int .i64, .lst tBlock]⟩, ⟨false, [.int .i64]⟩], [], true, [⟨false, [.int .i64]⟩, ⟨false, [.bool]⟩], [], [], fun x => impl_ConstOf.f k x.1.1 x.1.2.1.1⟩
def impl_ConstOf.E (k : Nat) : Ents := [(⟨116, []⟩, impl_instOf.s k)]
def impl_ConstOf.L : List (LS impl_ConstOf.R) := []
def impl_ConstOf.c : Code := Try.f157.body.getD .skip
theorem impl_ConstOf.eq (k : Nat) (x) : (impl_ConstOf.s k).pf x = execF tab (impl_ConstOf.E k) Try.f157 impl_ConstOf.c (impl_ConstOf.s k) impl_ConstOf.L x := by kernel_rfl
theorem impl_ConstOf.sound : ∀ k, Sound Try.prog 157 (impl_ConstOf.s k) := sound_of mixed tab_ok (f := 157) (fn := Try.f157) (c := impl_ConstOf.c) (by kernel_rfl) (by kernel_rfl) (by kernel_rfl) ⟨[⟨true, [.lst (.int .i64), .int .i64, .lst tBlock]⟩, ⟨false, [.int .i64]⟩], [], true, [⟨false, [.int .i64]⟩, ⟨false, [.bool]⟩], [], []⟩ (by kernel_rfl) (by kernel_rfl) (fun k => (impl_ConstOf.s k).pf) impl_ConstOf.E (fun k => (EntsOK.cons (impl_instOf.sound k) EntsOK.nil)) (fun k => impl_ConstOf.L) (fun k => trivial) trivial (fun k => trivial) impl_ConstOf.eq
end
end Go.Proofs.Ytkfehogikjcgkaa.V
namespace Go.Proofs.Ytkfehogikjcgkaa.V
open Go
set_option linter.unusedVariables false
noncomputable section
/-! ### impl.isRoot: function 117 -/
abbrev impl_isRoot.R := (((Bool × Unit) × Unit) × Unit)
def impl_isRoot.f (k : Nat) (a0 : tFuncD) (a1 : tInstD) : Option impl_isRoot.R := Option.bind (impl_isDivision.f k a1.1) fun r1 => bif r1.1.1.1 then (Option.bind (impl_ConstOf.f k a0 a1.2.2.2.1) fun r2 => bif !r2.1.2.1.1 then (some (((true, ()), ()), ())) else (some (((decide (r2.1.1.1 = 0), ()), ()), ()))) else (Option.bind (impl_within.f k a1.1 23 26) fun r3 => some (((r3.1.1.1, ()), ()), ()))
def impl_isRoot.s (k : Nat) : FS := ⟨[⟨true, [.lst (.int .i64), .int .i64, .lst tBlock]⟩, ⟨true, [.int .i64, .int .i64, .int .i64, .int .i64, .int .i64, .int .i64, .lst (.int .i64)]⟩], [], false, [⟨false, [.bool]⟩], [], [], fun x => impl_isRoot.f k x.1.1 x.1.2.1⟩
def impl_isRoot.E (k : Nat) : Ents := [(⟨156, []⟩, impl_isDivision.s k), (⟨157, []⟩, impl_ConstOf.s k), (⟨55, []⟩, impl_within.s k)]
def impl_isRoot.L : List (LS impl_isRoot.R) := []
def impl_isRoot.c : Code := Try.f117.body.getD .skip
theorem impl_isRoot.eq (k : Nat) (x) : (impl_isRoot.s k).pf x = execF tab (impl_isRoot.E k) Try.f117 impl_isRoot.c (impl_isRoot.s k) impl_isRoot.L x := by kernel_rfl
theorem impl_isRoot.sound : ∀ k, Sound Try.prog 117 (impl_isRoot.s k) := sound_of mixed tab_ok (f := 117) (fn := Try.f117) (c := impl_isRoot.c) (by kernel_rfl) (by kernel_rfl) (by kernel_rfl) ⟨[⟨true, [.lst (.int .i64), .int .i64, .lst tBlock]⟩, ⟨true, [.int .i64, .int .i64, .int .i64, .int .i64, .int .i64, .int .i64, .lst (.int .i64)]⟩], [], false, [⟨false, [.bool]⟩], [], []⟩ (by kernel_rfl) (by kernel_rfl) (fun k => (impl_isRoot.s k).pf) impl_isRoot.E (fun k => (EntsOK.cons (impl_isDivision.sound k) (EntsOK.cons (impl_ConstOf.sound k) (EntsOK.cons (impl_within.sound k) EntsOK.nil)))) (fun k => impl_isRoot.L) (fun k => trivial) trivial (fun k => trivial) impl_isRoot.eq
end
end Go.Proofs.Ytkfehogikjcgkaa.V
namespace Go.Proofs.Ytkfehogikjcgkaa.V
open Go
set_option linter.unusedVariables false
noncomputable section
/-! ### impl.endNames: function 118 -/
abbrev impl_endNames.R := (((Unit × Unit) × Unit) × ((List Int) × Unit))
def impl_endNames.f (k : Nat) (a0 : tTermD) : Option impl_endNames.R := bif decide (a0.1 = 1) then (some ((((), ()), ()), ([a0.2.1], ()))) else (bif decide (a0.1 = 3) then (some ((((), ()), ()), ([a0.2.1], ()))) else (some ((((), ()), ()), (([] : List Int), ()))))
def impl_endNames.s (k : Nat) : FS := ⟨[⟨true, [.int .i64, .int .i64, .int .i64, .int .i64]⟩], [], false, [⟨false, [.own 100]⟩], [(100, .row true (.int .i64))], [], fun x => impl_endNames.f k x.1.1⟩
def impl_endNames.E (k : Nat) : Ents := []
def impl_endNames.L : List (LS impl_endNames.R) := []
def impl_endNames.c : Code := Try.f118.body.getD .skip
theorem impl_endNames.eq (k : Nat) (x) : (impl_endNames.s k).pf x = execF tab (impl_endNames.E k) Try.f118 impl_endNames.c (impl_endNames.s k) impl_endNames.L x := by kernel_rfl
theorem impl_endNames.sound : ∀ k, Sound Try.prog 118 (impl_endNames.s k) := sound_of mixed tab_ok (f := 118) (fn := Try.f118) (c := impl_endNames.c) (by kernel_rfl) (by kernel_rfl) (by kernel_rfl) ⟨[⟨true, [.int .i64, .int .i64, .int .i64, .int .i64]⟩], [], false, [⟨false, [.own 100]⟩], [(100, .row true (.int .i64))], []⟩ (by kernel_rfl) (by kernel_rfl) (fun k => (impl_endNames.s k).pf) impl_endNames.E (fun k => EntsOK.nil) (fun k => impl_endNames.L) (fun k => trivial) trivial (fun k => trivial) impl_endNames.eq
end
end Go.Proofs.Ytkfehogikjcgkaa.V
namespace Go.Proofs.Ytkfehogikjcgkaa.V
open Go
set_option linter.unusedVariables false
noncomputable section
/-! ### impl.namesOf: function 119 -/
abbrev impl_namesOf.R := ((((List Int) × Unit) × Unit) × Unit)
def impl_namesOf.f (k : Nat) (a0 : tFuncD) (a1 : Int) : Option impl_namesOf.R := Option.bind (impl_PlaceOf.f k a0 a1) fun r1 => bif decide (r1.1.1.1 < 0) then (some (((([] : List Int), ()), ()), ())) else (bif (decide (0 ≤ r1.1.1.1)) && (decide (r1.1.1.1 < ((List.length a0.2.2.1 : Nat) : Int))) then (bif decide (r1.1.2.1.1 < ((List.length ((List.getD a0.2.2.1 (Int.toNat r1.1.1.1) tBlockZ).1) : Nat) : Int)) then (bif (decide (0 ≤ r1.1.1.1)) && (decide (r1.1.1.1 < ((List.length a0.2.2.1 : Nat) : Int))) then (bif (decide (0 ≤ r1.1.2.1.1)) && (decide (r1.1.2.1.1 < ((List.length ((List.getD a0.2.2.1 (Int.toNat r1.1.1.1) tBlockZ).1) : Nat) : Int))) then (some ((((List.getD ((List.getD a0.2.2.1 (Int.toNat r1.1.1.1) tBlockZ).1) (Int.toNat r1.1.2.1.1) tPhiZ).2.1, ()), ()), ())) else none) else none) else (Option.bind (impl_instOf.f k a0 a1) fun r2 => Option.bind (impl_OperandsOf.f k r2.1.1) fun r3 => some (((r3.2.1, ()), ()), ()))) else none)
def impl_namesOf.s (k : Nat) : FS := ⟨[⟨true, [.lst (.int .i64), .int .i64, .lst tBlock]⟩, ⟨false, [.int .i64]⟩], [], false, [⟨false, [.lst (.int .i64)]⟩], [], [], fun x => impl_namesOf.f k x.1.1 x.1.2.1.1⟩
def impl_namesOf.E (k : Nat) : Ents := [(⟨155, []⟩, impl_PlaceOf.s k), (⟨116, []⟩, impl_instOf.s k), (⟨142, []⟩, impl_OperandsOf.s k)]
def impl_namesOf.L : List (LS impl_namesOf.R) := []
def impl_namesOf.c : Code := Try.f119.body.getD .skip
theorem impl_namesOf.eq (k : Nat) (x) : (impl_namesOf.s k).pf x = execF tab (impl_namesOf.E k) Try.f119 impl_namesOf.c (impl_namesOf.s k) impl_namesOf.L x := by kernel_rfl
theorem impl_namesOf.sound : ∀ k, Sound Try.prog 119 (impl_namesOf.s k) := sound_of mixed tab_ok (f := 119) (fn := Try.f119) (c := impl_namesOf.c) (by kernel_rfl) (by kernel_rfl) (by kernel_rfl) ⟨[⟨true, [.lst (.int .i64), .int .i64, .lst tBlock]⟩, ⟨false, [.int .i64]⟩], [], false, [⟨false, [.lst (.int .i64)]⟩], [], []⟩ (by kernel_rfl) (by kernel_rfl) (fun k => (impl_namesOf.s k).pf) impl_namesOf.E (fun k => (EntsOK.cons (impl_PlaceOf.sound k) (EntsOK.cons (impl_instOf.sound k) (EntsOK.cons (impl_OperandsOf.sound k) EntsOK.nil)))) (fun k => impl_namesOf.L) (fun k => trivial) trivial (fun k => trivial) impl_namesOf.eq
end
end Go.Proofs.Ytkfehogikjcgkaa.V
namespace Go.Proofs.Ytkfehogikjcgkaa.V
open Go
set_option linter.unusedVariables false
noncomputable section
/-! ### impl.needed: function 65 -/
abbrev impl_needed.R := (((Unit × Unit) × Unit) × ((List Bool) × Unit))
def impl_needed.l0_ (k : Nat) (l0 : Int → Int → tFuncD → (List Bool) → (List Int) → Option impl_needed.R) (l1 : (List tBlockD) → Int → Int → tFuncD → (List Bool) → (List Int) → Option impl_needed.R) (l2 : tFuncD → (List Bool) → (List Int) → Option impl_needed.R) (a0 : Int) (a1 : Int) (a2 : tFuncD) (a3 : List Bool) (a4 : List Int) : Option impl_needed.R := bif decide (a1 < a0) then (Option.bind (impl_instOf.f k a2 a1) fun r1 => bif r1.1.2.1.1 then (Option.bind (impl_isRoot.f k a2 r1.1.1) fun r2 => bif r2.1.1.1 then (bif decide ((List.length a4 + List.length [a1]) * 8 ≤ 140737488355328) then (l0 a0 (IntKind.wrap .i64 (a1 + 1)) a2 a3 (a4 ++ [a1])) else none) else (l0 a0 (IntKind.wrap .i64 (a1 + 1)) a2 a3 a4)) else (l0 a0 (IntKind.wrap .i64 (a1 + 1)) a2 a3 a4)) else (l1 a2.2.2.1 ((List.length a2.2.2.1 : Nat) : Int) 0 a2 a3 a4)
def impl_needed.l1_ (k : Nat) (l0 : Int → Int → tFuncD → (List Bool) → (List Int) → Option impl_needed.R) (l1 : (List tBlockD) → Int → Int → tFuncD → (List Bool) → (List Int) → Option impl_needed.R) (l2 : tFuncD → (List Bool) → (List Int) → Option impl_needed.R) (a0 : List tBlockD) (a1 : Int) (a2 : Int) (a3 : tFuncD) (a4 : List Bool) (a5 : List Int) : Option impl_needed.R := bif decide (a2 < a1) then (bif (decide (0 ≤ a2)) && (decide (a2 < ((List.length a0 : Nat) : Int))) then (Option.bind (impl_endNames.f k ((List.getD a0 (Int.toNat a2) tBlockZ).2.2)) fun r1 => bif decide ((List.length a5 + List.length r1.2.1) * 8 ≤ 140737488355328) then (l1 a0 a1 (IntKind.wrap .i64 (a2 + 1)) a3 a4 (a5 ++ r1.2.1)) else none) else none) else (l2 a3 a4 a5)
def impl_needed.l2_ (k : Nat) (l0 : Int → Int → tFuncD → (List Bool) → (List Int) → Option impl_needed.R) (l1 : (List tBlockD) → Int → Int → tFuncD → (List Bool) → (List Int) → Option impl_needed.R) (l2 : tFuncD → (List Bool) → (List Int) → Option impl_needed.R) (a0 : tFuncD) (a1 : List Bool) (a2 : List Int) : Option impl_needed.R := bif decide (0 < ((List.length a2 : Nat) : Int)) then (bif (decide (0 ≤ 0)) && (decide (0 < ((List.length a2 : Nat) : Int))) then (bif (decide (0 ≤ 1)) && (decide (1 ≤ ((List.length a2 : Nat) : Int))) then (bif (decide (0 ≤ List.getD a2 0 0)) && (decide (List.getD a2 0 0 < ((List.length a1 : Nat) : Int))) then (bif !(List.getD a1 (Int.toNat (List.getD a2 0 0)) false) then (bif (decide (0 ≤ List.getD a2 0 0)) && (decide (List.getD a2 0 0 < ((List.length a1 : Nat) : Int))) then (Option.bind (impl_namesOf.f k a0 (List.getD a2 0 0)) fun r1 => bif decide ((List.length (List.drop 1 a2) + List.length r1.1.1.1) * 8 ≤ 140737488355328) then (l2 a0 (List.set a1 (Int.toNat (List.getD a2 0 0)) true) ((List.drop 1 a2) ++ r1.1.1.1)) else none) else none) else (l2 a0 a1 (List.drop 1 a2))) else none) else none) else none) else (some ((((), ()), ()), (a1, ())))
def impl_needed.all : Nat → (Int → Int → tFuncD → (List Bool) → (List Int) → Option impl_needed.R) × ((List tBlockD) → Int → Int → tFuncD → (List Bool) → (List Int) → Option impl_needed.R) × (tFuncD → (List Bool) → (List Int) → Option impl_needed.R) × Unit
  | 0 => (fun _ _ _ _ _ => none, fun _ _ _ _ _ _ => none, fun _ _ _ => none, ())
  | k + 1 => (impl_needed.l0_ k (impl_needed.all k).1 (impl_needed.all k).2.1 (impl_needed.all k).2.2.1, impl_needed.l1_ k (impl_needed.all k).1 (impl_needed.all k).2.1 (impl_needed.all k).2.2.1, impl_needed.l2_ k (impl_needed.all k).1 (impl_needed.all k).2.1 (impl_needed.all k).2.2.1, ())
def impl_needed.l0 (k : Nat) : Int → Int → tFuncD → (List Bool) → (List Int) → Option impl_needed.R := (impl_needed.all k).1
def impl_needed.l1 (k : Nat) : (List tBlockD) → Int → Int → tFuncD → (List Bool) → (List Int) → Option impl_needed.R := (impl_needed.all k).2.1
def impl_needed.l2 (k : Nat) : tFuncD → (List Bool) → (List Int) → Option impl_needed.R := (impl_needed.all k).2.2.1
def impl_needed.f (k : Nat) (a0 : tFuncD) : Option impl_needed.R := Option.bind (impl_CountOf.f k a0) fun r1 => bif (decide (r1.1.1.1 = r1.1.1.1)) && (decide (0 ≤ r1.1.1.1)) && (decide (r1.1.1.1 * 1 ≤ 281474976710656)) then (Option.bind (impl_CountOf.f k a0) fun r2 => impl_needed.l0 k r2.1.1.1 0 a0 (List.replicate (Int.toNat r1.1.1.1) false) ([] : List Int)) else none
def impl_needed.s (k : Nat) : FS := ⟨[⟨true, [.lst (.int .i64), .int .i64, .lst tBlock]⟩], [], false, [⟨false, [.own 100]⟩], [(100, .row true .bool)], [], fun x => impl_needed.f k x.1.1⟩
def impl_needed.E (k : Nat) : Ents := [(⟨68, []⟩, impl_CountOf.s k), (⟨116, []⟩, impl_instOf.s k), (⟨117, []⟩, impl_isRoot.s k), (⟨118, []⟩, impl_endNames.s k), (⟨119, []⟩, impl_namesOf.s k)]
def impl_needed.L0 (l : Int → Int → tFuncD → (List Bool) → (List Int) → Option impl_needed.R) : LS impl_needed.R := ⟨[], [(1, ⟨false, [.ptr 100000 0]⟩), (3, ⟨false, [.own 100001]⟩), (4, ⟨false, [.own 100002]⟩), (16, ⟨false, [.int .i64]⟩), (17, ⟨false, [.int .i64]⟩)], [(100000, .box [.lst (.int .i64), .int .i64, .lst tBlock]), (100001, .row true .bool), (100002, .row true (.int .i64))], fun x => l x.1.2.2.2.1.1 x.1.2.2.2.2.1.1 x.2.1 x.2.2.1 x.2.2.2.1⟩
def impl_needed.L1 (l : (List tBlockD) → Int → Int → tFuncD → (List Bool) → (List Int) → Option impl_needed.R) : LS impl_needed.R := ⟨[], [(1, ⟨false, [.ptr 100000 0]⟩), (3, ⟨false, [.own 100001]⟩), (4, ⟨false, [.own 100002]⟩), (38, ⟨false, [.lst tBlock]⟩), (39, ⟨false, [.int .i64]⟩), (40, ⟨false, [.int .i64]⟩)], [(100000, .box [.lst (.int .i64), .int .i64, .lst tBlock]), (100001, .row true .bool), (100002, .row true (.int .i64))], fun x => l x.1.2.2.2.1.1 x.1.2.2.2.2.1.1 x.1.2.2.2.2.2.1.1 x.2.1 x.2.2.1 x.2.2.2.1⟩
def impl_needed.L2 (l : tFuncD → (List Bool) → (List Int) → Option impl_needed.R) : LS impl_needed.R := ⟨[], [(1, ⟨false, [.ptr 100000 0]⟩), (3, ⟨false, [.own 100001]⟩), (4, ⟨false, [.own 100002]⟩)], [(100000, .box [.lst (.int .i64), .int .i64, .lst tBlock]), (100001, .row true .bool), (100002, .row true (.int .i64))], fun x => l x.2.1 x.2.2.1 x.2.2.2.1⟩
def impl_needed.L (l0 : Int → Int → tFuncD → (List Bool) → (List Int) → Option impl_needed.R) (l1 : (List tBlockD) → Int → Int → tFuncD → (List Bool) → (List Int) → Option impl_needed.R) (l2 : tFuncD → (List Bool) → (List Int) → Option impl_needed.R) : List (LS impl_needed.R) := [impl_needed.L0 l0, impl_needed.L1 l1, impl_needed.L2 l2]
def impl_needed.c : Code := Try.f65.body.getD .skip
theorem impl_needed.eq (k : Nat) (x) : (impl_needed.s k).pf x = execF tab (impl_needed.E k) Try.f65 impl_needed.c (impl_needed.s k) (impl_needed.L (impl_needed.l0 k) (impl_needed.l1 k) (impl_needed.l2 k)) x := by kernel_rfl
theorem impl_needed.r0 (l0 : Int → Int → tFuncD → (List Bool) → (List Int) → Option impl_needed.R) (l1 : (List tBlockD) → Int → Int → tFuncD → (List Bool) → (List Int) → Option impl_needed.R) (l2 : tFuncD → (List Bool) → (List Int) → Option impl_needed.R) (k : Nat) (x) : impl_needed.l0_ k l0 l1 l2 x.1.2.2.2.1.1 x.1.2.2.2.2.1.1 x.2.1 x.2.2.1 x.2.2.2.1 = roundOf tab (impl_needed.E k) (impl_needed.L l0 l1 l2) impl_needed.c (fin tab Try.f65 (impl_needed.s k)) 0 (impl_needed.L0 l0) x := by kernel_rfl
theorem impl_needed.r1 (l0 : Int → Int → tFuncD → (List Bool) → (List Int) → Option impl_needed.R) (l1 : (List tBlockD) → Int → Int → tFuncD → (List Bool) → (List Int) → Option impl_needed.R) (l2 : tFuncD → (List Bool) → (List Int) → Option impl_needed.R) (k : Nat) (x) : impl_needed.l1_ k l0 l1 l2 x.1.2.2.2.1.1 x.1.2.2.2.2.1.1 x.1.2.2.2.2.2.1.1 x.2.1 x.2.2.1 x.2.2.2.1 = roundOf tab (impl_needed.E k) (impl_needed.L l0 l1 l2) impl_needed.c (fin tab Try.f65 (impl_needed.s k)) 1 (impl_needed.L1 l1) x := by kernel_rfl
theorem impl_needed.r2 (l0 : Int → Int → tFuncD → (List Bool) → (List Int) → Option impl_needed.R) (l1 : (List tBlockD) → Int → Int → tFuncD → (List Bool) → (List Int) → Option impl_needed.R) (l2 : tFuncD → (List Bool) → (List Int) → Option impl_needed.R) (k : Nat) (x) : impl_needed.l2_ k l0 l1 l2 x.2.1 x.2.2.1 x.2.2.2.1 = roundOf tab (impl_needed.E k) (impl_needed.L l0 l1 l2) impl_needed.c (fin tab Try.f65 (impl_needed.s k)) 2 (impl_needed.L2 l2) x := by kernel_rfl
theorem impl_needed.sound : ∀ k, Sound Try.prog 65 (impl_needed.s k) := sound_of mixed tab_ok (f := 65) (fn := Try.f65) (c := impl_needed.c) (by kernel_rfl) (by kernel_rfl) (by kernel_rfl) ⟨[⟨true, [.lst (.int .i64), .int .i64, .lst tBlock]⟩], [], false, [⟨false, [.own 100]⟩], [(100, .row true .bool)], []⟩ (by kernel_rfl) (by kernel_rfl) (fun k => (impl_needed.s k).pf) impl_needed.E (fun k => (EntsOK.cons (impl_CountOf.sound k) (EntsOK.cons (impl_instOf.sound k) (EntsOK.cons (impl_isRoot.sound k) (EntsOK.cons (impl_endNames.sound k) (EntsOK.cons (impl_namesOf.sound k) EntsOK.nil)))))) (fun k => impl_needed.L (impl_needed.l0 k) (impl_needed.l1 k) (impl_needed.l2 k)) (fun k => ⟨rfl, rfl, rfl, trivial⟩) ⟨fun _ => rfl, fun _ => rfl, fun _ => rfl, trivial⟩ (fun k => ⟨⟨(impl_needed.L0 (impl_needed.l0 (k + 1))).l, rfl, fun x => impl_needed.r0 (impl_needed.l0 k) (impl_needed.l1 k) (impl_needed.l2 k) k x⟩, ⟨(impl_needed.L1 (impl_needed.l1 (k + 1))).l, rfl, fun x => impl_needed.r1 (impl_needed.l0 k) (impl_needed.l1 k) (impl_needed.l2 k) k x⟩, ⟨(impl_needed.L2 (impl_needed.l2 (k + 1))).l, rfl, fun x => impl_needed.r2 (impl_needed.l0 k) (impl_needed.l1 k) (impl_needed.l2 k) k x⟩, trivial⟩) impl_needed.eq
end
end Go.Proofs.Ytkfehogikjcgkaa.V
