/- PROVED HERE: what the functions that the law FnExactOrderOf reaches do in memory, each as a plain Lean function, and what these tell: part 5 of 6 of the proof of that law; no condition beyond those written out at each theorem. -/
import Derived.Test.YtobfgnjdcoidoaaZFnExactOrderOf1
import Derived.Test.YtobfgnjdcoidoaaZFnExactOrderOf2
import Derived.Test.YtobfgnjdcoidoaaZFnExactOrderOf3
namespace Go.Proofs.Ytobfgnjdcoidoaa.X
set_option linter.unusedVariables false
set_option linter.unusedSimpArgs false
open Go.RowKit Go.Proofs.YtobfgnjdcoidoaaW.PrintWords Go.Proofs.YtobfgnjdcoidoaaW.PrintLast Go.Proofs.YtobfgnjdcoidoaaW.PrintMore
/-- The walk into the depth: which blocks are marked, and in which order they are left. -/
def visit (l : List Block) : Nat → Int → List Bool × List Int → List Bool × List Int
  | 0, _, st => st
  | n + 1, b, st => if st.1.getD b.toNat false = true then st else
      let s := (succsOf (l.getD b.toNat z80)).foldl (fun st c => visit l n c st) (st.1.set b.toNat true, st.2)
      (s.1, s.2 ++ [b])
/-- A state that comes behind another one. -/
structure Less (a b : List Bool × List Int) : Prop where
  len : a.1.length = b.1.length
  off : off a.1 ≤ off b.1
  sum : a.2.length + X.off a.1 ≤ b.2.length + X.off b.1
theorem Less.refl (a : List Bool × List Int) : Less a a := ⟨rfl, Nat.le_refl _, Nat.le_refl _⟩
theorem Less.trans {a b c : List Bool × List Int} (h : Less a b) (k : Less b c) : Less a c := ⟨h.len.trans k.len, Nat.le_trans h.off k.off, Nat.le_trans h.sum k.sum⟩
theorem succs_range {l : List Block} (ht : There l) {b : Int} (hb : 0 ≤ b ∧ b < (l.length : Int)) {s : Int} (hs : s ∈ succsOf (l.getD b.toNat z80)) : 0 ≤ s ∧ s < (l.length : Int) := by
  have hlt : b.toNat < l.length := by omega
  rw [getD_at l _ _ hlt] at hs
  exact ht.2 _ (List.getElem_mem hlt) s hs
theorem fold_less {l : List Block} {n : Nat} (ih : ∀ (b : Int) (st : List Bool × List Int), 0 ≤ b ∧ b < (l.length : Int) → st.1.length = l.length → Less (visit l n b st) st) :
    ∀ (t : List Int) (st : List Bool × List Int), (∀ c ∈ t, 0 ≤ c ∧ c < (l.length : Int)) → st.1.length = l.length → Less (t.foldl (fun st c => visit l n c st) st) st
  | [], st, _, _ => Less.refl st
  | c :: t, st, hr, hl => by
    have h1 := ih c st (hr c (by simp)) hl
    exact (fold_less ih t _ (fun x hx => hr x (by simp [hx])) (h1.len.trans hl)).trans h1
theorem mark_less {l : List Block} {b : Int} {st : List Bool × List Int} (hb : 0 ≤ b ∧ b < (l.length : Int)) (hl : st.1.length = l.length) (hv : ¬ st.1.getD b.toNat false = true) :
    off (st.1.set b.toNat true) + 1 = off st.1 := off_set st.1 b.toNat (by omega) (by simpa using hv)
theorem visit_less (l : List Block) (ht : There l) : ∀ (n : Nat) (b : Int) (st : List Bool × List Int), 0 ≤ b ∧ b < (l.length : Int) → st.1.length = l.length → Less (visit l n b st) st
  | 0, b, st, _, _ => Less.refl st
  | n + 1, b, st, hb, hl => by
    simp only [visit]
    by_cases hv : st.1.getD b.toNat false = true
    · rw [if_pos hv]; exact Less.refl st
    · rw [if_neg hv]
      have hd := mark_less hb hl hv
      have h := fold_less (visit_less l ht n) (succsOf (l.getD b.toNat z80)) (st.1.set b.toNat true, st.2) (fun c hc => succs_range ht hb hc) (by simpa using hl)
      generalize (succsOf (l.getD b.toNat z80)).foldl (fun st c => visit l n c st) (st.1.set b.toNat true, st.2) = s at h ⊢
      have h1 : s.1.length = (st.1.set b.toNat true).length := h.len
      have h2 : off s.1 ≤ off (st.1.set b.toNat true) := h.off
      have h3 : s.2.length + off s.1 ≤ st.2.length + off (st.1.set b.toNat true) := h.sum
      rw [List.length_set] at h1
      refine ⟨h1, ?_, ?_⟩
      · show off s.1 ≤ off st.1
        omega
      · show (s.2 ++ [b]).length + off s.1 ≤ st.2.length + off st.1
        rw [List.length_append, List.length_singleton]
        omega
theorem visit_seen (l : List Block) (n : Nat) (b : Int) (st : List Bool × List Int) (hv : st.1.getD b.toNat false = true) : visit l n b st = st := by
  cases n with
  | zero => rfl
  | succ n => simp only [visit]; rw [if_pos hv]
theorem off_zero : ∀ (out : List Bool) (j : Nat), j < out.length → off out = 0 → out.getD j false = true
  | [], j, h, _ => by simp at h
  | x :: out, 0, _, h0 => by
    cases x with
    | true => rfl
    | false => simp [off] at h0
  | x :: out, j + 1, h, h0 => by
    have := off_zero out j (by simpa using h) (by unfold off at h0 ⊢; rw [List.count_cons] at h0; omega)
    simpa using this
theorem implAfter_l (p : List Int) (r : Int) (l : List Block) (b : Int) (n : Nat)
    (ht : There l) (ih : ∀ (c : Int) (st : List Bool × List Int), 0 ≤ c ∧ c < (l.length : Int) → st.1.length = l.length → off st.1 ≤ n → st.2.length + off st.1 ≤ 100 → Ev (fun k => impl_after.f k p r l c st.1 st.2) ((visit l n c st).2, (visit l n c st).1)) (t : List Int) (htl : t.length ≤ 2) (hr : ∀ c ∈ t, 0 ≤ c ∧ c < (l.length : Int)) :
    ∀ (d i : Nat) (st : List Bool × List Int), i + d = t.length → st.1.length = l.length → off st.1 ≤ n → st.2.length + off st.1 ≤ 100 →
      Ev (fun k => impl_after.l0 k b st.1 st.2 t (t.length : Int) i p r l) (((t.drop i).foldl (fun st c => visit l n c st) st).2 ++ [b], ((t.drop i).foldl (fun st c => visit l n c st) st).1) := by
  intro d
  induction d with
  | zero =>
    intro i st hi hl ho hs
    refine Ev.succ ?_
    simp only [impl_after.l0]
    refine Ev.ineg (by omega) (Ev.ipos (by omega) (Ev.rw (Ev.now _) ?_))
    rw [List.drop_of_length_le (by omega)]; rfl
  | succ d ih2 =>
    intro i st hi hl ho hs
    have hlt : i < t.length := by omega
    have hc := hr _ (List.getElem_mem hlt)
    have hle := visit_less l ht n t[i] st hc hl
    refine Ev.succ ?_
    simp only [impl_after.l0]
    rw [show rd t (i : Int) = t[i] from getD_at t _ i hlt, show wrap64 ((i : Int) + 1) = ((i + 1 : Nat) : Int) by rw [w64 (by omega) (by omega)]; rfl]
    refine Ev.ipos (by omega) (Ev.ipos (by omega) (Ev.ipos (by omega) (Ev.bind (ih t[i] st hc hl ho hs) ?_)))
    refine Ev.rw (ih2 (i + 1) (visit l n t[i] st) (by omega) (hle.len.trans hl) (Nat.le_trans hle.off ho) (Nat.le_trans hle.sum hs)) ?_
    rw [List.drop_eq_getElem_cons hlt]; rfl
theorem implAfter_ev (p : List Int) (r : Int) (l : List Block) (ht : There l) : ∀ (n : Nat) (b : Int) (st : List Bool × List Int), 0 ≤ b ∧ b < (l.length : Int) → st.1.length = l.length → off st.1 ≤ n → st.2.length + off st.1 ≤ 100 →
    Ev (fun k => impl_after.f k p r l b st.1 st.2) ((visit l n b st).2, (visit l n b st).1)
  | 0, b, st, hb, hl, ho, _ => by
    have hv := off_zero st.1 b.toNat (by omega) (by omega)
    refine Ev.succ ?_
    simp only [impl_after.f]
    exact Ev.ipos hb.1 (Ev.ipos (by omega) (Ev.ipos hv (Ev.now _)))
  | n + 1, b, st, hb, hl, ho, hs => by
    refine Ev.succ ?_
    simp only [impl_after.f]
    refine Ev.ipos hb.1 (Ev.ipos (by omega) ?_)
    by_cases hv : st.1.getD b.toNat false = true
    · refine Ev.ipos hv (Ev.rw (Ev.now _) ?_)
      rw [visit_seen l (n + 1) b st hv]
    · have hd := mark_less hb hl hv
      have hsl := succsOf_len (l.getD b.toNat z80)
      refine Ev.ineg hv (Ev.ipos hb.2 (Ev.bind (Ev.cst (implLeads_eq _)) ?_))
      have := implAfter_l p r l b n ht (implAfter_ev p r l ht n) (succsOf (l.getD b.toNat z80)) (by omega) (fun c hc => succs_range ht hb hc) _ 0 (st.1.set b.toNat true, st.2) (Nat.zero_add _) (by simpa using hl) (by show off (st.1.set b.toNat true) ≤ n; omega) (by show st.2.length + off (st.1.set b.toNat true) ≤ 100; omega)
      refine Ev.rw this ?_
      simp only [visit]
      rw [if_neg hv]
      rfl
theorem specPost_l (p : List Int) (r : Int) (l : List Block) (b : Int) (n : Nat)
    (ht : There l) (ih : ∀ (c : Int) (st : List Bool × List Int), 0 ≤ c ∧ c < (l.length : Int) → st.1.length = l.length → off st.1 ≤ n → st.2.length + off st.1 ≤ 100 → ¬ st.1.getD c.toNat false = true → Ev (fun k => spec_l3Post.f k p r l c (idx st.1 0) st.2) (idx (visit l n c st).1 0, (visit l n c st).2)) (t : List Int) (htl : t.length ≤ 2) (hr : ∀ c ∈ t, 0 ≤ c ∧ c < (l.length : Int)) :
    ∀ (d i : Nat) (st : List Bool × List Int), i + d = t.length → st.1.length = l.length → off st.1 ≤ n → st.2.length + off st.1 ≤ 100 →
      Ev (fun k => spec_l3Post.l0 k b (idx st.1 0) st.2 t i p r l) (idx ((t.drop i).foldl (fun st c => visit l n c st) st).1 0, ((t.drop i).foldl (fun st c => visit l n c st) st).2 ++ [b]) := by
  have ht10 := ht.1
  intro d
  induction d with
  | zero =>
    intro i st hi hl ho hs
    refine Ev.succ ?_
    simp only [spec_l3Post.l0]
    refine Ev.ineg (by omega) (Ev.ipos (by omega) (Ev.rw (Ev.now _) ?_))
    rw [List.drop_of_length_le (by omega)]; rfl
  | succ d ih2 =>
    intro i st hi hl ho hs
    have hlt : i < t.length := by omega
    have hc := hr _ (List.getElem_mem hlt)
    have hle := visit_less l ht n t[i] st hc hl
    have hh := has_ev (idx st.1 0) t[i] (smI_small (by have := idx_length st.1 0; omega))
    refine Ev.succ ?_
    simp only [spec_l3Post.l0]
    rw [show rd t (i : Int) = t[i] from getD_at t _ i hlt, show wrap64 ((i : Int) + 1) = ((i + 1 : Nat) : Int) by rw [w64 (by omega) (by omega)]; rfl]
    refine Ev.ipos (by omega) (Ev.ipos (by omega) (Ev.bind hh ?_))
    have next := ih2 (i + 1) (visit l n t[i] st) (by omega) (hle.len.trans hl) (Nat.le_trans hle.off ho) (Nat.le_trans hle.sum hs)
    have e : (t.drop i).foldl (fun st c => visit l n c st) st = (t.drop (i + 1)).foldl (fun st c => visit l n c st) (visit l n t[i] st) := by rw [List.drop_eq_getElem_cons hlt]; rfl
    rw [e]
    by_cases hv : st.1.getD t[i].toNat false = true
    · rw [visit_seen l n t[i] st hv] at next ⊢
      exact Ev.ipos (decide_eq_true ((mem_idx0 _ _ hc.1).2 hv)) next
    · exact Ev.ineg (by rw [decide_eq_false (fun h => hv ((mem_idx0 _ _ hc.1).1 h))]; decide) (Ev.bind (ih t[i] st hc hl ho hs hv) next)
theorem specPost_ev (p : List Int) (r : Int) (l : List Block) (ht : There l) : ∀ (n : Nat) (b : Int) (st : List Bool × List Int), 0 ≤ b ∧ b < (l.length : Int) → st.1.length = l.length → off st.1 ≤ n → st.2.length + off st.1 ≤ 100 → ¬ st.1.getD b.toNat false = true →
    Ev (fun k => spec_l3Post.f k p r l b (idx st.1 0) st.2) (idx (visit l n b st).1 0, (visit l n b st).2)
  | 0, b, st, hb, hl, ho, _, hv => absurd (off_zero st.1 b.toNat (by omega) (by omega)) hv
  | n + 1, b, st, hb, hl, ho, hs, hv => by
    have ht10 := ht.1
    have hd := mark_less hb hl hv
    have hf : st.1.getD b.toNat false = false := by simpa using hv
    have hsl := succsOf_len (l.getD b.toNat z80)
    have hset : idx (st.1.set b.toNat true) 0 = putI b (idx st.1 0) := by
      have := idx_set st.1 0 b.toNat (by omega) hf
      rw [show (0 : Int) + (b.toNat : Int) = b by omega] at this
      exact this
    have hp := put_ev (idx st.1 0) b (smI_small (by have := idx_length st.1 0; omega)) (fun h => hv ((mem_idx0 _ _ hb.1).1 h))
    rw [← hset] at hp
    refine Ev.succ ?_
    simp only [spec_l3Post.f]
    refine Ev.bind hp (Ev.bind (Ev.cst (specSuccs_eq p r l b hb.1 hb.2)) ?_)
    have := specPost_l p r l b n ht (specPost_ev p r l ht n) (succsOf (l.getD b.toNat z80)) (by omega) (fun c hc => succs_range ht hb hc) _ 0 (st.1.set b.toNat true, st.2) (Nat.zero_add _) (by simpa using hl) (by show off (st.1.set b.toNat true) ≤ n; omega) (by show st.2.length + off (st.1.set b.toNat true) ≤ 100; omega)
    refine Ev.rw this ?_
    simp only [visit]
    rw [if_neg hv]
    rfl
theorem rev_l : ∀ (d : Nat) (i j : Int) (x : List Int), 0 ≤ i → j < (x.length : Int) → -1 ≤ j → j - i ≤ d → x.length ≤ 1000 →
    ∃ y, Ev (fun k => slices_Reverse_int64_int64.l0 k x i j) y ∧ y.length = x.length ∧ ∀ m : Nat, y[m]? = if i ≤ (m : Int) ∧ (m : Int) ≤ j then x[(i + j - (m : Int)).toNat]? else x[m]?
  | d, i, j, x, h0, h1, h2, hd, hx => by
    by_cases c : i < j
    · obtain ⟨d, rfl⟩ : ∃ e, d = e + 1 := ⟨d - 1, by omega⟩
      have hi : i.toNat < x.length := by omega
      have hj : j.toNat < x.length := by omega
      obtain ⟨y, e, hl, hy⟩ := rev_l d (i + 1) (j - 1) ((x.set i.toNat (rd x j)).set j.toNat (rd x i)) (by omega) (by simp; omega) (by omega) (by omega) (by simpa using hx)
      refine ⟨y, Ev.step (fun k => rfl) (Ev.ipos c (Ev.ipos (by omega) (Ev.ipos h1 (Ev.ipos h0 (Ev.ipos (by omega) ?_))))), by simpa using hl, fun m => ?_⟩
      · rw [w64 (x := i + 1) (by omega) (by omega), w64 (x := j - 1) (by omega) (by omega)]
        exact e
      · rw [hy m]
        have gi : rd x i = x[i.toNat] := getD_at x 0 i.toNat hi
        have gj : rd x j = x[j.toNat] := getD_at x 0 j.toNat hj
        have hget : ∀ q : Nat, ((x.set i.toNat (rd x j)).set j.toNat (rd x i))[q]? = if q = j.toNat then x[i.toNat]? else if q = i.toNat then x[j.toNat]? else x[q]? := by
          intro q
          rw [List.getElem?_set, List.getElem?_set, List.length_set]
          by_cases a : j.toNat = q
          · subst a
            rw [if_pos rfl, if_pos hj, if_pos rfl, gi, List.getElem?_eq_getElem hi]
          · rw [if_neg a, if_neg (show ¬ q = j.toNat from fun e => a e.symm)]
            by_cases a' : i.toNat = q
            · subst a'
              rw [if_pos rfl, if_pos hi, if_pos rfl, gj, List.getElem?_eq_getElem hj]
            · rw [if_neg a', if_neg (show ¬ q = i.toNat from fun e => a' e.symm)]
        rw [hget, hget]
        by_cases b1 : i + 1 ≤ (m : Int) ∧ (m : Int) ≤ j - 1
        · rw [if_pos b1, if_neg (by omega), if_neg (by omega), if_pos (by omega)]
          congr 1; omega
        · rw [if_neg b1]
          by_cases b2 : m = j.toNat
          · rw [if_pos b2, if_pos (by omega)]
            congr 1; omega
          · rw [if_neg b2]
            by_cases b3 : m = i.toNat
            · rw [if_pos b3, if_pos (by omega)]
              congr 1; omega
            · rw [if_neg b3, if_neg (by omega)]
    · refine ⟨x, Ev.step (fun k => rfl) (Ev.ineg c (Ev.now _)), rfl, fun m => ?_⟩
      by_cases b : i ≤ (m : Int) ∧ (m : Int) ≤ j
      · rw [if_pos b]; congr 1; omega
      · rw [if_neg b]
theorem reverse_ev (x : List Int) (hx : x.length ≤ 1000) : Ev (fun k => slices_Reverse_int64_int64.f k x) x.reverse := by
  obtain ⟨y, e, hl, hy⟩ := rev_l x.length 0 ((x.length : Int) - 1) x (by omega) (by omega) (by omega) (by omega) hx
  have hyr : y = x.reverse := by
    apply List.ext_getElem?
    intro m
    rw [hy m]
    by_cases c : m < x.length
    · rw [if_pos ⟨by omega, by omega⟩, List.getElem?_reverse c]
      congr 1; omega
    · rw [if_neg (by omega), List.getElem?_eq_none (by omega), List.getElem?_eq_none (by simp; omega)]
  subst hyr
  show Ev (fun k => slices_Reverse_int64_int64.l0 k x 0 (wrap64 ((x.length : Int) - 1))) _
  rw [w64 (by omega) (by omega)]
  exact e
theorem specRev_l (x : List Int) (hx : x.length ≤ 1000) : ∀ (d : Nat) (acc : List Int), d ≤ x.length → acc.length ≤ 1000 - d → Ev (fun k => spec_OrderOf.l0 k acc x ((d : Int) - 1)) (acc ++ (x.take d).reverse)
  | 0, acc, _, _ => Ev.step (fun k => rfl) (Ev.ineg (by omega) (Ev.rw (Ev.now _) (by simp)))
  | d + 1, acc, hd, ha => by
    have hlt : d < x.length := by omega
    have e1 : (((d + 1 : Nat) : Int) - 1) = (d : Int) := by push_cast; omega
    rw [e1]
    refine Ev.step (fun k => rfl) (Ev.ipos (by omega) (Ev.ipos (by omega) (Ev.ipos (by omega) (Ev.ipos (by omega) ?_))))
    rw [show rd x (d : Int) = x[d] from getD_at x _ d hlt, w64 (x := (d : Int) - 1) (by omega) (by omega)]
    refine Ev.rw (specRev_l x hx d (acc ++ [x[d]]) (by omega) (by simp; omega)) ?_
    rw [List.take_succ_eq_append_getElem hlt, List.reverse_append, List.append_assoc]; rfl
/-- The blocks in order. -/
def orderL (l : List Block) : List Int := if 1 ≤ l.length ∧ There l then (visit l l.length 0 (List.replicate l.length false, [])).2.reverse else []
theorem orderL_len (l : List Block) : (orderL l).length ≤ 10 := by
  unfold orderL
  split
  · rename_i c
    have h := (visit_less l c.2 l.length 0 (List.replicate l.length false, []) ⟨by omega, by omega⟩ (by simp)).sum
    have h10 := c.2.1
    simp only [off_replicate, List.length_nil] at h
    rw [List.length_reverse]
    omega
  · simp
theorem implOrder_ev (p : List Int) (r : Int) (l : List Block) (h : l.length ≤ 1048576) : Ev (fun k => impl_OrderOf.f k p r l) (orderL l) := by
  unfold orderL
  refine Ev.bind (Ev.cst (implGraph_eq p r l h)) ?_
  by_cases c : 1 ≤ l.length ∧ There l
  · rw [if_pos c]
    have h10 := c.2.1
    have hsum := (visit_less l c.2 l.length 0 (List.replicate l.length false, []) ⟨by omega, by omega⟩ (by simp)).sum
    simp only [off_replicate, List.length_nil] at hsum
    have ha := implAfter_ev p r l c.2 l.length 0 (List.replicate l.length false, []) ⟨by omega, by omega⟩ (by simp) (by rw [off_replicate]; exact Nat.le_refl _) (by rw [off_replicate]; simp; omega)
    refine Ev.ipos (decide_eq_true c) (Ev.ipos (by omega) (Ev.ipos (by simp; omega) ?_))
    rw [show ((l.length : Int)).toNat = l.length from by simp]
    exact Ev.bind ha (Ev.bind (reverse_ev _ (by show (visit l l.length 0 (List.replicate l.length false, [])).2.length ≤ _; omega)) (Ev.now _))
  · rw [if_neg c]
    exact Ev.ineg (by rw [decide_eq_false c]; decide) (Ev.now _)
theorem specOrder_ev (p : List Int) (r : Int) (l : List Block) (h : l.length ≤ 1048576) : Ev (fun k => spec_OrderOf.f k p r l) (orderL l) := by
  unfold orderL
  refine Ev.bind (a := []) (Ev.cst rfl) (Ev.bind (specThere_ev p r l 0 h) ?_)
  by_cases c : 1 ≤ l.length ∧ There l
  · rw [if_pos c]
    have h10 := c.2.1
    have hsum := (visit_less l c.2 l.length 0 (List.replicate l.length false, []) ⟨by omega, by omega⟩ (by simp)).sum
    simp only [off_replicate, List.length_nil] at hsum
    have hno : ¬ (List.replicate l.length false).getD (0 : Int).toNat false = true := by
      rw [List.getD_eq_getElem?_getD, List.getElem?_replicate]
      split <;> decide
    have ha := specPost_ev p r l c.2 l.length 0 (List.replicate l.length false, []) ⟨by omega, by omega⟩ (by simp) (by rw [off_replicate]; exact Nat.le_refl _) (by rw [off_replicate]; simp; omega) hno
    rw [show idx (List.replicate l.length false, ([] : List Int)).1 0 = [] from idx_replicate _ _] at ha
    refine Ev.ipos (decide_eq_true ⟨by omega, c.2⟩) (Ev.bind ha ?_)
    generalize hv : (visit l l.length 0 (List.replicate l.length false, [])).2 = x at *
    rw [w64 (x := (x.length : Int) - 1) (by omega) (by omega)]
    refine Ev.rw (specRev_l x (by omega) x.length [] (Nat.le_refl _) (by simp)) ?_
    rw [List.take_length]; rfl
  · rw [if_neg c]
    exact Ev.ineg (by rw [decide_eq_false (fun h => c ⟨by omega, h.2⟩)]; decide) (Ev.now _)
end Go.Proofs.Ytobfgnjdcoidoaa.X
namespace Go.Proofs.Ytobfgnjdcoidoaa.X
set_option linter.unusedVariables false
set_option linter.unusedSimpArgs false
open Go.RowKit Go.Proofs.YtobfgnjdcoidoaaW.PrintWords Go.Proofs.YtobfgnjdcoidoaaW.PrintLast Go.Proofs.YtobfgnjdcoidoaaW.PrintMore
/-- n, n+1, .. -/
def upFrom : Nat → Int → List Int
  | 0, _ => []
  | d + 1, n => n :: upFrom d (n + 1)
theorem upFrom_length : ∀ (d : Nat) (n : Int), (upFrom d n).length = d
  | 0, _ => rfl
  | d + 1, n => by simp [upFrom, upFrom_length d (n + 1)]
theorem upFrom_get : ∀ (d : Nat) (n : Int) (i : Nat) (h : i < (upFrom d n).length), (upFrom d n)[i] = n + i
  | 0, _, i, h => by simp [upFrom] at h
  | d + 1, n, 0, h => by simp [upFrom]
  | d + 1, n, i + 1, h => by
    simp only [upFrom, List.getElem_cons_succ]
    rw [upFrom_get d (n + 1) i (by simpa [upFrom] using h)]
    push_cast; omega
theorem markInt64S_ev (l : List Int) (h : smI l) (n : Int) (h0 : 0 ≤ n) (h1 : n ≤ 17592186044416) : Ev (fun k => laws_markInt64S.f k l n) (n + len l, upFrom l.length n) := by
  unfold smI at h
  suffices hh : ∀ (d i : Nat) (x : List Int) (m : Int), i + d = x.length → x.length = l.length → m = n + i → Ev (fun k => laws_markInt64S.l0 k x m i) (n + len l, x.take i ++ upFrom d m) by
    have := hh l.length 0 l n (by omega) rfl (by simp)
    simp only [List.take_zero, List.nil_append] at this
    exact this
  intro d
  induction d with
  | zero =>
    intro i x m hi hx hm
    refine Ev.step (fun k => rfl) (Ev.ineg (by omega) (Ev.rw (Ev.now _) ?_))
    rw [List.take_of_length_le (by omega)]
    simp only [upFrom, List.append_nil]
    refine Prod.ext ?_ rfl
    show m = n + len l
    unfold len; omega
  | succ d ih =>
    intro i x m hi hx hm
    have hlt : i < x.length := by omega
    refine Ev.step (fun k => rfl) (Ev.ipos (by omega) (Ev.ipos (by omega) ?_))
    rw [show (i : Int).toNat = i from rfl, w64 (x := m + 1) (by omega) (by omega), show wrap64 ((i : Int) + 1) = ((i + 1 : Nat) : Int) by rw [w64 (by omega) (by omega)]; rfl]
    refine Ev.rw (ih (i + 1) (x.set i m) (m + 1) (by simp; omega) (by simpa using hx) (by push_cast; omega)) ?_
    refine Prod.ext rfl ?_
    show (x.set i m).take (i + 1) ++ upFrom d (m + 1) = x.take i ++ (m :: upFrom d (m + 1))
    rw [List.take_set, List.take_succ_eq_append_getElem hlt, List.set_append]
    simp [Nat.min_eq_left (Nat.le_of_lt hlt)]
theorem heldInt64S_ev (D : Nat) (hD : D ≤ 1048576) (n : Int) (h0 : 0 ≤ n) (h1 : n ≤ 17592186044416) : Ev (fun k => laws_heldInt64S.f k (upFrom D n) n) (n + D) := by
  have hl := upFrom_length D n
  suffices hh : ∀ (d i : Nat) (m : Int), i + d = D → m = n + i → Ev (fun k => laws_heldInt64S.l0 k (upFrom D n) m i) (n + D) by
    exact hh D 0 n (by omega) (by simp)
  intro d
  induction d with
  | zero =>
    intro i m hi hm
    exact Ev.step (fun k => rfl) (Ev.ineg (by omega) (Ev.rw (Ev.now _) (by omega)))
  | succ d ih =>
    intro i m hi hm
    have hlt : i < (upFrom D n).length := by omega
    refine Ev.step (fun k => rfl) (Ev.ipos (by omega) (Ev.ipos (by omega) (Ev.ipos ?_ ?_)))
    · rw [show rd (upFrom D n) (i : Int) = (upFrom D n)[i] from getD_at _ _ i hlt, upFrom_get, hm]
    · rw [w64 (x := m + 1) (by omega) (by omega), show wrap64 ((i : Int) + 1) = ((i + 1 : Nat) : Int) by rw [w64 (by omega) (by omega)]; rfl]
      exact ih (i + 1) (m + 1) (by omega) (by push_cast; omega)
theorem tot_le {α : Type} {f : α → Int} {B : Int} (hB : 0 ≤ B) : ∀ (l : List α), (∀ x ∈ l, f x ≤ B) → tot f l ≤ (l.length : Int) * B
  | [], _ => by simp [tot]
  | x :: l, h => by
    have h1 := h x (by simp)
    have h2 := tot_le hB l (fun y hy => h y (by simp [hy]))
    have e : (((x :: l).length : Nat) : Int) * B = (l.length : Int) * B + B := by rw [List.length_cons]; push_cast; rw [Int.add_mul, Int.one_mul]
    simp only [tot]
    omega
theorem tot_small {α : Type} {f : α → Int} {B : Int} (hB : 0 ≤ B) (l : List α) (hl : l.length ≤ 1048576) (h : ∀ x ∈ l, f x ≤ B) : tot f l ≤ 1048576 * B :=
  Int.le_trans (tot_le hB l h) (Int.mul_le_mul_of_nonneg_right (by omega) hB)
theorem markFunc_ev (p : List Int) (r : Int) (l : List Block) (hp : smI p) (hl : smbs l) : ∃ n, 0 ≤ n ∧ laws_markFunc.f p r l 1 = some n := by
  have h0 := tot_nonneg nBlk_nonneg l
  have hp' : p.length ≤ 1048576 := hp
  have hb : ∀ b ∈ l, nBlk b ≤ 2199030595588 := by
    intro b hb
    obtain ⟨h1, h2, h3, h4⟩ := hl.2 b hb
    have e1 : tot nPhi b.f0 ≤ 1048576 * 1048577 := tot_small (by decide) b.f0 h1 (fun x hx => by have : x.f1.length ≤ 1048576 := h2 x hx; unfold nPhi nInts; omega)
    have e2 : tot nIns b.f1 ≤ 1048576 * 1048582 := tot_small (by decide) b.f1 h3 (fun x hx => by have : x.f6.length ≤ 1048576 := h4 x hx; unfold nIns nInts; omega)
    unfold nBlk
    omega
  have e3 : tot nBlk l ≤ 1048576 * 2199030595588 := tot_small (by decide) l hl.1 hb
  have hi : nInts p = (p.length : Int) := rfl
  refine ⟨1 + nInts p + tot nBlk l, by omega, ?_⟩
  unfold laws_markFunc.f
  rw [if_pos ⟨by decide, by omega⟩]
end Go.Proofs.Ytobfgnjdcoidoaa.X
namespace Go.Proofs.Ytobfgnjdcoidoaa.Pure
set_option linter.unusedVariables false
set_option linter.unusedSimpArgs false
open Go.RowKit Go.Proofs.Ytobfgnjdcoidoaa.X Go.Proofs.YtobfgnjdcoidoaaW.PrintWords Go.Proofs.YtobfgnjdcoidoaaW.PrintLast
theorem FnExactOrderOf : ∀ (l0_0 : List Int) (a0_1 : Int) (l0_2 : List (S74)), wf25 (⟨l0_0, a0_1, l0_2⟩ : S25) → ∃ k, laws_FnExactOrderOf.f k l0_0 a0_1 l0_2 = some true := by
  intro p r l hw
  refine (law_func hw (fun hp hl hs => ?_)).rounds
  have hlen : (l.map cBlock).length ≤ 1048576 := hs.2.1.1
  obtain ⟨R, hR, e1, e2⟩ := (⟨orderL (l.map cBlock), smI_small (by have := orderL_len (l.map cBlock); omega), specOrder_ev p r _ hlen, implOrder_ev p r _ hlen⟩ : ∃ R, smI R ∧ Ev (fun k => spec_OrderOf.f k p r (l.map cBlock)) R ∧ Ev (fun k => impl_OrderOf.f k p r (l.map cBlock)) R)
  have tof := toFunc_ev p r l hp hl
  have heq := eqInt64S_ev R hR
  have hR' : R.length ≤ 1048576 := hR
  have hlR : len R = (R.length : Int) := rfl
  obtain ⟨n, hn, hm⟩ := markFunc_ev p r (l.map cBlock) hs.1 hs.2.1
  have hmk := markInt64S_ev R hR 1 (by decide) (by decide)
  have hhd := heldInt64S_ev R.length hR' 1 (by decide) (by decide)
  have hj : Ev (fun k => laws_FnExactOrderOf.j0 k R R (!true) p r l) true := by
    refine Ev.succ ?_
    simp only [laws_FnExactOrderOf.j0, Bool.not_true, Bool.false_eq_true, if_false]
    refine Ev.bind hmk (Ev.bind hhd (Ev.ineg (by omega) (Ev.ipos rfl (Ev.bind tof (Ev.bind e2 (Ev.bind heq (Ev.ipos rfl ?_)))))))
    exact Ev.bind hhd (Ev.ineg (by omega) (Ev.ipos rfl (Ev.now true)))
  refine Ev.bind tof (Ev.bind e1 (Ev.bind tof (Ev.bind e2 (Ev.bind heq (Ev.ipos rfl (Ev.bind tof (Ev.bind (eqFunc_ev _ _ _ hs.1 hs.2.1) (Ev.ipos rfl ?_))))))))
  exact Ev.bind (Ev.cst hm) (Ev.ineg (by omega) (Ev.bind heq hj))
end Go.Proofs.Ytobfgnjdcoidoaa.Pure
