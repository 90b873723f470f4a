/- PROVED HERE: what the functions that the law FnExactModuleBytes reaches do in memory, each as a plain Lean function, and what these tell: part 5 of 6 of the proof of that law; no condition beyond those written out at each theorem. -/
import Derived.Test.YtkfehogikjcgkaaZFnExactModuleBytes2
import Derived.Test.YtkfehogikjcgkaaZFnExactModuleBytes3
namespace Go.Proofs.Ytkfehogikjcgkaa.V
open Go
set_option linter.unusedVariables false
set_option linter.unusedSimpArgs false
theorem implWs {l : List Int} (h : l.length ≤ 1048576) : Ev (fun k => slices_ContainsFunc_int64_int64.f k l) (one (!l.all wOk)) := by
  rw [← any_not]
  exact index_ev (z := 0) (L := fun k b a => slices_IndexFunc_int64_int64.l0 k l b a) (q := fun k x => impl_isFunc_1.f k x) (by omega) (fun k b a => rfl) fun x _ => Ev.all fun k => by
    unfold impl_isFunc_1.f
    rw [implW]; rfl
theorem implIds {l : List Int} (h : l.length ≤ 1048576) {count : Int} (h0 : 0 ≤ count) (h1 : count ≤ 9223372036854775807) : Ev (fun k => slices_ContainsFunc_int64_int64_2.f k l count) (one (!l.all (inB 0 (count - 1)))) := by
  rw [← any_not]
  exact index_ev (z := 0) (L := fun k b a => slices_IndexFunc_int64_int64_2.l0 k l b a count) (q := fun k x => impl_isFunc_2_1.f k x count) (by omega) (fun k b a => rfl) fun x _ => Ev.all fun k => by
    unfold impl_isFunc_2_1.f
    rw [implIn, wrap_id (by omega) (by omega)]; rfl
theorem ev_nt {g : Nat → Option BR} {b c : Bool} (h : Ev g (one (!c))) : Ev (fun k => bif !b then some (one true) else g k) (one (!(b && c))) := by
  cases b with
  | true => exact Ev.neg rfl h
  | false => exact Ev.pos rfl (Ev.cst rfl)
theorem ev_nt' {g : Nat → Option BR} {b c : Bool} (h : Ev g (one (!c))) : Ev (fun k => bif b then some (one true) else g k) (one (!(!b && c))) := by
  cases b with
  | true => exact Ev.pos rfl (Ev.cst rfl)
  | false => exact Ev.neg rfl h
theorem implPhi {p : tPhiD} (hp : Small tPhi p) {count : Int} (h0 : 0 ≤ count) (h1 : count ≤ 9223372036854775807) : Ev (fun k => impl_isFunc_2.f k p count) (one (!phiB count p)) := by
  have hl : p.2.1.length ≤ 1048576 := hp.2.1.1
  unfold impl_isFunc_2.f phiB
  rw [Bool.and_assoc, len_not]
  exact Ev.bind (Ev.all fun k => implW k _) (ev_nt (ev_nt' (Ev.bind (implIds hl h0 h1) (Ev.cst rfl))))
theorem implPhis {l : List tPhiD} (hs : Small (.list tPhi) l) {count : Int} (h0 : 0 ≤ count) (h1 : count ≤ 9223372036854775807) : Ev (fun k => slices_ContainsFunc_impl_Phi_impl_Phi.f k l count) (one (!l.all (phiB count))) := by
  have hl : l.length ≤ 1048576 := hs.1
  rw [← any_not]
  exact index_ev (z := tPhiZ) (L := fun k b a => slices_IndexFunc_impl_Phi_impl_Phi.l0 k l b a count) (q := fun k x => impl_isFunc_2.f k x count) (by omega) (fun k b a => rfl) fun x hx => implPhi (hs.2 x hx) h0 h1
theorem implInsts {l : List tInstD} (hs : Small (.list tInst) l) {count funcs : Int} (h0 : 0 ≤ count) (h1 : count ≤ 9223372036854775807) (h2 : 0 ≤ funcs) (h3 : funcs ≤ 9223372036854775807) : Ev (fun k => slices_ContainsFunc_impl_Inst_impl_Inst.f k l count funcs) (one (!l.all (instB count funcs))) := by
  have hl : l.length ≤ 1048576 := hs.1
  rw [← any_not]
  refine index_ev (z := tInstZ) (L := fun k b a => slices_IndexFunc_impl_Inst_impl_Inst.l0 k l b a count funcs) (q := fun k x => impl_isFunc_3.f k x count funcs) (by omega) (fun k b a => rfl) fun x hx => ?_
  exact Ev.bind (implInst (i := x) ((hs.2 x hx).2.2.2.2.2.2.1.1) h0 h1 h2 h3) (Ev.cst rfl)
theorem implFunc {f : tFuncD} (hf : Small tFunc f) {funcs : Int} (h2 : 0 ≤ funcs) (h3 : funcs ≤ 9223372036854775807) : Ev (fun k => impl_isFunc.f k f funcs) (one (funcB funcs f)) := by
  have hs := hf.2.2.1
  have hlen : f.2.2.1.length ≤ 1048576 := hs.1
  have hpl : f.1.length ≤ 1048576 := hf.1.1
  obtain ⟨c0, c1⟩ := cntB_le hf
  have c1 : cntB f ≤ 9223372036854775807 := by omega
  have hord : funcB funcs f = (!decide (((4 : Nat) : Int) < ((f.1.length : Nat) : Int)) && (wOk f.2.1 && (inB 1 10 (f.2.2.1.length : Int) && (f.1.all wOk && (!decide (60 < cntB f) && f.2.2.1.all (blockB (cntB f) funcs (f.2.2.1.length : Int))))))) := by
    unfold funcB
    rw [len_not, le_not]
    generalize decide (((4 : Nat) : Int) < ((f.1.length : Nat) : Int)) = a
    generalize decide (60 < cntB f) = b
    generalize f.1.all wOk = c
    cases a <;> cases b <;> cases c <;> simp [Bool.and_assoc]
  rw [hord]
  unfold impl_isFunc.f
  refine ev_and' (Ev.bind (Ev.all fun k => implW k _) (ev_and (Ev.bind (Ev.all fun k => implIn k _ _ _) (ev_and (Ev.bind (implWs hpl) ?_)))))
  have inner : Ev (fun k => Option.bind (impl_CountOf.f k f) fun r4 => bif decide (60 < r4.1.1.1) then some (((false, ()), ()), ()) else impl_isFunc.l0 k f.2.2.1 ((List.length f.2.2.1 : Nat) : Int) 0 f funcs r4.1.1.1) (one (!decide (60 < cntB f) && f.2.2.1.all (blockB (cntB f) funcs (f.2.2.1.length : Int)))) := by
    refine Ev.bind (implCount hf) (ev_and' ?_)
    refine each_ev (z := tBlockZ) (l := f.2.2.1) (L := fun k a => impl_isFunc.l0 k f.2.2.1 ((List.length f.2.2.1 : Nat) : Int) a f funcs (cntB f)) (V := fun m => one (m.all (blockB (cntB f) funcs (f.2.2.1.length : Int))))
      (q := fun k x g => Option.bind (slices_ContainsFunc_impl_Phi_impl_Phi.f k x.1 (cntB f)) fun r1 => bif r1.1.1.1 then some (((false, ()), ()), ()) else Option.bind (slices_ContainsFunc_impl_Inst_impl_Inst.f k x.2.1 (cntB f) funcs) fun r2 => bif r2.1.1.1 then some (((false, ()), ()), ()) else Option.bind (impl_isTerm.f k f x.2.2 (cntB f)) fun r3 => bif !r3.1.1.1 then some (((false, ()), ()), ()) else g k)
      (by omega) (fun k a => rfl) (Ev.cst rfl) fun x m g hx hg => ?_
    have hx' := hs.2 x hx
    have hb : (blockB (cntB f) funcs (f.2.2.1.length : Int) x && m.all (blockB (cntB f) funcs (f.2.2.1.length : Int))) = (!(!x.1.all (phiB (cntB f))) && (!(!x.2.1.all (instB (cntB f) funcs)) && (termB (cntB f) (f.2.2.1.length : Int) x.2.2 && m.all (blockB (cntB f) funcs (f.2.2.1.length : Int))))) := by
      have e : blockB (cntB f) funcs (f.2.2.1.length : Int) x = (x.1.all (phiB (cntB f)) && x.2.1.all (instB (cntB f) funcs) && termB (cntB f) (f.2.2.1.length : Int) x.2.2) := rfl
      rw [e, Bool.not_not, Bool.not_not, Bool.and_assoc, Bool.and_assoc]
    rw [List.all_cons, hb]
    exact Ev.bind (implPhis hx'.1 c0 c1) (ev_and' (Ev.bind (implInsts hx'.2.1 c0 c1 h2 h3) (ev_and' (Ev.bind (Ev.all fun k => implTerm k x.2.2 hlen c0 c1) (ev_and hg)))))
  have := ev_and' (b := !f.1.all wOk) inner
  rw [Bool.not_not] at this
  exact this
end Go.Proofs.Ytkfehogikjcgkaa.V
namespace Go.Proofs.Ytkfehogikjcgkaa.V
open Go
set_option linter.unusedVariables false
set_option linter.unusedSimpArgs false
theorem strOf_size (l : List Int) : (strOf l).size = l.length := by
  unfold strOf ByteArray.size
  simp
theorem strOf_app (x y : List Int) : strOf x ++ strOf y = strOf (x ++ y) := by
  apply ByteArray.ext
  simp [strOf]
theorem wrap8 {x : Int} (h0 : 0 ≤ x) (h1 : x < 256) : IntKind.wrap .u8 x = x := by
  have e : IntKind.wrap .u8 x = if (false && decide (x % 256 ≥ 128)) = true then x % 256 - 256 else x % 256 := rfl
  rw [e, Bool.false_and, if_neg (by decide)]; omega
theorem bv64 {x : Int} (h0 : 0 ≤ x) (h1 : x < 9223372036854775808) : (BitVec.ofInt 64 x).toNat = x.toNat := by
  rw [BitVec.toNat_ofInt]
  congr 1
  have : ((2 ^ 64 : Nat) : Int) = 18446744073709551616 := rfl
  rw [this]; omega
theorem band127 {x : Int} (h0 : 0 ≤ x) (h1 : x < 9223372036854775808) : band .i64 x 127 = x % 128 := by
  show IntKind.i64.wrap ((BitVec.ofInt 64 x &&& BitVec.ofInt 64 127).toNat : Int) = _
  rw [BitVec.toNat_and, bv64 h0 h1, show (BitVec.ofInt 64 127).toNat = 2 ^ 7 - 1 from rfl, Nat.and_two_pow_sub_one_eq_mod]
  obtain ⟨y, rfl⟩ := Int.eq_ofNat_of_zero_le h0
  rw [show ((y : Int)).toNat = y from rfl]
  rw [wrap_id (by omega) (by omega)]
  omega
theorem bor128 {y : Int} (h0 : 0 ≤ y) (h1 : y < 128) : bor .i64 y 128 = y + 128 := by
  show IntKind.i64.wrap ((BitVec.ofInt 64 y ||| BitVec.ofInt 64 128).toNat : Int) = _
  rw [BitVec.toNat_or, bv64 h0 (by omega), show (BitVec.ofInt 64 128).toNat = 2 ^ 7 * 1 from rfl]
  obtain ⟨z, rfl⟩ := Int.eq_ofNat_of_zero_le h0
  rw [show ((z : Int)).toNat = z from rfl, Nat.or_comm, ← Nat.two_pow_add_eq_or_of_lt (by omega) 1]
  rw [wrap_id (by omega) (by omega)]
  omega
theorem shr7 {x : Int} : V.shr .i64 x 7 = x / 128 := by
  show Int.fdiv x (2 ^ (min (7 : Int).toNat 64)) = _
  rw [Int.fdiv_eq_ediv_of_nonneg _ (Int.le_of_lt (Int.pow_pos (by decide)))]
  rfl
/-- The bytes of a number, the lowest seven bits first. -/
def vl : Nat → Int → List Int
  | 0, n => [n]
  | d + 1, n => if 127 < n then (128 + n % 128) :: vl d (n / 128) else [n]
theorem vl_len : ∀ (d : Nat) (n : Int), (vl d n).length ≤ d + 1
  | 0, n => by simp [vl]
  | d + 1, n => by
    have := vl_len d (n / 128)
    unfold vl
    split <;> simp <;> omega
theorem specVar_l : ∀ (d : Nat) (n : Int) (s : ByteArray), 0 ≤ n → n < 128 * 128 ^ d → n < 9223372036854775808 → s.size + d ≤ 1000 → Ev (fun k => spec_VarOf.l0 k n s) (one (s ++ strOf (vl d n)))
  | 0, n, s, h0, h1, h2, hs => by
    simp only [Int.pow_zero] at h1
    refine Ev.succ ?_
    show Ev (fun k => spec_VarOf.l0_ k (spec_VarOf.l0 k) n s) _
    unfold spec_VarOf.l0_
    rw [wrap8 h0 (by omega)]
    exact Ev.dn (by omega) (Ev.dp (by rw [strOf_size]; unfold big; simp; omega) (Ev.cst rfl))
  | d + 1, n, s, h0, h1, h2, hs => by
    rw [Int.pow_succ] at h1
    refine Ev.succ ?_
    show Ev (fun k => spec_VarOf.l0_ k (spec_VarOf.l0 k) n s) _
    unfold spec_VarOf.l0_ vl
    by_cases c : 127 < n
    · rw [if_pos c, Int.tmod_eq_emod_of_nonneg h0, Int.tdiv_eq_ediv_of_nonneg h0, wrap_id (x := 128 + n % 128) (by omega) (by omega), wrap_id (x := n / 128) (by omega) (by omega), wrap8 (x := 128 + n % 128) (by omega) (by omega)]
      refine Ev.dp c (Ev.pos rfl (Ev.dp (by rw [strOf_size]; unfold big; simp; omega) (Ev.pos rfl ?_)))
      refine (specVar_l d (n / 128) _ (by omega) (by omega) (by omega) (by rw [ByteArray.size_append, strOf_size]; simp; omega)).rw ?_
      rw [ByteArray.append_assoc, strOf_app]; rfl
    · rw [if_neg c]
      refine Ev.dn c ?_
      rw [wrap8 h0 (by omega)]
      exact Ev.dp (by rw [strOf_size]; unfold big; simp; omega) (Ev.cst rfl)
theorem implVar_l : ∀ (d : Nat) (n : Int) (l : List Int), 0 ≤ n → n < 128 * 128 ^ d → n < 9223372036854775808 → l.length + d ≤ 1000 → Ev (fun k => impl_VarOf.l0 k n l) (one (strOf (l ++ vl d n)))
  | 0, n, l, h0, h1, h2, hs => by
    simp only [Int.pow_zero] at h1
    refine Ev.succ ?_
    show Ev (fun k => impl_VarOf.l0_ k (impl_VarOf.l0 k) n l) _
    unfold impl_VarOf.l0_
    rw [wrap8 h0 (by omega)]
    exact Ev.dn (by omega) (Ev.dp (show (l.length + [n].length) * 1 ≤ _ by simp; omega) (Ev.cst rfl))
  | d + 1, n, l, h0, h1, h2, hs => by
    rw [Int.pow_succ] at h1
    refine Ev.succ ?_
    show Ev (fun k => impl_VarOf.l0_ k (impl_VarOf.l0 k) n l) _
    unfold impl_VarOf.l0_ vl
    by_cases c : 127 < n
    · rw [if_pos c, band127 h0 h2, bor128 (by omega) (by omega), wrap8 (x := n % 128 + 128) (by omega) (by omega), shr7]
      refine Ev.dp c (Ev.dp (show (l.length + [n % 128 + 128].length) * 1 ≤ _ by simp; omega) (Ev.pos rfl ?_))
      refine (implVar_l d (n / 128) _ (by omega) (by omega) (by omega) (by simp; omega)).rw ?_
      rw [Int.add_comm, List.append_assoc]; rfl
    · rw [if_neg c]
      refine Ev.dn c ?_
      rw [wrap8 h0 (by omega)]
      exact Ev.dp (show (l.length + [n].length) * 1 ≤ _ by simp; omega) (Ev.cst rfl)
/-- The bytes of a number. -/
def varB (n : Int) : ByteArray := bif inB 0 4294967295 n then strOf (vl 4 n) else ByteArray.empty
theorem varB_size (n : Int) : (varB n).size ≤ 5 := by
  unfold varB
  cases inB 0 4294967295 n with
  | true => rw [cond_true, strOf_size]; exact vl_len 4 n
  | false => show (0 : Nat) ≤ 5; omega
theorem specVar (n : Int) : Ev (fun k => spec_VarOf.f k n) (one (varB n)) := by
  unfold spec_VarOf.f varB
  refine Ev.bind (Ev.all fun k => specIn k _ _ _) ?_
  cases h : inB 0 4294967295 n with
  | false => exact Ev.pos rfl (Ev.cst rfl)
  | true =>
    simp only [inB, Bool.and_eq_true, decide_eq_true_eq] at h
    refine Ev.neg rfl ((specVar_l 4 n ByteArray.empty h.1 (by have : (128 : Int) * 128 ^ 4 = 34359738368 := rfl; omega) (by omega) (by decide)).rw ?_)
    rw [ByteArray.empty_append]; rfl
theorem implVar (n : Int) : Ev (fun k => impl_VarOf.f k n) (one (varB n)) := by
  unfold impl_VarOf.f varB
  refine Ev.bind (Ev.all fun k => implIn k _ _ _) ?_
  cases h : inB 0 4294967295 n with
  | false => exact Ev.pos rfl (Ev.cst rfl)
  | true =>
    simp only [inB, Bool.and_eq_true, decide_eq_true_eq] at h
    exact Ev.neg rfl ((implVar_l 4 n [] h.1 (by have : (128 : Int) * 128 ^ 4 = 34359738368 := rfl; omega) (by omega) (by decide)).rw rfl)
/-! ### the sum -/
def crcBit (c : Int) : Int := bif decide (band .u32 c 1 = 1) then bxor .u32 (V.shr .u32 c 1) 3988292384 else V.shr .u32 c 1
def crcBits : Nat → Int → Int
  | 0, c => c
  | d + 1, c => crcBits d (crcBit c)
def crcFrom (s : ByteArray) : Nat → Nat → Int → Int
  | 0, _, c => c
  | d + 1, i, c => crcFrom s d (i + 1) (crcBits 8 (bxor .u32 c (IntKind.wrap .u32 (byteAt s i))))
theorem specCrc_1 (s : ByteArray) (i : Nat) (hi : i < 9223372036854775807) {r : Int} : ∀ (d j : Nat) (c : Int), j + d = 8 → Ev (fun k => spec_Crc.l0 k s (crcBits d c) ((i + 1 : Nat) : Int)) (one r) → Ev (fun k => spec_Crc.l1 k s c (i : Int) (j : Int)) (one r)
  | 0, j, c, hj, h => by
    obtain rfl : j = 8 := by omega
    refine Ev.succ ?_
    show Ev (fun k => spec_Crc.l1_ k (spec_Crc.l0 k) (spec_Crc.l1 k) s c (i : Int) ((8 : Nat) : Int)) _
    unfold spec_Crc.l1_
    rw [wrap_nat hi]
    exact Ev.dn (by decide) h
  | d + 1, j, c, hj, h => by
    have ih := specCrc_1 s i hi d (j + 1) (crcBit c) (by omega) h
    refine Ev.succ ?_
    show Ev (fun k => spec_Crc.l1_ k (spec_Crc.l0 k) (spec_Crc.l1 k) s c _ _) _
    unfold spec_Crc.l1_
    rw [wrap_nat (show j < 9223372036854775807 by omega)]
    refine Ev.dp (show (j : Int) < 8 by omega) ?_
    unfold crcBit at ih
    cases hb : decide (band .u32 c 1 = 1) with
    | true => rw [hb] at ih; exact Ev.pos rfl (Ev.pos rfl ih)
    | false => rw [hb] at ih; exact Ev.neg rfl (Ev.pos rfl ih)
theorem specCrc_0 (s : ByteArray) (hs : s.size < 9223372036854775807) : ∀ (d i : Nat) (c : Int), i + d = s.size → Ev (fun k => spec_Crc.l0 k s c (i : Int)) (one (IntKind.wrap .i64 (bxor .u32 (crcFrom s d i c) 4294967295)))
  | 0, i, c, hi => by
    obtain rfl : i = s.size := by omega
    refine Ev.succ ?_
    show Ev (fun k => spec_Crc.l0_ k (spec_Crc.l0 k) (spec_Crc.l1 k) s c _) _
    unfold spec_Crc.l0_
    exact Ev.dn (by omega) (Ev.cst rfl)
  | d + 1, i, c, hi => by
    refine Ev.succ ?_
    show Ev (fun k => spec_Crc.l0_ k (spec_Crc.l0 k) (spec_Crc.l1 k) s c _) _
    unfold spec_Crc.l0_
    refine Ev.dp (by omega) (Ev.dd (by omega) (by omega) ?_)
    rw [Int.toNat_natCast]
    exact specCrc_1 s i (by omega) 8 0 _ rfl (specCrc_0 s hs d (i + 1) _ (by omega))
theorem bxor_comm (x y : Int) : bxor .u32 x y = bxor .u32 y x := by
  unfold bxor
  rw [BitVec.xor_comm]
theorem implCrc_1 (s : ByteArray) (i : Nat) (hi : i < 9223372036854775807) {r : Int} : ∀ (d j : Nat) (c : Int), j + d = 8 → Ev (fun k => impl_Crc.l0 k s (crcBits d c) ((s.size : Nat) : Int) ((i + 1 : Nat) : Int)) (one r) → Ev (fun k => impl_Crc.l1 k s c ((s.size : Nat) : Int) (i : Int) (j : Int)) (one r)
  | 0, j, c, hj, h => by
    obtain rfl : j = 8 := by omega
    refine Ev.succ ?_
    show Ev (fun k => impl_Crc.l1_ k (impl_Crc.l0 k) (impl_Crc.l1 k) s c ((s.size : Nat) : Int) (i : Int) ((8 : Nat) : Int)) _
    unfold impl_Crc.l1_
    rw [wrap_nat hi]
    exact Ev.dn (by decide) h
  | d + 1, j, c, hj, h => by
    have ih := implCrc_1 s i hi d (j + 1) (crcBit c) (by omega) h
    refine Ev.succ ?_
    show Ev (fun k => impl_Crc.l1_ k (impl_Crc.l0 k) (impl_Crc.l1 k) s c _ _ _) _
    unfold impl_Crc.l1_
    rw [wrap_nat (show j < 9223372036854775807 by omega)]
    refine Ev.dp (show (j : Int) < 8 by omega) (Ev.pos rfl ?_)
    unfold crcBit at ih
    cases hb : decide (band .u32 c 1 = 1) with
    | true => rw [hb] at ih; exact Ev.pos rfl ih
    | false => rw [hb] at ih; exact Ev.neg rfl ih
theorem implCrc_0 (s : ByteArray) (hs : s.size < 9223372036854775807) : ∀ (d i : Nat) (c : Int), i + d = s.size → Ev (fun k => impl_Crc.l0 k s c ((s.size : Nat) : Int) (i : Int)) (one (IntKind.wrap .i64 (bxor .u32 (crcFrom s d i c) 4294967295)))
  | 0, i, c, hi => by
    obtain rfl : i = s.size := by omega
    refine Ev.succ ?_
    show Ev (fun k => impl_Crc.l0_ k (impl_Crc.l0 k) (impl_Crc.l1 k) s c _ _) _
    unfold impl_Crc.l0_
    refine Ev.dn (by omega) (Ev.cst ?_)
    rw [bxor_comm]; rfl
  | d + 1, i, c, hi => by
    refine Ev.succ ?_
    show Ev (fun k => impl_Crc.l0_ k (impl_Crc.l0 k) (impl_Crc.l1 k) s c _ _) _
    unfold impl_Crc.l0_
    refine Ev.dp (by omega) (Ev.dd (by omega) (by omega) ?_)
    rw [Int.toNat_natCast]
    exact implCrc_1 s i (by omega) 8 0 _ rfl (implCrc_0 s hs d (i + 1) _ (by omega))
def crcV (s : ByteArray) : Int := IntKind.wrap .i64 (bxor .u32 (crcFrom s s.size 0 4294967295) 4294967295)
def sumB4 (s : ByteArray) : ByteArray := strOf [IntKind.wrap .u8 (V.shr .i64 (crcV s) 24), IntKind.wrap .u8 (V.shr .i64 (crcV s) 16), IntKind.wrap .u8 (V.shr .i64 (crcV s) 8), IntKind.wrap .u8 (crcV s)]
theorem sumB4_size (s : ByteArray) : (sumB4 s).size = 4 := by unfold sumB4; rw [strOf_size]; rfl
theorem specSum (s : ByteArray) (hs : s.size < 9223372036854775807) : Ev (fun k => spec_l6Sum.f k s) (one (sumB4 s)) := by
  unfold spec_l6Sum.f spec_Crc.f
  exact Ev.bind (specCrc_0 s hs s.size 0 _ (by omega)) (Ev.pos rfl (Ev.pos rfl (Ev.pos rfl (Ev.cst rfl))))
theorem implSum (s : ByteArray) (hs : s.size < 9223372036854775807) : Ev (fun k => impl_crcBytes.f k s) (one (sumB4 s)) := by
  unfold impl_crcBytes.f impl_Crc.f
  exact Ev.bind (implCrc_0 s hs s.size 0 _ (by omega)) (Ev.pos rfl (Ev.pos rfl (Ev.pos rfl (Ev.cst rfl))))
end Go.Proofs.Ytkfehogikjcgkaa.V
namespace Go.Proofs.Ytkfehogikjcgkaa.V
open Go
set_option linter.unusedVariables false
set_option linter.unusedSimpArgs false
def shapeB (m : tModuleD) : Bool := inB 1 3 (m.1.length : Int) && m.1.all (funcB (m.1.length : Int))
theorem specShape {m : tModuleD} (hm : Small tModule m) : Ev (fun k => spec_ShapeOk.f k m) (one (shapeB m)) := by
  have hs := hm.1
  have hlen : m.1.length ≤ 1048576 := hs.1
  unfold spec_ShapeOk.f shapeB
  refine Ev.bind (Ev.all fun k => specIn k _ _ _) (ev_and ?_)
  exact each_ev (z := tFuncZ) (l := m.1) (L := fun k a => spec_ShapeOk.l0 k a m.1) (V := fun l => one (l.all (funcB (m.1.length : Int)))) (q := fun k y g => Option.bind (spec_l2Func.f k y ((List.length m.1 : Nat) : Int)) fun r1 => bif !r1.1.1.1 then some (((false, ()), ()), ()) else g k)
    (by omega) (fun k a => rfl) (Ev.cst rfl) fun y l g hy hg => by
      refine Ev.bind (specFunc (hs.2 y hy) (by omega) (by omega)) ?_
      rw [List.all_cons]
      exact ev_and hg
theorem implFuncs {l : List tFuncD} (hs : Small (.list tFunc) l) {funcs : Int} (h2 : 0 ≤ funcs) (h3 : funcs ≤ 9223372036854775807) : Ev (fun k => slices_ContainsFunc_impl_Func_impl_Func.f k l funcs) (one (!l.all (funcB funcs))) := by
  have hl : l.length ≤ 1048576 := hs.1
  rw [← any_not]
  refine index_ev (z := tFuncZ) (L := fun k b a => slices_IndexFunc_impl_Func_impl_Func.l0 k l b a funcs) (q := fun k x => impl_ShapeOk_1.f k x funcs) (by omega) (fun k b a => rfl) fun x hx => ?_
  exact Ev.bind (implFunc (hs.2 x hx) h2 h3) (Ev.cst rfl)
theorem implShape {m : tModuleD} (hm : Small tModule m) : Ev (fun k => impl_ShapeOk.f k m) (one (shapeB m)) := by
  have hlen : m.1.length ≤ 1048576 := hm.1.1
  unfold impl_ShapeOk.f shapeB
  refine Ev.bind (Ev.all fun k => implIn k _ _ _) ?_
  cases inB 1 3 (m.1.length : Int) with
  | false => exact Ev.neg rfl (Ev.cst rfl)
  | true => exact Ev.pos rfl (Ev.bind (implFuncs hm.1 (by omega) (by omega)) (Ev.cst (by show some (one (!(!_))) = _; rw [Bool.not_not, Bool.true_and])))
end Go.Proofs.Ytkfehogikjcgkaa.V
namespace Go.Proofs.Ytkfehogikjcgkaa.V
open Go
set_option linter.unusedVariables false
set_option linter.unusedSimpArgs false
structure Fm (funcs : Int) (f : tFuncD) : Prop where
  p4 : f.1.length ≤ 4
  b1 : 1 ≤ f.2.2.1.length
  b10 : f.2.2.1.length ≤ 10
  cnt : cntB f ≤ 60
  pw : ∀ w ∈ f.1, wOk w = true
  ph : ∀ x ∈ f.2.2.1, ∀ p ∈ x.1, phiB (cntB f) p = true
  ins : ∀ x ∈ f.2.2.1, ∀ i ∈ x.2.1, instB (cntB f) funcs i = true
  tm : ∀ x ∈ f.2.2.1, termB (cntB f) (f.2.2.1.length : Int) x.2.2 = true
theorem inB_iff {lo hi x : Int} : inB lo hi x = true ↔ lo ≤ x ∧ x ≤ hi := by simp [inB]
theorem Fm.of {funcs : Int} {f : tFuncD} (h : funcB funcs f = true) : Fm funcs f := by
  simp only [funcB, Bool.and_eq_true, decide_eq_true_eq, List.all_eq_true, inB_iff, blockB] at h
  obtain ⟨⟨⟨⟨⟨h1, h2⟩, h3⟩, h4⟩, h5⟩, h6⟩ := h
  exact ⟨h1, by omega, by omega, h4, h5, fun x hx => (h6 x hx).1.1, fun x hx => (h6 x hx).1.2, fun x hx => (h6 x hx).2⟩
/-- How many ids a block gives. -/
def wB (x : tBlockD) : Int := ((x.1.length : Nat) : Int) + ((x.2.1.length : Nat) : Int)
theorem wB_nonneg (x : tBlockD) : 0 ≤ wB x := by unfold wB; omega
theorem cntB_eq (f : tFuncD) : cntB f = (f.1.length : Int) + sumB wB f.2.2.1 := rfl
theorem sumB_nonneg {α : Type} {w : α → Int} : ∀ {l : List α}, (∀ x ∈ l, 0 ≤ w x) → 0 ≤ sumB w l
  | [], _ => Int.le_refl _
  | x :: l, h => by
    have := h x (by simp)
    have := sumB_nonneg (l := l) fun y hy => h y (by simp [hy])
    simp only [sumB]; omega
theorem le_sumB {α : Type} {w : α → Int} {l : List α} (h : ∀ x ∈ l, 0 ≤ w x) {x : α} (hx : x ∈ l) : w x ≤ sumB w l := by
  induction l with
  | nil => cases hx
  | cons y l ih =>
    have hn := sumB_nonneg (l := l) fun z hz => h z (by simp [hz])
    simp only [sumB]
    rcases List.mem_cons.1 hx with rfl | hx
    · omega
    · have := ih (fun z hz => h z (by simp [hz])) hx
      have := h y (by simp)
      omega
theorem Fm.w60 {funcs : Int} {f : tFuncD} (h : Fm funcs f) {x : tBlockD} (hx : x ∈ f.2.2.1) : wB x ≤ 60 := by
  have := le_sumB (w := wB) (fun y _ => wB_nonneg y) hx
  have := h.cnt
  rw [cntB_eq] at this
  omega
theorem Fm.phis {funcs : Int} {f : tFuncD} (h : Fm funcs f) {x : tBlockD} (hx : x ∈ f.2.2.1) : x.1.length ≤ 60 ∧ x.2.1.length ≤ 60 := by
  have := h.w60 hx
  unfold wB at this
  omega
end Go.Proofs.Ytkfehogikjcgkaa.V
namespace Go.Proofs.Ytkfehogikjcgkaa.V
open Go
set_option linter.unusedVariables false
set_option linter.unusedSimpArgs false
def catB : List ByteArray → ByteArray
  | [] => ByteArray.empty
  | x :: l => x ++ catB l
theorem catB_size {c : Nat} : ∀ {l : List ByteArray}, (∀ x ∈ l, x.size ≤ c) → (catB l).size ≤ l.length * c
  | [], _ => by simp [catB]
  | x :: l, h => by
    have h1 := h x (by simp)
    have h2 := catB_size (l := l) fun y hy => h y (by simp [hy])
    simp only [catB, ByteArray.size_append, List.length_cons, Nat.add_mul, Nat.one_mul]
    omega
def varsB (l : List Int) : ByteArray := catB (l.map varB)
theorem varsB_size (l : List Int) : (varsB l).size ≤ l.length * 5 := by
  have := catB_size (c := 5) (l := l.map varB) fun x hx => by
    obtain ⟨n, _, rfl⟩ := List.mem_map.1 hx
    exact varB_size n
  rwa [List.length_map] at this
def listB (l : List Int) : ByteArray := varB (l.length : Int) ++ varsB l
theorem listB_size (l : List Int) : (listB l).size ≤ 5 + l.length * 5 := by
  unfold listB
  rw [ByteArray.size_append]
  have := varB_size (l.length : Int)
  have := varsB_size l
  omega
theorem Ev.big {R : Type} {a b : Nat} {f : Nat → Option R} {r : R} (h : a + b ≤ 1000000000) (e : Ev f r) : Ev (fun k => bif decide (a + b ≤ Go.Proofs.Ytkfehogikjcgkaa.V.big) then f k else none) r := Ev.dp (by unfold Go.Proofs.Ytkfehogikjcgkaa.V.big; omega) e
theorem specList_l (l : List Int) (hl : l.length ≤ 100000) : ∀ (d i : Nat) (s : ByteArray), i + d = l.length → s.size + d * 5 ≤ 1000000000 → Ev (fun k => spec_l6List.l0 k l s (i : Int)) (one (s ++ varsB (l.drop i))) := by
  intro d
  induction d with
  | zero =>
    intro i s hi hs
    obtain rfl : i = l.length := by omega
    refine Ev.succ ?_
    show Ev (fun k => spec_l6List.l0_ k (spec_l6List.l0 k) l s _) _
    unfold spec_l6List.l0_
    refine Ev.neg head_end (Ev.cst ?_)
    rw [List.drop_length]; show _ = some (one (s ++ ByteArray.empty)); rw [ByteArray.append_empty]
  | succ d ih =>
    intro i s hi hs
    have hlt : i < l.length := by omega
    have hv := varB_size l[i]
    refine Ev.succ ?_
    show Ev (fun k => spec_l6List.l0_ k (spec_l6List.l0 k) l s _) _
    unfold spec_l6List.l0_
    simp only [head_in hlt, head_0, Bool.and_self, cond_true, get_in hlt, wrap_nat (show i < 9223372036854775807 by omega)]
    refine Ev.bind (specVar _) (Ev.big (by show s.size + (varB l[i]).size ≤ _; omega) ?_)
    refine (ih (i + 1) (s ++ varB l[i]) (by omega) (by rw [ByteArray.size_append]; omega)).rw ?_
    rw [List.drop_eq_getElem_cons hlt, ByteArray.append_assoc]; rfl
theorem specList (l : List Int) (hl : l.length ≤ 100000) : Ev (fun k => spec_l6List.f k l) (one (listB l)) := by
  unfold spec_l6List.f
  have := varB_size (l.length : Int)
  exact Ev.bind (specVar _) ((specList_l l hl l.length 0 _ (by omega) (by show (varB _).size + _ ≤ _; omega)).rw (by rw [List.drop_zero]; rfl))
theorem write_ev {R : Type} {t s : ByteArray} {f : Nat → WrR → Option R} {r : R} (h : s.size + t.size ≤ 1000000000) (e : Ev (fun k => f k ((((t.size : Int), ()), ((), ()), ()), (s ++ t, ()))) r) : Ev (fun k => Option.bind (strings_Builder_WriteString.f k t s) (f k)) r := by
  refine Ev.bind (Ev.all fun k => ?_) e
  show writeF t s = _
  unfold writeF
  rw [dpos (show s.size + t.size ≤ 140737488355328 by omega)]; rfl
theorem implVars_l (l : List Int) (hl : l.length ≤ 100000) : ∀ (d i : Nat) (s : ByteArray), i + d = l.length → s.size + d * 5 ≤ 1000000000 → Ev (fun k => impl_vars.l0 k l ((l.length : Nat) : Int) (i : Int) s) (one (s ++ varsB (l.drop i))) := by
  intro d
  induction d with
  | zero =>
    intro i s hi hs
    obtain rfl : i = l.length := by omega
    refine Ev.succ ?_
    show Ev (fun k => impl_vars.l0_ k (impl_vars.l0 k) l _ _ s) _
    unfold impl_vars.l0_
    refine Ev.neg head_end (Ev.cst ?_)
    rw [List.drop_length]; show _ = some (one (s ++ ByteArray.empty)); rw [ByteArray.append_empty]
  | succ d ih =>
    intro i s hi hs
    have hlt : i < l.length := by omega
    have hv := varB_size l[i]
    refine Ev.succ ?_
    show Ev (fun k => impl_vars.l0_ k (impl_vars.l0 k) l _ _ s) _
    unfold impl_vars.l0_
    simp only [head_in hlt, head_0, Bool.and_self, cond_true, get_in hlt, wrap_nat (show i < 9223372036854775807 by omega)]
    refine Ev.bind (implVar _) (write_ev (by show s.size + (varB l[i]).size ≤ _; omega) ?_)
    refine (ih (i + 1) (s ++ varB l[i]) (by omega) (by rw [ByteArray.size_append]; omega)).rw ?_
    rw [List.drop_eq_getElem_cons hlt, ByteArray.append_assoc]; rfl
theorem implVars (l : List Int) (hl : l.length ≤ 100000) : Ev (fun k => impl_vars.f k l) (one (varsB l)) := by
  unfold impl_vars.f
  exact (implVars_l l hl l.length 0 ByteArray.empty (by omega) (by show 0 + _ ≤ _; omega)).rw (by rw [List.drop_zero, ByteArray.empty_append])
theorem vars1 (n : Int) : varsB [n] = varB n := by show varB n ++ ByteArray.empty = _; rw [ByteArray.append_empty]
theorem implList (l : List Int) (hl : l.length ≤ 100000) : Ev (fun k => impl_list.f k l) (one (listB l)) := by
  unfold impl_list.f
  have h1 := varB_size (l.length : Int)
  have h2 := varsB_size l
  refine Ev.bind (implVars [((l.length : Nat) : Int)] (by simp)) (Ev.bind (implVars l hl) (Ev.big ?_ (Ev.cst ?_)))
  · show (varsB [((l.length : Nat) : Int)]).size + (varsB l).size ≤ _
    rw [vars1]; omega
  · show some (one (varsB [((l.length : Nat) : Int)] ++ varsB l)) = _
    rw [vars1]; rfl
/-! ### instructions and ends -/
def hasB (op : Int) : Bool := decide (op = 21) || decide (op = 26)
def instY (i : tInstD) : ByteArray := bif hasB i.1 then ((varB i.1 ++ varB i.2.1) ++ varB i.2.2.2.2.2.1) ++ listB (opsB i) else (varB i.1 ++ varB i.2.1) ++ listB (opsB i)
def termY (t : tTermD) : ByteArray := bif decide (t.1 = 1) then varB t.1 ++ varB t.2.1 else bif decide (t.1 = 2) then varB t.1 ++ varB t.2.2.1 else bif decide (t.1 = 3) then ((varB t.1 ++ varB t.2.1) ++ varB t.2.2.1) ++ varB t.2.2.2.1 else varB t.1
theorem termY_size (t : tTermD) : (termY t).size ≤ 20 := by
  have h1 := varB_size t.1
  have h2 := varB_size t.2.1
  have h3 := varB_size t.2.2.1
  have h4 := varB_size t.2.2.2.1
  unfold termY
  cases decide (t.1 = 1) <;> cases decide (t.1 = 2) <;> cases decide (t.1 = 3) <;> simp only [cond_true, cond_false, ByteArray.size_append] <;> omega
theorem instY_size (i : tInstD) {c : Nat} (h : (opsB i).length ≤ c) : (instY i).size ≤ 20 + c * 5 := by
  have h1 := varB_size i.1
  have h2 := varB_size i.2.1
  have h3 := varB_size i.2.2.2.2.2.1
  have h4 := listB_size (opsB i)
  unfold instY
  cases hasB i.1 <;> simp only [cond_true, cond_false, ByteArray.size_append] <;> omega
theorem specInstY {i : tInstD} (h : i.2.2.2.2.2.2.1.length ≤ 1048576) (ho : (opsB i).length ≤ 100) : Ev (fun k => spec_l6Inst.f k i) (one (instY i)) := by
  have h1 := varB_size i.1
  have h2 := varB_size i.2.1
  have h3 := varB_size i.2.2.2.2.2.1
  have h4 := listB_size (opsB i)
  unfold spec_l6Inst.f instY hasB
  refine Ev.bind (specVar _) (Ev.bind (specVar _) (Ev.big (by show (varB i.1).size + (varB i.2.1).size ≤ _; omega) ?_))
  have imm : Ev (fun k => Option.bind (spec_VarOf.f k i.2.2.2.2.2.1) fun r3 => bif decide (ByteArray.size (varB i.1 ++ varB i.2.1) + ByteArray.size r3.1.1.1 ≤ big) then (Option.bind (spec_l2Operands.f k i) fun r4 => Option.bind (spec_l6List.f k r4.2.1) fun r5 => bif decide (ByteArray.size ((varB i.1 ++ varB i.2.1) ++ r3.1.1.1) + ByteArray.size r5.1.1.1 ≤ big) then (some (one (((varB i.1 ++ varB i.2.1) ++ r3.1.1.1) ++ r5.1.1.1))) else none) else none) (one (((varB i.1 ++ varB i.2.1) ++ varB i.2.2.2.2.2.1) ++ listB (opsB i))) := by
    refine Ev.bind (specVar _) (Ev.big (by show (varB i.1 ++ varB i.2.1).size + (varB _).size ≤ _; rw [ByteArray.size_append]; omega) (Ev.bind (Ev.all fun k => specOps k h) (Ev.bind (specList _ (by show (opsB i).length ≤ _; omega)) (Ev.big ?_ (Ev.cst rfl)))))
    show ((varB i.1 ++ varB i.2.1) ++ varB i.2.2.2.2.2.1).size + (listB (opsB i)).size ≤ _
    rw [ByteArray.size_append, ByteArray.size_append]; omega
  by_cases c : i.1 = 21
  · exact (Ev.dp c imm).rw (by rw [dpos c]; rfl)
  · by_cases c' : i.1 = 26
    · exact (Ev.dn c (Ev.dp c' imm)).rw (by rw [dpos c', Bool.or_true]; rfl)
    · refine Ev.dn c (Ev.dn c' (Ev.bind (Ev.all fun k => specOps k h) (Ev.bind (specList _ (by show (opsB i).length ≤ _; omega)) (Ev.big ?_ (Ev.cst (by rw [dneg c, dneg c']; rfl))))))
      show (varB i.1 ++ varB i.2.1).size + (listB (opsB i)).size ≤ _
      rw [ByteArray.size_append]; omega
theorem specTermY (t : tTermD) : Ev (fun k => spec_l6Term.f k t) (one (termY t)) := by
  have h1 := varB_size t.1
  have h2 := varB_size t.2.1
  have h3 := varB_size t.2.2.1
  have h4 := varB_size t.2.2.2.1
  unfold spec_l6Term.f termY
  by_cases c1 : t.1 = 1
  · rw [dpos c1]
    exact Ev.pos rfl (Ev.bind (specVar _) (Ev.bind (specVar _) (Ev.big (by show (varB _).size + (varB _).size ≤ _; omega) (Ev.cst rfl))))
  · rw [dneg c1]
    refine Ev.neg rfl ?_
    by_cases c2 : t.1 = 2
    · rw [dpos c2]
      exact Ev.pos rfl (Ev.bind (specVar _) (Ev.bind (specVar _) (Ev.big (by show (varB _).size + (varB _).size ≤ _; omega) (Ev.cst rfl))))
    · rw [dneg c2]
      refine Ev.neg rfl ?_
      by_cases c3 : t.1 = 3
      · rw [dpos c3]
        refine Ev.pos rfl (Ev.bind (specVar _) (Ev.bind (specVar _) (Ev.big (by show (varB _).size + (varB _).size ≤ _; omega) (Ev.bind (specVar _) (Ev.big ?_ (Ev.bind (specVar _) (Ev.big ?_ (Ev.cst rfl))))))))
        · show (varB t.1 ++ varB t.2.1).size + (varB t.2.2.1).size ≤ _
          rw [ByteArray.size_append]; omega
        · show ((varB t.1 ++ varB t.2.1) ++ varB t.2.2.1).size + (varB t.2.2.2.1).size ≤ _
          rw [ByteArray.size_append, ByteArray.size_append]; omega
      · rw [dneg c3]
        exact Ev.neg rfl (Ev.bind (specVar _) (Ev.cst rfl))
theorem implTermY (t : tTermD) : Ev (fun k => impl_termBytes.f k t) (one (termY t)) := by
  unfold impl_termBytes.f termY
  have two : ∀ a b, varsB [a, b] = varB a ++ varB b := fun a b => by show varB a ++ (varB b ++ ByteArray.empty) = _; rw [ByteArray.append_empty]
  have four : ∀ a b c d, varsB [a, b, c, d] = ((varB a ++ varB b) ++ varB c) ++ varB d := fun a b c d => by show varB a ++ (varB b ++ (varB c ++ (varB d ++ ByteArray.empty))) = _; rw [ByteArray.append_empty, ByteArray.append_assoc, ByteArray.append_assoc]
  by_cases c1 : t.1 = 1
  · rw [dpos c1]
    exact Ev.pos rfl (Ev.bind (implVars [t.1, t.2.1] (by simp)) (Ev.cst (by rw [two]; rfl)))
  · rw [dneg c1]
    refine Ev.neg rfl ?_
    by_cases c2 : t.1 = 2
    · rw [dpos c2]
      exact Ev.pos rfl (Ev.bind (implVars [t.1, t.2.2.1] (by simp)) (Ev.cst (by rw [two]; rfl)))
    · rw [dneg c2]
      refine Ev.neg rfl ?_
      by_cases c3 : t.1 = 3
      · rw [dpos c3]
        exact Ev.pos rfl (Ev.bind (implVars [t.1, t.2.1, t.2.2.1, t.2.2.2.1] (by simp)) (Ev.cst (by rw [four]; rfl)))
      · rw [dneg c3]
        exact Ev.neg rfl (Ev.bind (implVars [t.1] (by simp)) (Ev.cst (by rw [vars1]; rfl)))
end Go.Proofs.Ytkfehogikjcgkaa.V
namespace Go.Proofs.Ytkfehogikjcgkaa.V
open Go
set_option linter.unusedVariables false
set_option linter.unusedSimpArgs false
structure BSm (x : tBlockD) : Prop where
  ph : x.1.length ≤ 60
  ins : x.2.1.length ≤ 60
  phs : ∀ p ∈ x.1, p.2.1.length ≤ 10
  args : ∀ i ∈ x.2.1, i.2.2.2.2.2.2.1.length ≤ 4
structure FSm (f : tFuncD) : Prop where
  p4 : f.1.length ≤ 4
  b10 : f.2.2.1.length ≤ 10
  bl : ∀ x ∈ f.2.2.1, BSm x
theorem FSm.of {funcs : Int} {f : tFuncD} (h : Fm funcs f) : FSm f := by
  refine ⟨h.p4, h.b10, fun x hx => ⟨(h.phis hx).1, (h.phis hx).2, fun p hp => ?_, fun i hi => ?_⟩⟩
  · have := h.ph x hx p hp
    simp only [phiB, Bool.and_eq_true, decide_eq_true_eq] at this
    exact this.1.2
  · have := h.ins x hx i hi
    simp only [instB, Bool.and_eq_true, decide_eq_true_eq] at this
    exact this.1.1.1.1.1.2
theorem opsB_4 {i : tInstD} (h : i.2.2.2.2.2.2.1.length ≤ 4) : (opsB i).length ≤ 4 := by
  unfold opsB
  cases inB 1 17 i.1 <;> cases decide (i.1 = 24) <;> cases inB 18 20 i.1 <;> cases decide (i.1 = 23) <;> cases decide (i.1 = 25) <;> cases decide (i.1 = 27) <;> cases decide (i.1 = 22) <;> cases decide (i.1 = 26) <;> simp only [cond_true, cond_false] <;> first | exact h | simp
def phiY (p : tPhiD) : ByteArray := varB p.1 ++ listB p.2.1
theorem phiY_size {p : tPhiD} (h : p.2.1.length ≤ 10) : (phiY p).size ≤ 60 := by
  have h1 := varB_size p.1
  have h2 := listB_size p.2.1
  unfold phiY; rw [ByteArray.size_append]; omega
def phisY (l : List tPhiD) : ByteArray := catB (l.map phiY)
def instsY (l : List tInstD) : ByteArray := catB (l.map instY)
theorem phisY_size {l : List tPhiD} (h : ∀ p ∈ l, p.2.1.length ≤ 10) : (phisY l).size ≤ l.length * 60 := by
  have := catB_size (c := 60) (l := l.map phiY) fun y hy => by
    obtain ⟨p, hp, rfl⟩ := List.mem_map.1 hy
    exact phiY_size (h p hp)
  rwa [List.length_map] at this
theorem instsY_size {l : List tInstD} (h : ∀ i ∈ l, i.2.2.2.2.2.2.1.length ≤ 4) : (instsY l).size ≤ l.length * 40 := by
  have := catB_size (c := 40) (l := l.map instY) fun y hy => by
    obtain ⟨p, hp, rfl⟩ := List.mem_map.1 hy
    exact instY_size p (opsB_4 (h p hp))
  rwa [List.length_map] at this
def blockY (x : tBlockD) : ByteArray := (((varB (x.1.length : Int) ++ phisY x.1) ++ varB (x.2.1.length : Int)) ++ instsY x.2.1) ++ termY x.2.2
theorem blockY_size {x : tBlockD} (h : BSm x) : (blockY x).size ≤ 7000 := by
  have h1 := varB_size (x.1.length : Int)
  have h2 := varB_size (x.2.1.length : Int)
  have h3 := phisY_size h.phs
  have h4 := instsY_size h.args
  have h5 := termY_size x.2.2
  have h6 := h.ph
  have h7 := h.ins
  unfold blockY
  simp only [ByteArray.size_append]
  omega
def blocksY (l : List tBlockD) : ByteArray := catB (l.map blockY)
theorem blocksY_size {l : List tBlockD} (h : ∀ x ∈ l, BSm x) : (blocksY l).size ≤ l.length * 7000 := by
  have := catB_size (c := 7000) (l := l.map blockY) fun y hy => by
    obtain ⟨p, hp, rfl⟩ := List.mem_map.1 hy
    exact blockY_size (h p hp)
  rwa [List.length_map] at this
def funcY (f : tFuncD) : ByteArray := ((varB f.2.1 ++ listB f.1) ++ varB (f.2.2.1.length : Int)) ++ blocksY f.2.2.1
theorem funcY_size {f : tFuncD} (h : FSm f) : (funcY f).size ≤ 80000 := by
  have h1 := varB_size f.2.1
  have h2 := varB_size (f.2.2.1.length : Int)
  have h3 := listB_size f.1
  have h4 := blocksY_size h.bl
  have h6 := h.p4
  have h7 := h.b10
  unfold funcY
  simp only [ByteArray.size_append]
  omega
def funcsY (l : List tFuncD) : ByteArray := catB (l.map funcY)
theorem app_cons (s x y : ByteArray) : s ++ (x ++ y) = (s ++ x) ++ y := (ByteArray.append_assoc).symm
theorem app_nil (s : ByteArray) : s ++ catB [] = s := ByteArray.append_empty
/-! ### the specification -/
section
variable {r : (((ByteArray × Unit) × Unit) × Unit)} {fs : List tFuncD} {f : tFuncD} {x : tBlockD}
theorem specInsts_l {a b : Int} (hx : BSm x) (hb0 : 0 ≤ b) (hb : b < 9223372036854775807) : ∀ (d i : Nat) (s : ByteArray), i + d = x.2.1.length → s.size + d * 40 ≤ 900000000 → Ev (fun k => spec_l6Body.l1 k ((s ++ instsY (x.2.1.drop i)) ++ termY x.2.2) a (b + 1) fs f) r → Ev (fun k => spec_l6Body.l3 k s a b (i : Int) fs f x) r := by
  intro d
  induction d with
  | zero =>
    intro i s hi hs h
    obtain rfl : i = x.2.1.length := by omega
    rw [List.drop_length] at h
    refine Ev.succ ?_
    show Ev (fun k => spec_l6Body.l3_ k (spec_l6Body.l0 k) (spec_l6Body.l1 k) (spec_l6Body.l2 k) (spec_l6Body.l3 k) s a b _ fs f x) _
    unfold spec_l6Body.l3_
    have ht := termY_size x.2.2
    refine Ev.neg head_end (Ev.bind (specTermY _) (Ev.big (by show s.size + (termY x.2.2).size ≤ _; omega) ?_))
    rw [wrap_id (x := b + 1) (by omega) (by omega)]
    have e : s ++ instsY [] = s := app_nil s
    rw [e] at h
    exact h
  | succ d ih =>
    intro i s hi hs h
    have hlt : i < x.2.1.length := by omega
    have hm : x.2.1[i] ∈ x.2.1 := List.getElem_mem hlt
    have hsz := instY_size x.2.1[i] (opsB_4 (hx.args _ hm))
    have hai := hx.args _ hm
    have hx60 := hx.ins
    refine Ev.succ ?_
    show Ev (fun k => spec_l6Body.l3_ k (spec_l6Body.l0 k) (spec_l6Body.l1 k) (spec_l6Body.l2 k) (spec_l6Body.l3 k) s a b _ fs f x) _
    unfold spec_l6Body.l3_
    simp only [head_in hlt, head_0, Bool.and_self, cond_true, get_in hlt, wrap_nat (show i < 9223372036854775807 by omega)]
    refine Ev.bind (specInstY (by omega) (by have := opsB_4 hai; omega)) (Ev.big (by show s.size + (instY x.2.1[i]).size ≤ _; omega) ?_)
    refine ih (i + 1) (s ++ instY x.2.1[i]) (by omega) (by rw [ByteArray.size_append]; omega) ?_
    rw [List.drop_eq_getElem_cons hlt] at h
    have e : s ++ instsY (x.2.1[i] :: x.2.1.drop (i + 1)) = (s ++ instY x.2.1[i]) ++ instsY (x.2.1.drop (i + 1)) := app_cons _ _ _
    rw [e] at h
    exact h
theorem specPhis_l {a b : Int} (hx : BSm x) (hb0 : 0 ≤ b) (hb : b < 9223372036854775807) : ∀ (d i : Nat) (s : ByteArray), i + d = x.1.length → s.size + d * 60 ≤ 800000000 → Ev (fun k => spec_l6Body.l1 k ((((s ++ phisY (x.1.drop i)) ++ varB (x.2.1.length : Int)) ++ instsY x.2.1) ++ termY x.2.2) a (b + 1) fs f) r → Ev (fun k => spec_l6Body.l2 k s a b (i : Int) fs f x) r := by
  intro d
  induction d with
  | zero =>
    intro i s hi hs h
    obtain rfl : i = x.1.length := by omega
    rw [List.drop_length] at h
    refine Ev.succ ?_
    show Ev (fun k => spec_l6Body.l2_ k (spec_l6Body.l0 k) (spec_l6Body.l1 k) (spec_l6Body.l2 k) (spec_l6Body.l3 k) s a b _ fs f x) _
    unfold spec_l6Body.l2_
    have ht := varB_size (x.2.1.length : Int)
    have hi6 := hx.ins
    refine Ev.neg head_end (Ev.bind (specVar _) (Ev.big (by show s.size + (varB (x.2.1.length : Int)).size ≤ _; omega) ?_))
    have e : s ++ phisY [] = s := app_nil s
    rw [e] at h
    refine specInsts_l hx hb0 hb x.2.1.length 0 (s ++ varB (x.2.1.length : Int)) (by omega) (by rw [ByteArray.size_append]; omega) ?_
    exact h
  | succ d ih =>
    intro i s hi hs h
    have hlt : i < x.1.length := by omega
    have hm : x.1[i] ∈ x.1 := List.getElem_mem hlt
    have hpi := hx.phs _ hm
    have h1 := varB_size x.1[i].1
    have h2 := listB_size x.1[i].2.1
    have hx60 := hx.ph
    refine Ev.succ ?_
    show Ev (fun k => spec_l6Body.l2_ k (spec_l6Body.l0 k) (spec_l6Body.l1 k) (spec_l6Body.l2 k) (spec_l6Body.l3 k) s a b _ fs f x) _
    unfold spec_l6Body.l2_
    simp only [head_in hlt, head_0, Bool.and_self, cond_true, get_in hlt, wrap_nat (show i < 9223372036854775807 by omega)]
    refine Ev.bind (specVar _) (Ev.big (by show s.size + (varB x.1[i].1).size ≤ _; omega) (Ev.bind (specList _ (by omega)) (Ev.big (by show (s ++ varB x.1[i].1).size + (listB x.1[i].2.1).size ≤ _; rw [ByteArray.size_append]; omega) ?_)))
    refine ih (i + 1) ((s ++ varB x.1[i].1) ++ listB x.1[i].2.1) (by omega) (by rw [ByteArray.size_append, ByteArray.size_append]; omega) ?_
    rw [List.drop_eq_getElem_cons hlt] at h
    have e : s ++ phisY (x.1[i] :: x.1.drop (i + 1)) = ((s ++ varB x.1[i].1) ++ listB x.1[i].2.1) ++ phisY (x.1.drop (i + 1)) := by
      show s ++ ((varB x.1[i].1 ++ listB x.1[i].2.1) ++ phisY (x.1.drop (i + 1))) = _
      rw [app_cons, app_cons]
    rw [e] at h
    exact h
theorem specBlocks_l {a : Int} (hf : FSm f) (ha0 : 0 ≤ a) (ha : a < 9223372036854775807) : ∀ (d i : Nat) (s : ByteArray), i + d = f.2.2.1.length → s.size + d * 7000 ≤ 700000000 → Ev (fun k => spec_l6Body.l0 k (s ++ blocksY (f.2.2.1.drop i)) (a + 1) fs) r → Ev (fun k => spec_l6Body.l1 k s a (i : Int) fs f) r := by
  intro d
  induction d with
  | zero =>
    intro i s hi hs h
    obtain rfl : i = f.2.2.1.length := by omega
    rw [List.drop_length] at h
    refine Ev.succ ?_
    show Ev (fun k => spec_l6Body.l1_ k (spec_l6Body.l0 k) (spec_l6Body.l1 k) (spec_l6Body.l2 k) (spec_l6Body.l3 k) s a _ fs f) _
    unfold spec_l6Body.l1_
    refine Ev.neg head_end ?_
    rw [wrap_id (x := a + 1) (by omega) (by omega)]
    have e : s ++ blocksY [] = s := app_nil s
    rw [e] at h
    exact h
  | succ d ih =>
    intro i s hi hs h
    have hlt : i < f.2.2.1.length := by omega
    have hm : f.2.2.1[i] ∈ f.2.2.1 := List.getElem_mem hlt
    have hx := hf.bl _ hm
    have h1 := varB_size (f.2.2.1[i].1.length : Int)
    have h2 := blockY_size hx
    have h3 := hx.ph
    have h10 := hf.b10
    refine Ev.succ ?_
    show Ev (fun k => spec_l6Body.l1_ k (spec_l6Body.l0 k) (spec_l6Body.l1 k) (spec_l6Body.l2 k) (spec_l6Body.l3 k) s a _ fs f) _
    unfold spec_l6Body.l1_
    simp only [head_in hlt, head_0, Bool.and_self, cond_true, get_in hlt]
    refine Ev.bind (specVar _) (Ev.big (by show s.size + (varB (f.2.2.1[i].1.length : Int)).size ≤ _; omega) ?_)
    refine specPhis_l hx (by omega) (by omega) f.2.2.1[i].1.length 0 (s ++ varB (f.2.2.1[i].1.length : Int)) (by omega) (by rw [ByteArray.size_append]; omega) ?_
    rw [List.drop_zero]
    have e0 : (i : Int) + 1 = ((i + 1 : Nat) : Int) := by omega
    rw [e0]
    have e1 : ((((s ++ varB (f.2.2.1[i].1.length : Int)) ++ phisY f.2.2.1[i].1) ++ varB (f.2.2.1[i].2.1.length : Int)) ++ instsY f.2.2.1[i].2.1) ++ termY f.2.2.1[i].2.2 = s ++ blockY f.2.2.1[i] := by
      unfold blockY; simp only [ByteArray.append_assoc]
    refine ih (i + 1) _ (by omega) ?_ ?_
    · show ((((s ++ varB (f.2.2.1[i].1.length : Int)) ++ phisY f.2.2.1[i].1) ++ varB (f.2.2.1[i].2.1.length : Int)) ++ instsY f.2.2.1[i].2.1 ++ termY f.2.2.1[i].2.2).size + _ ≤ _
      rw [e1, ByteArray.size_append]; omega
    · rw [List.drop_eq_getElem_cons hlt] at h
      have e : s ++ blocksY (f.2.2.1[i] :: f.2.2.1.drop (i + 1)) = (s ++ blockY f.2.2.1[i]) ++ blocksY (f.2.2.1.drop (i + 1)) := app_cons _ _ _
      rw [e, ← e1] at h
      exact h
end
theorem specFuncs_l {l : List tFuncD} (hl : l.length ≤ 3) (hf : ∀ f ∈ l, FSm f) : ∀ (d i : Nat) (s : ByteArray), i + d = l.length → s.size + d * 80000 ≤ 600000000 → Ev (fun k => spec_l6Body.l0 k s (i : Int) l) (one (s ++ funcsY (l.drop i))) := by
  intro d
  induction d with
  | zero =>
    intro i s hi hs
    obtain rfl : i = l.length := by omega
    refine Ev.succ ?_
    show Ev (fun k => spec_l6Body.l0_ k (spec_l6Body.l0 k) (spec_l6Body.l1 k) (spec_l6Body.l2 k) (spec_l6Body.l3 k) s _ l) _
    unfold spec_l6Body.l0_
    refine Ev.neg head_end (Ev.cst ?_)
    rw [List.drop_length]
    have e : s ++ funcsY [] = s := app_nil s
    rw [e]
  | succ d ih =>
    intro i s hi hs
    have hlt : i < l.length := by omega
    have hm : l[i] ∈ l := List.getElem_mem hlt
    have hx := hf _ hm
    have h1 := varB_size l[i].2.1
    have h2 := listB_size l[i].1
    have h3 := varB_size (l[i].2.2.1.length : Int)
    have h4 := funcY_size hx
    have h5 := hx.p4
    have h6 := hx.b10
    refine Ev.succ ?_
    show Ev (fun k => spec_l6Body.l0_ k (spec_l6Body.l0 k) (spec_l6Body.l1 k) (spec_l6Body.l2 k) (spec_l6Body.l3 k) s _ l) _
    unfold spec_l6Body.l0_
    simp only [head_in hlt, head_0, Bool.and_self, cond_true, get_in hlt]
    refine Ev.bind (specVar _) (Ev.big (by show s.size + (varB l[i].2.1).size ≤ _; omega) (Ev.bind (specList _ (by omega)) (Ev.big (by show (s ++ varB l[i].2.1).size + (listB l[i].1).size ≤ _; rw [ByteArray.size_append]; omega) (Ev.bind (specVar _) (Ev.big (by show ((s ++ varB l[i].2.1) ++ listB l[i].1).size + (varB (l[i].2.2.1.length : Int)).size ≤ _; rw [ByteArray.size_append, ByteArray.size_append]; omega) ?_)))))
    refine specBlocks_l hx (by omega) (by omega) l[i].2.2.1.length 0 (((s ++ varB l[i].2.1) ++ listB l[i].1) ++ varB (l[i].2.2.1.length : Int)) (by omega) (by rw [ByteArray.size_append, ByteArray.size_append, ByteArray.size_append]; omega) ?_
    rw [List.drop_zero]
    have e0 : (i : Int) + 1 = ((i + 1 : Nat) : Int) := by omega
    rw [e0]
    have e1 : (((s ++ varB l[i].2.1) ++ listB l[i].1) ++ varB (l[i].2.2.1.length : Int)) ++ blocksY l[i].2.2.1 = s ++ funcY l[i] := by
      unfold funcY; simp only [ByteArray.append_assoc]
    have := ih (i + 1) (s ++ funcY l[i]) (by omega) (by rw [ByteArray.size_append]; omega)
    rw [← e1] at this
    refine this.rw ?_
    rw [e1, List.drop_eq_getElem_cons hlt]
    exact congrArg one (app_cons _ _ _).symm
def bodyY (m : tModuleD) : ByteArray := ((ByteArray.mk #[83, 83, 65, 49]) ++ varB (m.1.length : Int)) ++ funcsY m.1
theorem ssa_size : (ByteArray.mk #[83, 83, 65, 49]).size = 4 := rfl
theorem specBody {m : tModuleD} (hl : m.1.length ≤ 3) (hf : ∀ f ∈ m.1, FSm f) : Ev (fun k => spec_l6Body.f k m) (one (bodyY m)) := by
  unfold spec_l6Body.f
  have h1 := varB_size (m.1.length : Int)
  refine Ev.bind (specVar _) (Ev.big (by show (ByteArray.mk #[83, 83, 65, 49]).size + (varB (m.1.length : Int)).size ≤ _; rw [ssa_size]; omega) ?_)
  exact (specFuncs_l hl hf m.1.length 0 _ (by omega) (by rw [ByteArray.size_append, ssa_size]; show 4 + (varB (m.1.length : Int)).size + _ ≤ _; omega)).rw (by rw [List.drop_zero]; rfl)
theorem bodyY_size {m : tModuleD} (hl : m.1.length ≤ 3) (hf : ∀ f ∈ m.1, FSm f) : (bodyY m).size ≤ 300000 := by
  have h1 := varB_size (m.1.length : Int)
  have h2 : (funcsY m.1).size ≤ m.1.length * 80000 := by
    have := catB_size (c := 80000) (l := m.1.map funcY) fun y hy => by
      obtain ⟨p, hp, rfl⟩ := List.mem_map.1 hy
      exact funcY_size (hf p hp)
    rwa [List.length_map] at this
  unfold bodyY
  rw [ByteArray.size_append, ByteArray.size_append, ssa_size]; omega
/-! ### the program -/
section
variable {r : (((ByteArray × Unit) × Unit) × Unit)} {x : tBlockD}
theorem implHasImm (k : Nat) (a : Int) : impl_hasImm.f k a = some (one (hasB a)) := by
  unfold impl_hasImm.f hasB
  cases decide (a = 21) <;> rfl
theorem string_ev {R : Type} {s : ByteArray} {f : Nat → RdR → Option R} {r : R} (e : Ev (fun k => f k (((s, ()), ()), (s, ()))) r) : Ev (fun k => Option.bind (strings_Builder_String.f k s) (f k)) r := Ev.bind (Ev.all fun k => rfl) e
theorem vars2 (a b : Int) : varsB [a, b] = varB a ++ varB b := by show varB a ++ (varB b ++ ByteArray.empty) = _; rw [ByteArray.append_empty]
theorem implInsts_l (hx : BSm x) : ∀ (d i : Nat) (s : ByteArray), i + d = x.2.1.length → s.size + d * 40 ≤ 900000000 → Ev (fun k => impl_blockBytes.l1 k x.2.1 ((x.2.1.length : Nat) : Int) (i : Int) x s) (one ((s ++ instsY (x.2.1.drop i)) ++ termY x.2.2)) := by
  intro d
  induction d with
  | zero =>
    intro i s hi hs
    obtain rfl : i = x.2.1.length := by omega
    refine Ev.succ ?_
    show Ev (fun k => impl_blockBytes.l1_ k (impl_blockBytes.l0 k) (impl_blockBytes.l1 k) x.2.1 _ _ x s) _
    unfold impl_blockBytes.l1_
    have ht := termY_size x.2.2
    refine Ev.neg head_end (string_ev (Ev.bind (implTermY _) (Ev.big (by show s.size + (termY x.2.2).size ≤ _; omega) (Ev.cst ?_))))
    rw [List.drop_length]
    have e : s ++ instsY [] = s := app_nil s
    rw [e]
  | succ d ih =>
    intro i s hi hs
    have hlt : i < x.2.1.length := by omega
    have hm : x.2.1[i] ∈ x.2.1 := List.getElem_mem hlt
    have hai := hx.args _ hm
    have hsz := instY_size x.2.1[i] (opsB_4 hai)
    have hx60 := hx.ins
    have g1 := varB_size x.2.1[i].1
    have g2 := varB_size x.2.1[i].2.1
    have g3 := varB_size x.2.1[i].2.2.2.2.2.1
    have g4 := listB_size (opsB x.2.1[i])
    have g5 := opsB_4 hai
    refine Ev.succ ?_
    show Ev (fun k => impl_blockBytes.l1_ k (impl_blockBytes.l0 k) (impl_blockBytes.l1 k) x.2.1 _ _ x s) _
    unfold impl_blockBytes.l1_
    simp only [head_in hlt, head_0, Bool.and_self, cond_true, get_in hlt, wrap_nat (show i < 9223372036854775807 by omega)]
    have ih1 := ih (i + 1) (s ++ instY x.2.1[i]) (by omega) (by rw [ByteArray.size_append]; omega)
    have e0 : s ++ instsY (x.2.1.drop i) = (s ++ instY x.2.1[i]) ++ instsY (x.2.1.drop (i + 1)) := by
      rw [List.drop_eq_getElem_cons hlt]; exact app_cons _ _ _
    rw [← e0] at ih1
    refine Ev.bind (implVars _ (by simp)) ?_
    rw [vars2]
    refine write_ev (by show s.size + (varB x.2.1[i].1 ++ varB x.2.1[i].2.1).size ≤ _; rw [ByteArray.size_append]; omega) (Ev.bind (Ev.all fun k => implHasImm k _) ?_)
    cases hh : hasB x.2.1[i].1 with
    | true =>
      have ei : instY x.2.1[i] = ((varB x.2.1[i].1 ++ varB x.2.1[i].2.1) ++ varB x.2.1[i].2.2.2.2.2.1) ++ listB (opsB x.2.1[i]) := by unfold instY; rw [hh]; rfl
      refine Ev.pos rfl (Ev.bind (implVars _ (by simp)) ?_)
      rw [vars1]
      refine write_ev (by show (s ++ (varB x.2.1[i].1 ++ varB x.2.1[i].2.1)).size + (varB x.2.1[i].2.2.2.2.2.1).size ≤ _; rw [ByteArray.size_append, ByteArray.size_append]; omega) (Ev.bind (Ev.all fun k => implOps k (by omega)) (Ev.bind (implList _ (by show (opsB x.2.1[i]).length ≤ _; omega)) (write_ev ?_ ?_)))
      · show ((s ++ (varB x.2.1[i].1 ++ varB x.2.1[i].2.1)) ++ varB x.2.1[i].2.2.2.2.2.1).size + (listB (opsB x.2.1[i])).size ≤ _
        rw [ByteArray.size_append, ByteArray.size_append, ByteArray.size_append]; omega
      · have e1 : ((s ++ (varB x.2.1[i].1 ++ varB x.2.1[i].2.1)) ++ varB x.2.1[i].2.2.2.2.2.1) ++ listB (opsB x.2.1[i]) = s ++ instY x.2.1[i] := by rw [ei]; simp only [ByteArray.append_assoc]
        rw [← e1] at ih1
        exact ih1
    | false =>
      have ei : instY x.2.1[i] = (varB x.2.1[i].1 ++ varB x.2.1[i].2.1) ++ listB (opsB x.2.1[i]) := by unfold instY; rw [hh]; rfl
      refine Ev.neg rfl (Ev.bind (Ev.all fun k => implOps k (by omega)) (Ev.bind (implList _ (by show (opsB x.2.1[i]).length ≤ _; omega)) (write_ev ?_ ?_)))
      · show (s ++ (varB x.2.1[i].1 ++ varB x.2.1[i].2.1)).size + (listB (opsB x.2.1[i])).size ≤ _
        rw [ByteArray.size_append, ByteArray.size_append]; omega
      · have e1 : (s ++ (varB x.2.1[i].1 ++ varB x.2.1[i].2.1)) ++ listB (opsB x.2.1[i]) = s ++ instY x.2.1[i] := by rw [ei]; simp only [ByteArray.append_assoc]
        rw [← e1] at ih1
        exact ih1
theorem implPhis_l (hx : BSm x) : ∀ (d i : Nat) (s : ByteArray), i + d = x.1.length → s.size + d * 60 ≤ 800000000 → Ev (fun k => impl_blockBytes.l0 k x.1 ((x.1.length : Nat) : Int) (i : Int) x s) (one ((((s ++ phisY (x.1.drop i)) ++ varB (x.2.1.length : Int)) ++ instsY x.2.1) ++ termY x.2.2)) := by
  intro d
  induction d with
  | zero =>
    intro i s hi hs
    obtain rfl : i = x.1.length := by omega
    refine Ev.succ ?_
    show Ev (fun k => impl_blockBytes.l0_ k (impl_blockBytes.l0 k) (impl_blockBytes.l1 k) x.1 _ _ x s) _
    unfold impl_blockBytes.l0_
    have ht := varB_size (x.2.1.length : Int)
    have hi6 := hx.ins
    refine Ev.neg head_end (Ev.bind (implVars _ (by simp)) ?_)
    rw [vars1]
    refine write_ev (by show s.size + (varB (x.2.1.length : Int)).size ≤ _; omega) ?_
    have e : s ++ phisY [] = s := app_nil s
    refine (implInsts_l hx x.2.1.length 0 (s ++ varB (x.2.1.length : Int)) (by omega) (by rw [ByteArray.size_append]; omega)).rw ?_
    rw [List.drop_length, e, List.drop_zero]
  | succ d ih =>
    intro i s hi hs
    have hlt : i < x.1.length := by omega
    have hm : x.1[i] ∈ x.1 := List.getElem_mem hlt
    have hpi := hx.phs _ hm
    have h1 := varB_size x.1[i].1
    have h2 := listB_size x.1[i].2.1
    have hx60 := hx.ph
    refine Ev.succ ?_
    show Ev (fun k => impl_blockBytes.l0_ k (impl_blockBytes.l0 k) (impl_blockBytes.l1 k) x.1 _ _ x s) _
    unfold impl_blockBytes.l0_
    simp only [head_in hlt, head_0, Bool.and_self, cond_true, get_in hlt, wrap_nat (show i < 9223372036854775807 by omega)]
    refine Ev.bind (implVars _ (by simp)) ?_
    rw [vars1]
    refine Ev.bind (implList _ (by omega)) (Ev.big (by show (varB x.1[i].1).size + (listB x.1[i].2.1).size ≤ _; omega) (write_ev (by show s.size + (varB x.1[i].1 ++ listB x.1[i].2.1).size ≤ _; rw [ByteArray.size_append]; omega) ?_))
    refine (ih (i + 1) (s ++ phiY x.1[i]) (by omega) (by unfold phiY; rw [ByteArray.size_append, ByteArray.size_append]; omega)).rw ?_
    have e : s ++ phisY (x.1.drop i) = (s ++ phiY x.1[i]) ++ phisY (x.1.drop (i + 1)) := by
      rw [List.drop_eq_getElem_cons hlt]; exact app_cons _ _ _
    rw [e]
theorem implBlockY (hx : BSm x) : Ev (fun k => impl_blockBytes.f k x) (one (blockY x)) := by
  unfold impl_blockBytes.f
  have h1 := varB_size (x.1.length : Int)
  have h2 := hx.ph
  refine Ev.bind (implVars _ (by simp)) ?_
  rw [vars1]
  refine write_ev (by show 0 + (varB (x.1.length : Int)).size ≤ _; omega) ?_
  refine (implPhis_l hx x.1.length 0 (ByteArray.empty ++ varB (x.1.length : Int)) (by omega) (by rw [ByteArray.empty_append]; omega)).rw ?_
  rw [List.drop_zero, ByteArray.empty_append]; rfl
end
section
variable {l : List tFuncD} {r : (((ByteArray × Unit) × Unit) × Unit)}
theorem implBlocks_l {f : tFuncD} {n a : Int} (hf : FSm f) (ha0 : 0 ≤ a) (ha : a < 9223372036854775807) : ∀ (d i : Nat) (s : ByteArray), i + d = f.2.2.1.length → s.size + d * 7000 ≤ 700000000 → Ev (fun k => impl_moduleBytes.l0 k l n (a + 1) (s ++ blocksY (f.2.2.1.drop i))) r → Ev (fun k => impl_moduleBytes.l1 k l n a f.2.2.1 ((f.2.2.1.length : Nat) : Int) (i : Int) s) r := by
  intro d
  induction d with
  | zero =>
    intro i s hi hs h
    obtain rfl : i = f.2.2.1.length := by omega
    rw [List.drop_length] at h
    refine Ev.succ ?_
    show Ev (fun k => impl_moduleBytes.l1_ k (impl_moduleBytes.l0 k) (impl_moduleBytes.l1 k) l n a _ _ _ s) _
    unfold impl_moduleBytes.l1_
    refine Ev.neg head_end ?_
    rw [wrap_id (x := a + 1) (by omega) (by omega)]
    have e : s ++ blocksY [] = s := app_nil s
    rw [e] at h
    exact h
  | succ d ih =>
    intro i s hi hs h
    have hlt : i < f.2.2.1.length := by omega
    have hm : f.2.2.1[i] ∈ f.2.2.1 := List.getElem_mem hlt
    have hx := hf.bl _ hm
    have h2 := blockY_size hx
    have h10 := hf.b10
    refine Ev.succ ?_
    show Ev (fun k => impl_moduleBytes.l1_ k (impl_moduleBytes.l0 k) (impl_moduleBytes.l1 k) l n a _ _ _ s) _
    unfold impl_moduleBytes.l1_
    simp only [head_in hlt, head_0, Bool.and_self, cond_true, get_in hlt, wrap_nat (show i < 9223372036854775807 by omega)]
    refine Ev.bind (implBlockY hx) (write_ev (by show s.size + (blockY f.2.2.1[i]).size ≤ _; omega) ?_)
    refine ih (i + 1) (s ++ blockY f.2.2.1[i]) (by omega) (by rw [ByteArray.size_append]; omega) ?_
    rw [List.drop_eq_getElem_cons hlt] at h
    have e : s ++ blocksY (f.2.2.1[i] :: f.2.2.1.drop (i + 1)) = (s ++ blockY f.2.2.1[i]) ++ blocksY (f.2.2.1.drop (i + 1)) := app_cons _ _ _
    rw [e] at h
    exact h
theorem implFuncs_l (hl : l.length ≤ 3) (hf : ∀ f ∈ l, FSm f) : ∀ (d i : Nat) (s : ByteArray), i + d = l.length → s.size + d * 80000 ≤ 600000000 → Ev (fun k => impl_moduleBytes.l0 k l ((l.length : Nat) : Int) (i : Int) s) (one ((s ++ funcsY (l.drop i)) ++ sumB4 (s ++ funcsY (l.drop i)))) := by
  intro d
  induction d with
  | zero =>
    intro i s hi hs
    obtain rfl : i = l.length := by omega
    have e : s ++ funcsY [] = s := app_nil s
    rw [List.drop_length, e]
    have h4 := sumB4_size s
    have h5 := implSum s (by omega)
    generalize sumB4 s = q at h4 h5 ⊢
    refine Ev.succ ?_
    show Ev (fun k => impl_moduleBytes.l0_ k (impl_moduleBytes.l0 k) (impl_moduleBytes.l1 k) l _ _ s) _
    unfold impl_moduleBytes.l0_
    have h6 : s.size + q.size ≤ 1000000000 := by
      have hs' : s.size ≤ 600000000 := Nat.le_trans (Nat.le_add_right _ _) hs
      rw [h4]
      exact Nat.le_trans (Nat.add_le_add_right hs' 4) (by decide)
    exact Ev.neg head_end (string_ev (string_ev (Ev.bind h5 (Ev.big h6 (Ev.cst rfl)))))
  | succ d ih =>
    intro i s hi hs
    have hlt : i < l.length := by omega
    have hm : l[i] ∈ l := List.getElem_mem hlt
    have hx := hf _ hm
    have h1 := varB_size l[i].2.1
    have h2 := listB_size l[i].1
    have h3 := varB_size (l[i].2.2.1.length : Int)
    have h4 := funcY_size hx
    have h5 := hx.p4
    have h6 := hx.b10
    refine Ev.succ ?_
    show Ev (fun k => impl_moduleBytes.l0_ k (impl_moduleBytes.l0 k) (impl_moduleBytes.l1 k) l _ _ s) _
    unfold impl_moduleBytes.l0_
    simp only [head_in hlt, head_0, Bool.and_self, cond_true, get_in hlt]
    refine Ev.bind (implVars _ (by simp)) ?_
    rw [vars1]
    refine Ev.bind (implList _ (by omega)) (Ev.big (by show (varB l[i].2.1).size + (listB l[i].1).size ≤ _; omega) (Ev.bind (implVars _ (by simp)) ?_))
    rw [vars1]
    refine Ev.big (by show (varB l[i].2.1 ++ listB l[i].1).size + (varB (l[i].2.2.1.length : Int)).size ≤ _; rw [ByteArray.size_append]; omega) (write_ev (by show s.size + ((varB l[i].2.1 ++ listB l[i].1) ++ varB (l[i].2.2.1.length : Int)).size ≤ _; rw [ByteArray.size_append, ByteArray.size_append]; omega) ?_)
    refine implBlocks_l hx (by omega) (by omega) l[i].2.2.1.length 0 (s ++ ((varB l[i].2.1 ++ listB l[i].1) ++ varB (l[i].2.2.1.length : Int))) (by omega) (by rw [ByteArray.size_append, ByteArray.size_append, ByteArray.size_append]; omega) ?_
    rw [List.drop_zero]
    have e0 : (i : Int) + 1 = ((i + 1 : Nat) : Int) := by omega
    rw [e0]
    have e1 : (s ++ ((varB l[i].2.1 ++ listB l[i].1) ++ varB (l[i].2.2.1.length : Int))) ++ blocksY l[i].2.2.1 = s ++ funcY l[i] := by
      unfold funcY; simp only [ByteArray.append_assoc]
    have e2 : s ++ funcsY (l.drop i) = (s ++ funcY l[i]) ++ funcsY (l.drop (i + 1)) := by
      rw [List.drop_eq_getElem_cons hlt]; exact app_cons _ _ _
    have := ih (i + 1) (s ++ funcY l[i]) (by omega) (by rw [ByteArray.size_append]; omega)
    rw [← e2] at this
    rw [← e1] at this
    exact this
end
theorem implBody {m : tModuleD} (hl : m.1.length ≤ 3) (hf : ∀ f ∈ m.1, FSm f) : Ev (fun k => impl_moduleBytes.f k m) (one (bodyY m ++ sumB4 (bodyY m))) := by
  unfold impl_moduleBytes.f
  have h1 := varB_size (m.1.length : Int)
  refine Ev.bind (implVars _ (by simp)) ?_
  rw [vars1]
  refine Ev.big (by show (ByteArray.mk #[83, 83, 65, 49]).size + (varB (m.1.length : Int)).size ≤ _; rw [ssa_size]; omega) (write_ev (by show 0 + ((ByteArray.mk #[83, 83, 65, 49]) ++ varB (m.1.length : Int)).size ≤ _; rw [ByteArray.size_append, ssa_size]; omega) ?_)
  refine (implFuncs_l hl hf m.1.length 0 (ByteArray.empty ++ ((ByteArray.mk #[83, 83, 65, 49]) ++ varB (m.1.length : Int))) (by omega) (by rw [ByteArray.empty_append, ByteArray.size_append, ssa_size]; omega)).rw ?_
  rw [List.drop_zero, ByteArray.empty_append]; rfl
/-! ### both -/
def modY (m : tModuleD) : ByteArray := bif shapeB m then bodyY m ++ sumB4 (bodyY m) else ByteArray.empty
theorem shape_sm {m : tModuleD} (h : shapeB m = true) : m.1.length ≤ 3 ∧ ∀ f ∈ m.1, FSm f := by
  simp only [shapeB, Bool.and_eq_true, inB_iff, List.all_eq_true] at h
  exact ⟨by omega, fun f hf => FSm.of (Fm.of (h.2 f hf))⟩
theorem specModY {m : tModuleD} (hm : Small tModule m) : Ev (fun k => spec_ModuleBytes.f k m) (one (modY m)) := by
  unfold spec_ModuleBytes.f modY
  refine Ev.bind (specShape hm) ?_
  cases h : shapeB m with
  | false => exact Ev.pos rfl (Ev.cst rfl)
  | true =>
    obtain ⟨hl, hf⟩ := shape_sm h
    have h1 := bodyY_size hl hf
    have h2 := sumB4_size (bodyY m)
    exact Ev.neg rfl (Ev.bind (specBody hl hf) (Ev.bind (specSum _ (by show (bodyY m).size < _; omega)) (Ev.big (by show (bodyY m).size + (sumB4 (bodyY m)).size ≤ _; omega) (Ev.cst rfl))))
theorem implModY {m : tModuleD} (hm : Small tModule m) : Ev (fun k => impl_ModuleBytes.f k m) (one (modY m)) := by
  unfold impl_ModuleBytes.f modY
  refine Ev.bind (implShape hm) ?_
  cases h : shapeB m with
  | false => exact Ev.pos rfl (Ev.cst rfl)
  | true =>
    obtain ⟨hl, hf⟩ := shape_sm h
    exact Ev.neg rfl (Ev.bind (implBody hl hf) (Ev.cst rfl))
end Go.Proofs.Ytkfehogikjcgkaa.V
namespace Go.Proofs.Ytkfehogikjcgkaa.V
open Go
theorem strEq_self (s : ByteArray) : strEq s s = true := by simp [strEq]
theorem PureFnExactModuleBytes : ∀ (a0 : tModuleD), Wf tModule a0 → ∃ k, laws_FnExactModuleBytes.f k a0 = some (((true, ()), ()), ()) := by
  intro a hw
  refine Ev.ex (g := fun k => laws_FnExactModuleBytes.f k a) ?_
  unfold laws_FnExactModuleBytes.f
  refine law_frame hw fun h => ?_
  refine Ev.bind (toModule h) (Ev.bind (specModY h) (Ev.bind (toModule h) (Ev.bind (implModY h) (Ev.neg ?_ (law_end h)))))
  show (!strEq (modY a) (modY a)) = false
  rw [strEq_self]; rfl
end Go.Proofs.Ytkfehogikjcgkaa.V
