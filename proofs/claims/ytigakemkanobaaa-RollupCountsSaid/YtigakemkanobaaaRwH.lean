/- rollup: what rows count. -/
import Derived.Test.YtigakemkanobaaaRwQ
import Derived.Test.YtigakemkanobaaaRwF
namespace Go.Proofs.Ytigakemkanobaaa
open E
set_option maxRecDepth 100000
set_option linter.unusedVariables false
set_option linter.unusedSimpArgs false


def capR (n lo hi : Int) : Int := bif decide (n < lo) then lo else bif decide (n > hi) then hi else n
def FCap : List V → Option V
  | [.val (.int _ n), .val (.int _ lo), .val (.int _ hi)] => some (I (capR n lo hi))
  | _ => none
def FAlive3 : List V → Option V := fun _ => some (Bo true)
def n1 (r : Rw) (s : Sp) : Nat := bif hitB r s then 1 else 0
def e1 (r : Rw) (s : Sp) : Nat := bif hitB r s && s.err then 1 else 0
def ckS (l : List Sp) (m : Int) (x : List Rw) (i n e k : Nat) : SL := ⟨[(0, .sl 10 (l.map Sp.row)), (1, I m), (6, .sl 14 (x.map Rw.row)), (7, I (i : Int)), (8, I (n : Int)), (9, I (e : Int)), (10, I (k : Int))], [], []⟩
def coS (l : List Sp) (m : Int) (x : List Rw) (i : Nat) : SL := ⟨[(0, .sl 10 (l.map Sp.row)), (1, I m), (6, .sl 14 (x.map Rw.row)), (7, I (i : Int))], [], []⟩
noncomputable def ckB : Code := codeAt Try.prog 5 [true, true, true, true, false, true, false, false, true, false, false, true, true, false, true, false, false]

noncomputable def coB : Code := codeAt Try.prog 5 [true, true, true, true, false, true, false, false]

theorem cCap_0 (n lo hi : Int)  (h0 : (decide (n < lo)) = true) : Contract Try.prog 17 [I n, I lo, I hi] [] (I lo) ([]) :=
  vcP hmix [.reg 1 [(3, [], some true)]] [] [
      decide (n < lo) = true] (by kernel_rfl)
    (by
      have d0 := h0
      try simp only [Int.ofNat_eq_natCast, List.length_map, Bool.not_eq_true', Bool.not_eq_false', decide_eq_true_eq, decide_eq_false_iff_not] at d0
      simp only [allP]
      and_intros <;> first
        | omega
        | with_reducible assumption
        | (simp; done)
        | decide)

theorem cCap_1 (n lo hi : Int)  (h0 : (decide (n < lo)) = false) (h1 : (decide (n > hi)) = true) : Contract Try.prog 17 [I n, I lo, I hi] [] (I hi) ([]) :=
  vcP hmix [.reg 1 [(3, [], some false)], .reg 3 [(3, [], some true)]] [] [
      decide (n < lo) = false,
      decide (n > hi) = true] (by kernel_rfl)
    (by
      have d0 := h0
      have d1 := h1
      try simp only [Int.ofNat_eq_natCast, List.length_map, Bool.not_eq_true', Bool.not_eq_false', decide_eq_true_eq, decide_eq_false_iff_not] at d0 d1
      simp only [allP]
      and_intros <;> first
        | omega
        | with_reducible assumption
        | (simp; done)
        | decide)

theorem cCap_2 (n lo hi : Int)  (h0 : (decide (n < lo)) = false) (h1 : (decide (n > hi)) = false) : Contract Try.prog 17 [I n, I lo, I hi] [] (I n) ([]) :=
  vcP hmix [.reg 1 [(3, [], some false)], .reg 3 [(3, [], some false)]] [] [
      decide (n < lo) = false,
      decide (n > hi) = false] (by kernel_rfl)
    (by
      have d0 := h0
      have d1 := h1
      try simp only [Int.ofNat_eq_natCast, List.length_map, Bool.not_eq_true', Bool.not_eq_false', decide_eq_true_eq, decide_eq_false_iff_not] at d0 d1
      simp only [allP]
      and_intros <;> first
        | omega
        | with_reducible assumption
        | (simp; done)
        | decide)

theorem cCap (n lo hi : Int)  : Contract Try.prog 17 [I n, I lo, I hi] [] (I (capR n lo hi)) [] := by
  rcases tf (decide (n < lo)) with h0 | h0
  · exact Contract.cast (by first | rfl | (simp only [capR, h0, cond_true, cond_false]; done) | (simp [capR, h0]; done) | ((try simp only [Int.ofNat_eq_natCast, List.length_map, Bool.not_eq_true', Bool.not_eq_false', decide_eq_true_eq, decide_eq_false_iff_not] at h0); first | (simp [capR, h0]; done) | (refine congrArg _ ?_; simp [capR, h0]; done) | (refine congrArg _ ?_; simp [capR, h0]; omega) | (simp only [capR, Bool.cond_eq_ite, Bool.and_eq_true, Bool.or_eq_true, Bool.not_eq_true', decide_eq_true_eq, beq_iff_eq, beq_eq_false_iff_ne, ne_eq]; (repeat' split) <;> first | rfl | (exfalso; omega) | omega | (simp_all; done) | (exfalso; simp_all; omega)))) (by first | rfl | (simp only [capR, h0, cond_true, cond_false]; done) | (simp [capR, h0]; done) | ((try simp only [Int.ofNat_eq_natCast, List.length_map, Bool.not_eq_true', Bool.not_eq_false', decide_eq_true_eq, decide_eq_false_iff_not] at h0); first | (simp [capR, h0]; done) | (refine congrArg _ ?_; simp [capR, h0]; done) | (refine congrArg _ ?_; simp [capR, h0]; omega) | (simp only [capR, Bool.cond_eq_ite, Bool.and_eq_true, Bool.or_eq_true, Bool.not_eq_true', decide_eq_true_eq, beq_iff_eq, beq_eq_false_iff_ne, ne_eq]; (repeat' split) <;> first | rfl | (exfalso; omega) | omega | (simp_all; done) | (exfalso; simp_all; omega)))) (cCap_0 n lo hi  h0)
  · rcases tf (decide (n > hi)) with h1 | h1
    · exact Contract.cast (by first | rfl | (simp only [capR, h0, h1, cond_true, cond_false]; done) | (simp [capR, h0, h1]; done) | ((try simp only [Int.ofNat_eq_natCast, List.length_map, Bool.not_eq_true', Bool.not_eq_false', decide_eq_true_eq, decide_eq_false_iff_not] at h0 h1); first | (simp [capR, h0, h1]; done) | (refine congrArg _ ?_; simp [capR, h0, h1]; done) | (refine congrArg _ ?_; simp [capR, h0, h1]; omega) | (simp only [capR, Bool.cond_eq_ite, Bool.and_eq_true, Bool.or_eq_true, Bool.not_eq_true', decide_eq_true_eq, beq_iff_eq, beq_eq_false_iff_ne, ne_eq]; (repeat' split) <;> first | rfl | (exfalso; omega) | omega | (simp_all; done) | (exfalso; simp_all; omega)))) (by first | rfl | (simp only [capR, h0, h1, cond_true, cond_false]; done) | (simp [capR, h0, h1]; done) | ((try simp only [Int.ofNat_eq_natCast, List.length_map, Bool.not_eq_true', Bool.not_eq_false', decide_eq_true_eq, decide_eq_false_iff_not] at h0 h1); first | (simp [capR, h0, h1]; done) | (refine congrArg _ ?_; simp [capR, h0, h1]; done) | (refine congrArg _ ?_; simp [capR, h0, h1]; omega) | (simp only [capR, Bool.cond_eq_ite, Bool.and_eq_true, Bool.or_eq_true, Bool.not_eq_true', decide_eq_true_eq, beq_iff_eq, beq_eq_false_iff_ne, ne_eq]; (repeat' split) <;> first | rfl | (exfalso; omega) | omega | (simp_all; done) | (exfalso; simp_all; omega)))) (cCap_1 n lo hi  h0 h1)
    · exact Contract.cast (by first | rfl | (simp only [capR, h0, h1, cond_true, cond_false]; done) | (simp [capR, h0, h1]; done) | ((try simp only [Int.ofNat_eq_natCast, List.length_map, Bool.not_eq_true', Bool.not_eq_false', decide_eq_true_eq, decide_eq_false_iff_not] at h0 h1); first | (simp [capR, h0, h1]; done) | (refine congrArg _ ?_; simp [capR, h0, h1]; done) | (refine congrArg _ ?_; simp [capR, h0, h1]; omega) | (simp only [capR, Bool.cond_eq_ite, Bool.and_eq_true, Bool.or_eq_true, Bool.not_eq_true', decide_eq_true_eq, beq_iff_eq, beq_eq_false_iff_ne, ne_eq]; (repeat' split) <;> first | rfl | (exfalso; omega) | omega | (simp_all; done) | (exfalso; simp_all; omega)))) (by first | rfl | (simp only [capR, h0, h1, cond_true, cond_false]; done) | (simp [capR, h0, h1]; done) | ((try simp only [Int.ofNat_eq_natCast, List.length_map, Bool.not_eq_true', Bool.not_eq_false', decide_eq_true_eq, decide_eq_false_iff_not] at h0 h1); first | (simp [capR, h0, h1]; done) | (refine congrArg _ ?_; simp [capR, h0, h1]; done) | (refine congrArg _ ?_; simp [capR, h0, h1]; omega) | (simp only [capR, Bool.cond_eq_ite, Bool.and_eq_true, Bool.or_eq_true, Bool.not_eq_true', decide_eq_true_eq, beq_iff_eq, beq_eq_false_iff_ne, ne_eq]; (repeat' split) <;> first | rfl | (exfalso; omega) | omega | (simp_all; done) | (exfalso; simp_all; omega)))) (cCap_2 n lo hi  h0 h1)

theorem ck_0 (l : List Sp) (m : Int) (x : List Rw) (i n e k : Nat) (r : Rw) (s : Sp) (h : k < l.length) (hx : l[k]? = some s) (hi : i < x.length) (hy : x[i]? = some r) (hs : l.length ≤ 60) (hn : n ≤ k) (he : e ≤ k) (h0 : (rightS s) = true) (h1 : (ByteArray.toList (Sp.svc s) == ByteArray.toList (Rw.svc r)) = true) (h2 : (ByteArray.toList (Sp.op s) == ByteArray.toList (Rw.op r)) = true) (h3 : (winW (Rw.lev r) (Sp.start s) == Rw.win r) = true) (h4 : (Sp.err s) = true) : CodeC Try.prog 0 128 ckB (ckS l m x i n e k) (Ex.normal) ({ env := [((0 : Nat), V.sl (10 : Nat) (List.map Sp.row l)), ((1 : Nat), I m), ((6 : Nat), V.sl (14 : Nat) (List.map Rw.row x)), ((7 : Nat), I (Int.ofNat i)), ((8 : Nat), I (Int.ofNat (n + (1 : Nat)))), ((9 : Nat), I (Int.ofNat (e + (1 : Nat)))), ((10 : Nat), I (Int.ofNat (k + (1 : Nat))))], st := [], ids := [] }) :=
  runP hmix [.reg 11 [(3, [], some true)], .reg 13 [(3, [.row (Sp.row s)], none), (5, [], some true), (10, [.row (Sp.row s)], none), (15, [.row (Rw.row r)], none), (18, [], some true), (23, [.row (Sp.row s)], none), (28, [.row (Rw.row r)], none), (31, [], some true), (36, [.row (Rw.row r)], none), (41, [.row (Sp.row s)], none), (47, [.row (Rw.row r)], none), (49, [], some true)], .reg 14 [(1, [.be (I ((n + 1 : Nat) : Int))], none)], .reg 15 [(4, [.row (Sp.row s)], some true)], .reg 16 [(1, [.be (I ((e + 1 : Nat) : Int))], none)], .reg 12 [(1, [.be (I ((k + 1 : Nat) : Int))], none)], .tab [(15, fun _ => some (Bo (rightS s))), (16, fun _ => some (I (winW r.lev s.start)))]] ⟨[0, 1, 6, 7, 8, 9, 10], [], []⟩ [
      decide (Int.ofNat k < Int.ofNat (List.length (List.map Sp.row l))) = true,
      (0 : Int) ≤ Int.ofNat k,
      Int.ofNat k < Int.ofNat (List.length (List.map Sp.row l)),
      (List.map Sp.row l)[k]? = some (Sp.row s),
      Contract Try.prog (15 : Nat) [V.agg [V.val (Value.int IntKind.u64 (Sp.hi s)), V.val (Value.int IntKind.u64 (Sp.lo s)), V.val (Value.int IntKind.u64 (Sp.id s)), V.val (Value.int IntKind.u64 (Sp.par s)), Sg (Sp.svc s), Sg (Sp.op s), I (Sp.start s), I (Sp.dur s), Bo (Sp.err s), V.sl (2 : Nat) (List.map At.row (Sp.attrs s))]] [] (Bo (rightS s)) [],
      rightS s = true,
      (0 : Int) ≤ Int.ofNat k,
      Int.ofNat k < Int.ofNat (List.length (List.map Sp.row l)),
      (List.map Sp.row l)[k]? = some (Sp.row s),
      (0 : Int) ≤ Int.ofNat i,
      Int.ofNat i < Int.ofNat (List.length (List.map Rw.row x)),
      (List.map Rw.row x)[i]? = some (Rw.row r),
      (ByteArray.toList (Sp.svc s) == ByteArray.toList (Rw.svc r)) = true,
      (0 : Int) ≤ Int.ofNat k,
      Int.ofNat k < Int.ofNat (List.length (List.map Sp.row l)),
      (List.map Sp.row l)[k]? = some (Sp.row s),
      (0 : Int) ≤ Int.ofNat i,
      Int.ofNat i < Int.ofNat (List.length (List.map Rw.row x)),
      (List.map Rw.row x)[i]? = some (Rw.row r),
      (ByteArray.toList (Sp.op s) == ByteArray.toList (Rw.op r)) = true,
      (0 : Int) ≤ Int.ofNat i,
      Int.ofNat i < Int.ofNat (List.length (List.map Rw.row x)),
      (List.map Rw.row x)[i]? = some (Rw.row r),
      (0 : Int) ≤ Int.ofNat k,
      Int.ofNat k < Int.ofNat (List.length (List.map Sp.row l)),
      (List.map Sp.row l)[k]? = some (Sp.row s),
      Contract Try.prog (16 : Nat) [I (Rw.lev r), I (Sp.start s)] [] (I (winW (Rw.lev r) (Sp.start s))) [],
      (0 : Int) ≤ Int.ofNat i,
      Int.ofNat i < Int.ofNat (List.length (List.map Rw.row x)),
      (List.map Rw.row x)[i]? = some (Rw.row r),
      (winW (Rw.lev r) (Sp.start s) == Rw.win r) = true,
      IntKind.wrap IntKind.i64 (Int.ofNat (n + (1 : Nat))) = Int.ofNat (n + (1 : Nat)),
      (0 : Int) ≤ Int.ofNat k,
      Int.ofNat k < Int.ofNat (List.length (List.map Sp.row l)),
      (List.map Sp.row l)[k]? = some (Sp.row s),
      Sp.err s = true,
      IntKind.wrap IntKind.i64 (Int.ofNat (e + (1 : Nat))) = Int.ofNat (e + (1 : Nat)),
      IntKind.wrap IntKind.i64 (Int.ofNat (k + (1 : Nat))) = Int.ofNat (k + (1 : Nat))] (by kernel_rfl)
    (by
      have d0 := h0
      have d1 := h1
      have d2 := h2
      have d3 := h3
      have d4 := h4
      try simp only [Int.ofNat_eq_natCast, List.length_map, Bool.not_eq_true', Bool.not_eq_false', decide_eq_true_eq, decide_eq_false_iff_not] at d0 d1 d2 d3 d4
      simp only [allP]
      and_intros <;> first
        | omega
        | with_reducible assumption
        | (simp; omega)
        | (simp [hx]; done)
        | (simp [hy]; done)
        | exact cRightR s
        | exact cWinR _ _
        | exact i64_small (by simp; omega)
        | (simp; done)
        | decide)

theorem ck_1 (l : List Sp) (m : Int) (x : List Rw) (i n e k : Nat) (r : Rw) (s : Sp) (h : k < l.length) (hx : l[k]? = some s) (hi : i < x.length) (hy : x[i]? = some r) (hs : l.length ≤ 60) (hn : n ≤ k) (he : e ≤ k) (h0 : (rightS s) = true) (h1 : (ByteArray.toList (Sp.svc s) == ByteArray.toList (Rw.svc r)) = true) (h2 : (ByteArray.toList (Sp.op s) == ByteArray.toList (Rw.op r)) = true) (h3 : (winW (Rw.lev r) (Sp.start s) == Rw.win r) = true) (h4 : (Sp.err s) = false) : CodeC Try.prog 0 128 ckB (ckS l m x i n e k) (Ex.normal) ({ env := [((0 : Nat), V.sl (10 : Nat) (List.map Sp.row l)), ((1 : Nat), I m), ((6 : Nat), V.sl (14 : Nat) (List.map Rw.row x)), ((7 : Nat), I (Int.ofNat i)), ((8 : Nat), I (Int.ofNat (n + (1 : Nat)))), ((9 : Nat), I (Int.ofNat e)), ((10 : Nat), I (Int.ofNat (k + (1 : Nat))))], st := [], ids := [] }) :=
  runP hmix [.reg 11 [(3, [], some true)], .reg 13 [(3, [.row (Sp.row s)], none), (5, [], some true), (10, [.row (Sp.row s)], none), (15, [.row (Rw.row r)], none), (18, [], some true), (23, [.row (Sp.row s)], none), (28, [.row (Rw.row r)], none), (31, [], some true), (36, [.row (Rw.row r)], none), (41, [.row (Sp.row s)], none), (47, [.row (Rw.row r)], none), (49, [], some true)], .reg 14 [(1, [.be (I ((n + 1 : Nat) : Int))], none)], .reg 15 [(4, [.row (Sp.row s)], some false)], .reg 12 [(1, [.be (I ((k + 1 : Nat) : Int))], none)], .tab [(15, fun _ => some (Bo (rightS s))), (16, fun _ => some (I (winW r.lev s.start)))]] ⟨[0, 1, 6, 7, 8, 9, 10], [], []⟩ [
      decide (Int.ofNat k < Int.ofNat (List.length (List.map Sp.row l))) = true,
      (0 : Int) ≤ Int.ofNat k,
      Int.ofNat k < Int.ofNat (List.length (List.map Sp.row l)),
      (List.map Sp.row l)[k]? = some (Sp.row s),
      Contract Try.prog (15 : Nat) [V.agg [V.val (Value.int IntKind.u64 (Sp.hi s)), V.val (Value.int IntKind.u64 (Sp.lo s)), V.val (Value.int IntKind.u64 (Sp.id s)), V.val (Value.int IntKind.u64 (Sp.par s)), Sg (Sp.svc s), Sg (Sp.op s), I (Sp.start s), I (Sp.dur s), Bo (Sp.err s), V.sl (2 : Nat) (List.map At.row (Sp.attrs s))]] [] (Bo (rightS s)) [],
      rightS s = true,
      (0 : Int) ≤ Int.ofNat k,
      Int.ofNat k < Int.ofNat (List.length (List.map Sp.row l)),
      (List.map Sp.row l)[k]? = some (Sp.row s),
      (0 : Int) ≤ Int.ofNat i,
      Int.ofNat i < Int.ofNat (List.length (List.map Rw.row x)),
      (List.map Rw.row x)[i]? = some (Rw.row r),
      (ByteArray.toList (Sp.svc s) == ByteArray.toList (Rw.svc r)) = true,
      (0 : Int) ≤ Int.ofNat k,
      Int.ofNat k < Int.ofNat (List.length (List.map Sp.row l)),
      (List.map Sp.row l)[k]? = some (Sp.row s),
      (0 : Int) ≤ Int.ofNat i,
      Int.ofNat i < Int.ofNat (List.length (List.map Rw.row x)),
      (List.map Rw.row x)[i]? = some (Rw.row r),
      (ByteArray.toList (Sp.op s) == ByteArray.toList (Rw.op r)) = true,
      (0 : Int) ≤ Int.ofNat i,
      Int.ofNat i < Int.ofNat (List.length (List.map Rw.row x)),
      (List.map Rw.row x)[i]? = some (Rw.row r),
      (0 : Int) ≤ Int.ofNat k,
      Int.ofNat k < Int.ofNat (List.length (List.map Sp.row l)),
      (List.map Sp.row l)[k]? = some (Sp.row s),
      Contract Try.prog (16 : Nat) [I (Rw.lev r), I (Sp.start s)] [] (I (winW (Rw.lev r) (Sp.start s))) [],
      (0 : Int) ≤ Int.ofNat i,
      Int.ofNat i < Int.ofNat (List.length (List.map Rw.row x)),
      (List.map Rw.row x)[i]? = some (Rw.row r),
      (winW (Rw.lev r) (Sp.start s) == Rw.win r) = true,
      IntKind.wrap IntKind.i64 (Int.ofNat (n + (1 : Nat))) = Int.ofNat (n + (1 : Nat)),
      (0 : Int) ≤ Int.ofNat k,
      Int.ofNat k < Int.ofNat (List.length (List.map Sp.row l)),
      (List.map Sp.row l)[k]? = some (Sp.row s),
      Sp.err s = false,
      IntKind.wrap IntKind.i64 (Int.ofNat (k + (1 : Nat))) = Int.ofNat (k + (1 : Nat))] (by kernel_rfl)
    (by
      have d0 := h0
      have d1 := h1
      have d2 := h2
      have d3 := h3
      have d4 := h4
      try simp only [Int.ofNat_eq_natCast, List.length_map, Bool.not_eq_true', Bool.not_eq_false', decide_eq_true_eq, decide_eq_false_iff_not] at d0 d1 d2 d3 d4
      simp only [allP]
      and_intros <;> first
        | omega
        | with_reducible assumption
        | (simp; omega)
        | (simp [hx]; done)
        | (simp [hy]; done)
        | exact cRightR s
        | exact cWinR _ _
        | exact i64_small (by simp; omega)
        | (simp; done)
        | decide)

theorem ck_2 (l : List Sp) (m : Int) (x : List Rw) (i n e k : Nat) (r : Rw) (s : Sp) (h : k < l.length) (hx : l[k]? = some s) (hi : i < x.length) (hy : x[i]? = some r) (hs : l.length ≤ 60) (hn : n ≤ k) (he : e ≤ k) (h0 : (rightS s) = true) (h1 : (ByteArray.toList (Sp.svc s) == ByteArray.toList (Rw.svc r)) = true) (h2 : (ByteArray.toList (Sp.op s) == ByteArray.toList (Rw.op r)) = true) (h3 : (winW (Rw.lev r) (Sp.start s) == Rw.win r) = false) : CodeC Try.prog 0 128 ckB (ckS l m x i n e k) (Ex.normal) ({ env := [((0 : Nat), V.sl (10 : Nat) (List.map Sp.row l)), ((1 : Nat), I m), ((6 : Nat), V.sl (14 : Nat) (List.map Rw.row x)), ((7 : Nat), I (Int.ofNat i)), ((8 : Nat), I (Int.ofNat n)), ((9 : Nat), I (Int.ofNat e)), ((10 : Nat), I (Int.ofNat (k + (1 : Nat))))], st := [], ids := [] }) :=
  runP hmix [.reg 11 [(3, [], some true)], .reg 13 [(3, [.row (Sp.row s)], none), (5, [], some true), (10, [.row (Sp.row s)], none), (15, [.row (Rw.row r)], none), (18, [], some true), (23, [.row (Sp.row s)], none), (28, [.row (Rw.row r)], none), (31, [], some true), (36, [.row (Rw.row r)], none), (41, [.row (Sp.row s)], none), (47, [.row (Rw.row r)], none), (49, [], some false)], .reg 12 [(1, [.be (I ((k + 1 : Nat) : Int))], none)], .tab [(15, fun _ => some (Bo (rightS s))), (16, fun _ => some (I (winW r.lev s.start)))]] ⟨[0, 1, 6, 7, 8, 9, 10], [], []⟩ [
      decide (Int.ofNat k < Int.ofNat (List.length (List.map Sp.row l))) = true,
      (0 : Int) ≤ Int.ofNat k,
      Int.ofNat k < Int.ofNat (List.length (List.map Sp.row l)),
      (List.map Sp.row l)[k]? = some (Sp.row s),
      Contract Try.prog (15 : Nat) [V.agg [V.val (Value.int IntKind.u64 (Sp.hi s)), V.val (Value.int IntKind.u64 (Sp.lo s)), V.val (Value.int IntKind.u64 (Sp.id s)), V.val (Value.int IntKind.u64 (Sp.par s)), Sg (Sp.svc s), Sg (Sp.op s), I (Sp.start s), I (Sp.dur s), Bo (Sp.err s), V.sl (2 : Nat) (List.map At.row (Sp.attrs s))]] [] (Bo (rightS s)) [],
      rightS s = true,
      (0 : Int) ≤ Int.ofNat k,
      Int.ofNat k < Int.ofNat (List.length (List.map Sp.row l)),
      (List.map Sp.row l)[k]? = some (Sp.row s),
      (0 : Int) ≤ Int.ofNat i,
      Int.ofNat i < Int.ofNat (List.length (List.map Rw.row x)),
      (List.map Rw.row x)[i]? = some (Rw.row r),
      (ByteArray.toList (Sp.svc s) == ByteArray.toList (Rw.svc r)) = true,
      (0 : Int) ≤ Int.ofNat k,
      Int.ofNat k < Int.ofNat (List.length (List.map Sp.row l)),
      (List.map Sp.row l)[k]? = some (Sp.row s),
      (0 : Int) ≤ Int.ofNat i,
      Int.ofNat i < Int.ofNat (List.length (List.map Rw.row x)),
      (List.map Rw.row x)[i]? = some (Rw.row r),
      (ByteArray.toList (Sp.op s) == ByteArray.toList (Rw.op r)) = true,
      (0 : Int) ≤ Int.ofNat i,
      Int.ofNat i < Int.ofNat (List.length (List.map Rw.row x)),
      (List.map Rw.row x)[i]? = some (Rw.row r),
      (0 : Int) ≤ Int.ofNat k,
      Int.ofNat k < Int.ofNat (List.length (List.map Sp.row l)),
      (List.map Sp.row l)[k]? = some (Sp.row s),
      Contract Try.prog (16 : Nat) [I (Rw.lev r), I (Sp.start s)] [] (I (winW (Rw.lev r) (Sp.start s))) [],
      (0 : Int) ≤ Int.ofNat i,
      Int.ofNat i < Int.ofNat (List.length (List.map Rw.row x)),
      (List.map Rw.row x)[i]? = some (Rw.row r),
      (winW (Rw.lev r) (Sp.start s) == Rw.win r) = false,
      IntKind.wrap IntKind.i64 (Int.ofNat (k + (1 : Nat))) = Int.ofNat (k + (1 : Nat))] (by kernel_rfl)
    (by
      have d0 := h0
      have d1 := h1
      have d2 := h2
      have d3 := h3
      try simp only [Int.ofNat_eq_natCast, List.length_map, Bool.not_eq_true', Bool.not_eq_false', decide_eq_true_eq, decide_eq_false_iff_not] at d0 d1 d2 d3
      simp only [allP]
      and_intros <;> first
        | omega
        | with_reducible assumption
        | (simp; omega)
        | (simp [hx]; done)
        | (simp [hy]; done)
        | exact cRightR s
        | exact cWinR _ _
        | exact i64_small (by simp; omega)
        | (simp; done)
        | decide)

theorem ck_3 (l : List Sp) (m : Int) (x : List Rw) (i n e k : Nat) (r : Rw) (s : Sp) (h : k < l.length) (hx : l[k]? = some s) (hi : i < x.length) (hy : x[i]? = some r) (hs : l.length ≤ 60) (hn : n ≤ k) (he : e ≤ k) (h0 : (rightS s) = true) (h1 : (ByteArray.toList (Sp.svc s) == ByteArray.toList (Rw.svc r)) = true) (h2 : (ByteArray.toList (Sp.op s) == ByteArray.toList (Rw.op r)) = false) : CodeC Try.prog 0 128 ckB (ckS l m x i n e k) (Ex.normal) ({ env := [((0 : Nat), V.sl (10 : Nat) (List.map Sp.row l)), ((1 : Nat), I m), ((6 : Nat), V.sl (14 : Nat) (List.map Rw.row x)), ((7 : Nat), I (Int.ofNat i)), ((8 : Nat), I (Int.ofNat n)), ((9 : Nat), I (Int.ofNat e)), ((10 : Nat), I (Int.ofNat (k + (1 : Nat))))], st := [], ids := [] }) :=
  runP hmix [.reg 11 [(3, [], some true)], .reg 13 [(3, [.row (Sp.row s)], none), (5, [], some true), (10, [.row (Sp.row s)], none), (15, [.row (Rw.row r)], none), (18, [], some true), (23, [.row (Sp.row s)], none), (28, [.row (Rw.row r)], none), (31, [], some false)], .reg 12 [(1, [.be (I ((k + 1 : Nat) : Int))], none)], .tab [(15, fun _ => some (Bo (rightS s))), (16, fun _ => some (I (winW r.lev s.start)))]] ⟨[0, 1, 6, 7, 8, 9, 10], [], []⟩ [
      decide (Int.ofNat k < Int.ofNat (List.length (List.map Sp.row l))) = true,
      (0 : Int) ≤ Int.ofNat k,
      Int.ofNat k < Int.ofNat (List.length (List.map Sp.row l)),
      (List.map Sp.row l)[k]? = some (Sp.row s),
      Contract Try.prog (15 : Nat) [V.agg [V.val (Value.int IntKind.u64 (Sp.hi s)), V.val (Value.int IntKind.u64 (Sp.lo s)), V.val (Value.int IntKind.u64 (Sp.id s)), V.val (Value.int IntKind.u64 (Sp.par s)), Sg (Sp.svc s), Sg (Sp.op s), I (Sp.start s), I (Sp.dur s), Bo (Sp.err s), V.sl (2 : Nat) (List.map At.row (Sp.attrs s))]] [] (Bo (rightS s)) [],
      rightS s = true,
      (0 : Int) ≤ Int.ofNat k,
      Int.ofNat k < Int.ofNat (List.length (List.map Sp.row l)),
      (List.map Sp.row l)[k]? = some (Sp.row s),
      (0 : Int) ≤ Int.ofNat i,
      Int.ofNat i < Int.ofNat (List.length (List.map Rw.row x)),
      (List.map Rw.row x)[i]? = some (Rw.row r),
      (ByteArray.toList (Sp.svc s) == ByteArray.toList (Rw.svc r)) = true,
      (0 : Int) ≤ Int.ofNat k,
      Int.ofNat k < Int.ofNat (List.length (List.map Sp.row l)),
      (List.map Sp.row l)[k]? = some (Sp.row s),
      (0 : Int) ≤ Int.ofNat i,
      Int.ofNat i < Int.ofNat (List.length (List.map Rw.row x)),
      (List.map Rw.row x)[i]? = some (Rw.row r),
      (ByteArray.toList (Sp.op s) == ByteArray.toList (Rw.op r)) = false,
      IntKind.wrap IntKind.i64 (Int.ofNat (k + (1 : Nat))) = Int.ofNat (k + (1 : Nat))] (by kernel_rfl)
    (by
      have d0 := h0
      have d1 := h1
      have d2 := h2
      try simp only [Int.ofNat_eq_natCast, List.length_map, Bool.not_eq_true', Bool.not_eq_false', decide_eq_true_eq, decide_eq_false_iff_not] at d0 d1 d2
      simp only [allP]
      and_intros <;> first
        | omega
        | with_reducible assumption
        | (simp; omega)
        | (simp [hx]; done)
        | (simp [hy]; done)
        | exact cRightR s
        | exact cWinR _ _
        | exact i64_small (by simp; omega)
        | (simp; done)
        | decide)

theorem ck_4 (l : List Sp) (m : Int) (x : List Rw) (i n e k : Nat) (r : Rw) (s : Sp) (h : k < l.length) (hx : l[k]? = some s) (hi : i < x.length) (hy : x[i]? = some r) (hs : l.length ≤ 60) (hn : n ≤ k) (he : e ≤ k) (h0 : (rightS s) = true) (h1 : (ByteArray.toList (Sp.svc s) == ByteArray.toList (Rw.svc r)) = false) : CodeC Try.prog 0 128 ckB (ckS l m x i n e k) (Ex.normal) ({ env := [((0 : Nat), V.sl (10 : Nat) (List.map Sp.row l)), ((1 : Nat), I m), ((6 : Nat), V.sl (14 : Nat) (List.map Rw.row x)), ((7 : Nat), I (Int.ofNat i)), ((8 : Nat), I (Int.ofNat n)), ((9 : Nat), I (Int.ofNat e)), ((10 : Nat), I (Int.ofNat (k + (1 : Nat))))], st := [], ids := [] }) :=
  runP hmix [.reg 11 [(3, [], some true)], .reg 13 [(3, [.row (Sp.row s)], none), (5, [], some true), (10, [.row (Sp.row s)], none), (15, [.row (Rw.row r)], none), (18, [], some false)], .reg 12 [(1, [.be (I ((k + 1 : Nat) : Int))], none)], .tab [(15, fun _ => some (Bo (rightS s))), (16, fun _ => some (I (winW r.lev s.start)))]] ⟨[0, 1, 6, 7, 8, 9, 10], [], []⟩ [
      decide (Int.ofNat k < Int.ofNat (List.length (List.map Sp.row l))) = true,
      (0 : Int) ≤ Int.ofNat k,
      Int.ofNat k < Int.ofNat (List.length (List.map Sp.row l)),
      (List.map Sp.row l)[k]? = some (Sp.row s),
      Contract Try.prog (15 : Nat) [V.agg [V.val (Value.int IntKind.u64 (Sp.hi s)), V.val (Value.int IntKind.u64 (Sp.lo s)), V.val (Value.int IntKind.u64 (Sp.id s)), V.val (Value.int IntKind.u64 (Sp.par s)), Sg (Sp.svc s), Sg (Sp.op s), I (Sp.start s), I (Sp.dur s), Bo (Sp.err s), V.sl (2 : Nat) (List.map At.row (Sp.attrs s))]] [] (Bo (rightS s)) [],
      rightS s = true,
      (0 : Int) ≤ Int.ofNat k,
      Int.ofNat k < Int.ofNat (List.length (List.map Sp.row l)),
      (List.map Sp.row l)[k]? = some (Sp.row s),
      (0 : Int) ≤ Int.ofNat i,
      Int.ofNat i < Int.ofNat (List.length (List.map Rw.row x)),
      (List.map Rw.row x)[i]? = some (Rw.row r),
      (ByteArray.toList (Sp.svc s) == ByteArray.toList (Rw.svc r)) = false,
      IntKind.wrap IntKind.i64 (Int.ofNat (k + (1 : Nat))) = Int.ofNat (k + (1 : Nat))] (by kernel_rfl)
    (by
      have d0 := h0
      have d1 := h1
      try simp only [Int.ofNat_eq_natCast, List.length_map, Bool.not_eq_true', Bool.not_eq_false', decide_eq_true_eq, decide_eq_false_iff_not] at d0 d1
      simp only [allP]
      and_intros <;> first
        | omega
        | with_reducible assumption
        | (simp; omega)
        | (simp [hx]; done)
        | (simp [hy]; done)
        | exact cRightR s
        | exact cWinR _ _
        | exact i64_small (by simp; omega)
        | (simp; done)
        | decide)

theorem ck_5 (l : List Sp) (m : Int) (x : List Rw) (i n e k : Nat) (r : Rw) (s : Sp) (h : k < l.length) (hx : l[k]? = some s) (hi : i < x.length) (hy : x[i]? = some r) (hs : l.length ≤ 60) (hn : n ≤ k) (he : e ≤ k) (h0 : (rightS s) = false) : CodeC Try.prog 0 128 ckB (ckS l m x i n e k) (Ex.normal) ({ env := [((0 : Nat), V.sl (10 : Nat) (List.map Sp.row l)), ((1 : Nat), I m), ((6 : Nat), V.sl (14 : Nat) (List.map Rw.row x)), ((7 : Nat), I (Int.ofNat i)), ((8 : Nat), I (Int.ofNat n)), ((9 : Nat), I (Int.ofNat e)), ((10 : Nat), I (Int.ofNat (k + (1 : Nat))))], st := [], ids := [] }) :=
  runP hmix [.reg 11 [(3, [], some true)], .reg 13 [(3, [.row (Sp.row s)], none), (5, [], some false)], .reg 12 [(1, [.be (I ((k + 1 : Nat) : Int))], none)], .tab [(15, fun _ => some (Bo (rightS s))), (16, fun _ => some (I (winW r.lev s.start)))]] ⟨[0, 1, 6, 7, 8, 9, 10], [], []⟩ [
      decide (Int.ofNat k < Int.ofNat (List.length (List.map Sp.row l))) = true,
      (0 : Int) ≤ Int.ofNat k,
      Int.ofNat k < Int.ofNat (List.length (List.map Sp.row l)),
      (List.map Sp.row l)[k]? = some (Sp.row s),
      Contract Try.prog (15 : Nat) [V.agg [V.val (Value.int IntKind.u64 (Sp.hi s)), V.val (Value.int IntKind.u64 (Sp.lo s)), V.val (Value.int IntKind.u64 (Sp.id s)), V.val (Value.int IntKind.u64 (Sp.par s)), Sg (Sp.svc s), Sg (Sp.op s), I (Sp.start s), I (Sp.dur s), Bo (Sp.err s), V.sl (2 : Nat) (List.map At.row (Sp.attrs s))]] [] (Bo (rightS s)) [],
      rightS s = false,
      IntKind.wrap IntKind.i64 (Int.ofNat (k + (1 : Nat))) = Int.ofNat (k + (1 : Nat))] (by kernel_rfl)
    (by
      have d0 := h0
      try simp only [Int.ofNat_eq_natCast, List.length_map, Bool.not_eq_true', Bool.not_eq_false', decide_eq_true_eq, decide_eq_false_iff_not] at d0
      simp only [allP]
      and_intros <;> first
        | omega
        | with_reducible assumption
        | (simp; omega)
        | (simp [hx]; done)
        | (simp [hy]; done)
        | exact cRightR s
        | exact cWinR _ _
        | exact i64_small (by simp; omega)
        | (simp; done)
        | decide)

theorem ck (l : List Sp) (m : Int) (x : List Rw) (i n e k : Nat) (r : Rw) (s : Sp) (h : k < l.length) (hx : l[k]? = some s) (hi : i < x.length) (hy : x[i]? = some r) (hs : l.length ≤ 60) (hn : n ≤ k) (he : e ≤ k)  : CodeC Try.prog 0 128 ckB (ckS l m x i n e k) .normal (ckS l m x i (n + n1 r s) (e + e1 r s) (k + 1)) := by
  rcases tf (rightS s) with h0 | h0
  · rcases tf (ByteArray.toList (Sp.svc s) == ByteArray.toList (Rw.svc r)) with h1 | h1
    · rcases tf (ByteArray.toList (Sp.op s) == ByteArray.toList (Rw.op r)) with h2 | h2
      · rcases tf (winW (Rw.lev r) (Sp.start s) == Rw.win r) with h3 | h3
        · rcases tf (Sp.err s) with h4 | h4
          · exact CodeC.cast (by first | rfl | (simp only [n1, e1, hitB, h0, h1, h2, h3, h4, cond_true, cond_false]; done) | (simp [n1, e1, hitB, h0, h1, h2, h3, h4]; done) | ((try simp only [Int.ofNat_eq_natCast, List.length_map, Bool.not_eq_true', Bool.not_eq_false', decide_eq_true_eq, decide_eq_false_iff_not] at h0 h1 h2 h3 h4); first | (simp [n1, e1, hitB, h0, h1, h2, h3, h4]; done) | (refine congrArg _ ?_; simp [n1, e1, hitB, h0, h1, h2, h3, h4]; done) | (refine congrArg _ ?_; simp [n1, e1, hitB, h0, h1, h2, h3, h4]; omega) | (simp only [n1, e1, hitB, Bool.cond_eq_ite, Bool.and_eq_true, Bool.or_eq_true, Bool.not_eq_true', decide_eq_true_eq, beq_iff_eq, beq_eq_false_iff_ne, ne_eq]; (repeat' split) <;> first | rfl | (exfalso; omega) | omega | (simp_all; done) | (exfalso; simp_all; omega)))) (ck_0 l m x i n e k r s h hx hi hy hs hn he h0 h1 h2 h3 h4)
          · exact CodeC.cast (by first | rfl | (simp only [n1, e1, hitB, h0, h1, h2, h3, h4, cond_true, cond_false]; done) | (simp [n1, e1, hitB, h0, h1, h2, h3, h4]; done) | ((try simp only [Int.ofNat_eq_natCast, List.length_map, Bool.not_eq_true', Bool.not_eq_false', decide_eq_true_eq, decide_eq_false_iff_not] at h0 h1 h2 h3 h4); first | (simp [n1, e1, hitB, h0, h1, h2, h3, h4]; done) | (refine congrArg _ ?_; simp [n1, e1, hitB, h0, h1, h2, h3, h4]; done) | (refine congrArg _ ?_; simp [n1, e1, hitB, h0, h1, h2, h3, h4]; omega) | (simp only [n1, e1, hitB, Bool.cond_eq_ite, Bool.and_eq_true, Bool.or_eq_true, Bool.not_eq_true', decide_eq_true_eq, beq_iff_eq, beq_eq_false_iff_ne, ne_eq]; (repeat' split) <;> first | rfl | (exfalso; omega) | omega | (simp_all; done) | (exfalso; simp_all; omega)))) (ck_1 l m x i n e k r s h hx hi hy hs hn he h0 h1 h2 h3 h4)
        · exact CodeC.cast (by first | rfl | (simp only [n1, e1, hitB, h0, h1, h2, h3, cond_true, cond_false]; done) | (simp [n1, e1, hitB, h0, h1, h2, h3]; done) | ((try simp only [Int.ofNat_eq_natCast, List.length_map, Bool.not_eq_true', Bool.not_eq_false', decide_eq_true_eq, decide_eq_false_iff_not] at h0 h1 h2 h3); first | (simp [n1, e1, hitB, h0, h1, h2, h3]; done) | (refine congrArg _ ?_; simp [n1, e1, hitB, h0, h1, h2, h3]; done) | (refine congrArg _ ?_; simp [n1, e1, hitB, h0, h1, h2, h3]; omega) | (simp only [n1, e1, hitB, Bool.cond_eq_ite, Bool.and_eq_true, Bool.or_eq_true, Bool.not_eq_true', decide_eq_true_eq, beq_iff_eq, beq_eq_false_iff_ne, ne_eq]; (repeat' split) <;> first | rfl | (exfalso; omega) | omega | (simp_all; done) | (exfalso; simp_all; omega)))) (ck_2 l m x i n e k r s h hx hi hy hs hn he h0 h1 h2 h3)
      · exact CodeC.cast (by first | rfl | (simp only [n1, e1, hitB, h0, h1, h2, cond_true, cond_false]; done) | (simp [n1, e1, hitB, h0, h1, h2]; done) | ((try simp only [Int.ofNat_eq_natCast, List.length_map, Bool.not_eq_true', Bool.not_eq_false', decide_eq_true_eq, decide_eq_false_iff_not] at h0 h1 h2); first | (simp [n1, e1, hitB, h0, h1, h2]; done) | (refine congrArg _ ?_; simp [n1, e1, hitB, h0, h1, h2]; done) | (refine congrArg _ ?_; simp [n1, e1, hitB, h0, h1, h2]; omega) | (simp only [n1, e1, hitB, Bool.cond_eq_ite, Bool.and_eq_true, Bool.or_eq_true, Bool.not_eq_true', decide_eq_true_eq, beq_iff_eq, beq_eq_false_iff_ne, ne_eq]; (repeat' split) <;> first | rfl | (exfalso; omega) | omega | (simp_all; done) | (exfalso; simp_all; omega)))) (ck_3 l m x i n e k r s h hx hi hy hs hn he h0 h1 h2)
    · exact CodeC.cast (by first | rfl | (simp only [n1, e1, hitB, h0, h1, cond_true, cond_false]; done) | (simp [n1, e1, hitB, h0, h1]; done) | ((try simp only [Int.ofNat_eq_natCast, List.length_map, Bool.not_eq_true', Bool.not_eq_false', decide_eq_true_eq, decide_eq_false_iff_not] at h0 h1); first | (simp [n1, e1, hitB, h0, h1]; done) | (refine congrArg _ ?_; simp [n1, e1, hitB, h0, h1]; done) | (refine congrArg _ ?_; simp [n1, e1, hitB, h0, h1]; omega) | (simp only [n1, e1, hitB, Bool.cond_eq_ite, Bool.and_eq_true, Bool.or_eq_true, Bool.not_eq_true', decide_eq_true_eq, beq_iff_eq, beq_eq_false_iff_ne, ne_eq]; (repeat' split) <;> first | rfl | (exfalso; omega) | omega | (simp_all; done) | (exfalso; simp_all; omega)))) (ck_4 l m x i n e k r s h hx hi hy hs hn he h0 h1)
  · exact CodeC.cast (by first | rfl | (simp only [n1, e1, hitB, h0, cond_true, cond_false]; done) | (simp [n1, e1, hitB, h0]; done) | ((try simp only [Int.ofNat_eq_natCast, List.length_map, Bool.not_eq_true', Bool.not_eq_false', decide_eq_true_eq, decide_eq_false_iff_not] at h0); first | (simp [n1, e1, hitB, h0]; done) | (refine congrArg _ ?_; simp [n1, e1, hitB, h0]; done) | (refine congrArg _ ?_; simp [n1, e1, hitB, h0]; omega) | (simp only [n1, e1, hitB, Bool.cond_eq_ite, Bool.and_eq_true, Bool.or_eq_true, Bool.not_eq_true', decide_eq_true_eq, beq_iff_eq, beq_eq_false_iff_ne, ne_eq]; (repeat' split) <;> first | rfl | (exfalso; omega) | omega | (simp_all; done) | (exfalso; simp_all; omega)))) (ck_5 l m x i n e k r s h hx hi hy hs hn he h0)

theorem ckE_0 (l : List Sp) (m : Int) (x : List Rw) (i n e k : Nat) (h : l.length ≤ k) : CodeC Try.prog 0 128 ckB (ckS l m x i n e k) (Ex.exit (2 : Nat)) ({ env := [((0 : Nat), V.sl (10 : Nat) (List.map Sp.row l)), ((1 : Nat), I m), ((6 : Nat), V.sl (14 : Nat) (List.map Rw.row x)), ((7 : Nat), I (Int.ofNat i)), ((8 : Nat), I (Int.ofNat n)), ((9 : Nat), I (Int.ofNat e)), ((10 : Nat), I (Int.ofNat k))], st := [], ids := [] }) :=
  runP hmix [.reg 11 [(3, [], some false)]] ⟨[0, 1, 6, 7, 8, 9, 10], [], []⟩ [
      decide (Int.ofNat k < Int.ofNat (List.length (List.map Sp.row l))) = false] (by kernel_rfl)
    (by
      simp only [allP]
      and_intros <;> first
        | omega
        | with_reducible assumption
        | (simp; omega)
        | (simp; done)
        | decide)

theorem ckE (l : List Sp) (m : Int) (x : List Rw) (i n e k : Nat) (h : l.length ≤ k)  : CodeC Try.prog 0 128 ckB (ckS l m x i n e k) (.exit 2) (ckS l m x i n e k) := by
  exact CodeC.cast (by first | rfl | (simp only [cond_true, cond_false]; done) | (simp []; done) | (first | (simp []; done) | (refine congrArg _ ?_; simp []; done) | (refine congrArg _ ?_; simp []; omega) | (simp only [Bool.cond_eq_ite, Bool.and_eq_true, Bool.or_eq_true, Bool.not_eq_true', decide_eq_true_eq, beq_iff_eq, beq_eq_false_iff_ne, ne_eq]; (repeat' split) <;> first | rfl | (exfalso; omega) | omega | (simp_all; done) | (exfalso; simp_all; omega)))) (ckE_0 l m x i n e k h )

theorem co_0 (l : List Sp) (m : Int) (x : List Rw) (i n e : Nat) (r : Rw) (hi : i < x.length) (hy : x[i]? = some r) (hs : x.length ≤ 1000) (h0 : n ≠ 0) (h1 : r.c 0 = capR (n : Int) 0 m) (h2 : r.c 1 = capR (e : Int) 0 m) (hl : LoopC Try.prog 0 128 ckB (ckS l m x i 0 0 0) (.exit 2) (ckS l m x i n e l.length)) : CodeC Try.prog 0 128 coB (coS l m x i) (Ex.normal) ({ env := [((0 : Nat), V.sl (10 : Nat) (List.map Sp.row l)), ((1 : Nat), I m), ((6 : Nat), V.sl (14 : Nat) (List.map Rw.row x)), ((7 : Nat), I (Int.ofNat (i + (1 : Nat))))], st := [], ids := [] }) :=
  runP hmix [.reg 6 [(3, [], some true)], .cut ⟨[0, 1, 6, 7, 8, 9, 10], [], []⟩ (.exit 2) (ckS l m x i n e l.length), .reg 17 [(2, [], some false), (8, [.row (Rw.row r)], none), (14, [], some false), (20, [.row (Rw.row r)], none), (25, [], some false)], .reg 7 [(1, [.be (I ((i + 1 : Nat) : Int))], none)], .tab [(17, FCap)]] ⟨[0, 1, 6, 7], [], []⟩ [
      decide (Int.ofNat i < Int.ofNat (List.length (List.map Rw.row x))) = true,
      LoopC Try.prog (0 : Nat) (128 : Nat) ckB { env := [((0 : Nat), V.sl (10 : Nat) (List.map Sp.row l)), ((1 : Nat), I m), ((6 : Nat), V.sl (14 : Nat) (List.map Rw.row x)), ((7 : Nat), I (Int.ofNat i)), ((8 : Nat), I (0 : Int)), ((9 : Nat), I (0 : Int)), ((10 : Nat), I (0 : Int))], st := [], ids := [] } (Ex.exit (2 : Nat)) { env := [((0 : Nat), V.sl (10 : Nat) (List.map Sp.row l)), ((1 : Nat), I m), ((6 : Nat), V.sl (14 : Nat) (List.map Rw.row x)), ((7 : Nat), I (Int.ofNat i)), ((8 : Nat), I (Int.ofNat n)), ((9 : Nat), I (Int.ofNat e)), ((10 : Nat), I (Int.ofNat (List.length l)))], st := [], ids := [] },
      (Int.ofNat n == (0 : Int)) = false,
      (0 : Int) ≤ Int.ofNat i,
      Int.ofNat i < Int.ofNat (List.length (List.map Rw.row x)),
      (List.map Rw.row x)[i]? = some (Rw.row r),
      Contract Try.prog (17 : Nat) [I (Int.ofNat n), I (0 : Int), I m] [] (I (capR (Int.ofNat n) (0 : Int) m)) [],
      (Rw.c r (0 : Nat) != capR (Int.ofNat n) (0 : Int) m) = false,
      (0 : Int) ≤ Int.ofNat i,
      Int.ofNat i < Int.ofNat (List.length (List.map Rw.row x)),
      (List.map Rw.row x)[i]? = some (Rw.row r),
      Contract Try.prog (17 : Nat) [I (Int.ofNat e), I (0 : Int), I m] [] (I (capR (Int.ofNat e) (0 : Int) m)) [],
      (Rw.c r (1 : Nat) != capR (Int.ofNat e) (0 : Int) m) = false,
      IntKind.wrap IntKind.i64 (Int.ofNat (i + (1 : Nat))) = Int.ofNat (i + (1 : Nat))] (by kernel_rfl)
    (by
      simp only [allP]
      and_intros <;> first
        | omega
        | with_reducible assumption
        | (simp; omega)
        | (simp [hy]; done)
        | exact cCap _ _ _
        | exact hl
        | (rw [h1]; simp; done)
        | (rw [h2]; simp; done)
        | exact i64_small (by simp; omega)
        | (simp; done)
        | decide)

theorem co (l : List Sp) (m : Int) (x : List Rw) (i n e : Nat) (r : Rw) (hi : i < x.length) (hy : x[i]? = some r) (hs : x.length ≤ 1000) (h0 : n ≠ 0) (h1 : r.c 0 = capR (n : Int) 0 m) (h2 : r.c 1 = capR (e : Int) 0 m) (hl : LoopC Try.prog 0 128 ckB (ckS l m x i 0 0 0) (.exit 2) (ckS l m x i n e l.length))  : CodeC Try.prog 0 128 coB (coS l m x i) .normal (coS l m x (i + 1)) := by
  exact CodeC.cast (by first | rfl | (simp only [cond_true, cond_false]; done) | (simp []; done) | (first | (simp []; done) | (refine congrArg _ ?_; simp []; done) | (refine congrArg _ ?_; simp []; omega) | (simp only [Bool.cond_eq_ite, Bool.and_eq_true, Bool.or_eq_true, Bool.not_eq_true', decide_eq_true_eq, beq_iff_eq, beq_eq_false_iff_ne, ne_eq]; (repeat' split) <;> first | rfl | (exfalso; omega) | omega | (simp_all; done) | (exfalso; simp_all; omega)))) (co_0 l m x i n e r hi hy hs h0 h1 h2 hl )

theorem coE_0 (l : List Sp) (m : Int) (x : List Rw) (i : Nat) (h : x.length ≤ i) : CodeC Try.prog 0 128 coB (coS l m x i) (Ex.exit (0 : Nat)) ({ env := [((0 : Nat), V.sl (10 : Nat) (List.map Sp.row l)), ((1 : Nat), I m), ((6 : Nat), V.sl (14 : Nat) (List.map Rw.row x)), ((7 : Nat), I (Int.ofNat i))], st := [], ids := [] }) :=
  runP hmix [.reg 6 [(3, [], some false)]] ⟨[0, 1, 6, 7], [], []⟩ [
      decide (Int.ofNat i < Int.ofNat (List.length (List.map Rw.row x))) = false] (by kernel_rfl)
    (by
      simp only [allP]
      and_intros <;> first
        | omega
        | with_reducible assumption
        | (simp; omega)
        | (simp; done)
        | decide)

theorem coE (l : List Sp) (m : Int) (x : List Rw) (i : Nat) (h : x.length ≤ i)  : CodeC Try.prog 0 128 coB (coS l m x i) (.exit 0) (coS l m x i) := by
  exact CodeC.cast (by first | rfl | (simp only [cond_true, cond_false]; done) | (simp []; done) | (first | (simp []; done) | (refine congrArg _ ?_; simp []; done) | (refine congrArg _ ?_; simp []; omega) | (simp only [Bool.cond_eq_ite, Bool.and_eq_true, Bool.or_eq_true, Bool.not_eq_true', decide_eq_true_eq, beq_iff_eq, beq_eq_false_iff_ne, ne_eq]; (repeat' split) <;> first | rfl | (exfalso; omega) | omega | (simp_all; done) | (exfalso; simp_all; omega)))) (coE_0 l m x i h )

theorem cntsA_0 (l : List Sp) (m : Int) (h1 : fewAll l = false) : Contract Try.prog 5 [.sl 10 (l.map Sp.row), I m] [] (Bo true) ([]) :=
  vcP hmix [.reg 2 [(4, [.call [] [] (Bo (fewAll l)) []], none), (7, [], some true)], .tab [(8, FAlive3)]] [] [
      Contract Try.prog (8 : Nat) [] [] (Bo true) [],
      Contract Try.prog (9 : Nat) [V.sl (10 : Nat) (List.map Sp.row l)] [] (Bo (fewAll l)) [],
      (!fewAll l) = true] (by kernel_rfl)
    (by
      simp only [allP]
      and_intros <;> first
        | omega
        | with_reducible assumption
        | exact cAlive
        | exact cFewAll _
        | (simp [h1]; done)
        | (simp; omega)
        | (simp; done)
        | decide)

theorem cntsA (l : List Sp) (m : Int) (h1 : fewAll l = false) : Contract Try.prog 5 [.sl 10 (l.map Sp.row), I m] [] (Bo true) [] := by
  exact Contract.cast (by first | rfl | (simp only [cond_true, cond_false]; done) | (simp []; done) | (first | (simp []; done) | (refine congrArg _ ?_; simp []; done) | (refine congrArg _ ?_; simp []; omega) | (simp only [Bool.cond_eq_ite, Bool.and_eq_true, Bool.or_eq_true, Bool.not_eq_true', decide_eq_true_eq, beq_iff_eq, beq_eq_false_iff_ne, ne_eq]; (repeat' split) <;> first | rfl | (exfalso; omega) | omega | (simp_all; done) | (exfalso; simp_all; omega)))) (by first | rfl | (simp only [cond_true, cond_false]; done) | (simp []; done) | (first | (simp []; done) | (refine congrArg _ ?_; simp []; done) | (refine congrArg _ ?_; simp []; omega) | (simp only [Bool.cond_eq_ite, Bool.and_eq_true, Bool.or_eq_true, Bool.not_eq_true', decide_eq_true_eq, beq_iff_eq, beq_eq_false_iff_ne, ne_eq]; (repeat' split) <;> first | rfl | (exfalso; omega) | omega | (simp_all; done) | (exfalso; simp_all; omega)))) (cntsA_0 l m h1 )

theorem cntsB_0 (l : List Sp) (m : Int) (h1 : fewAll l = true) (h2 : m < 1) : Contract Try.prog 5 [.sl 10 (l.map Sp.row), I m] [] (Bo true) ([]) :=
  vcP hmix [.reg 2 [(4, [.call [] [] (Bo (fewAll l)) []], none), (7, [], some false), (11, [], some true)], .tab [(8, FAlive3)]] [] [
      Contract Try.prog (8 : Nat) [] [] (Bo true) [],
      Contract Try.prog (9 : Nat) [V.sl (10 : Nat) (List.map Sp.row l)] [] (Bo (fewAll l)) [],
      (!fewAll l) = false,
      decide (m < (1 : Int)) = true] (by kernel_rfl)
    (by
      simp only [allP]
      and_intros <;> first
        | omega
        | with_reducible assumption
        | exact cAlive
        | exact cFewAll _
        | (simp [h1]; done)
        | (simp; omega)
        | (simp; done)
        | decide)

theorem cntsB (l : List Sp) (m : Int) (h1 : fewAll l = true) (h2 : m < 1) : Contract Try.prog 5 [.sl 10 (l.map Sp.row), I m] [] (Bo true) [] := by
  exact Contract.cast (by first | rfl | (simp only [cond_true, cond_false]; done) | (simp []; done) | (first | (simp []; done) | (refine congrArg _ ?_; simp []; done) | (refine congrArg _ ?_; simp []; omega) | (simp only [Bool.cond_eq_ite, Bool.and_eq_true, Bool.or_eq_true, Bool.not_eq_true', decide_eq_true_eq, beq_iff_eq, beq_eq_false_iff_ne, ne_eq]; (repeat' split) <;> first | rfl | (exfalso; omega) | omega | (simp_all; done) | (exfalso; simp_all; omega)))) (by first | rfl | (simp only [cond_true, cond_false]; done) | (simp []; done) | (first | (simp []; done) | (refine congrArg _ ?_; simp []; done) | (refine congrArg _ ?_; simp []; omega) | (simp only [Bool.cond_eq_ite, Bool.and_eq_true, Bool.or_eq_true, Bool.not_eq_true', decide_eq_true_eq, beq_iff_eq, beq_eq_false_iff_ne, ne_eq]; (repeat' split) <;> first | rfl | (exfalso; omega) | omega | (simp_all; done) | (exfalso; simp_all; omega)))) (cntsB_0 l m h1 h2 )

theorem cntsC_0 (l : List Sp) (m : Int) (h1 : fewAll l = true) (h2 : ¬ m < 1) (h3 : m > 1000) : Contract Try.prog 5 [.sl 10 (l.map Sp.row), I m] [] (Bo true) ([]) :=
  vcP hmix [.reg 2 [(4, [.call [] [] (Bo (fewAll l)) []], none), (7, [], some false), (11, [], some false), (14, [], some true)], .tab [(8, FAlive3)]] [] [
      Contract Try.prog (8 : Nat) [] [] (Bo true) [],
      Contract Try.prog (9 : Nat) [V.sl (10 : Nat) (List.map Sp.row l)] [] (Bo (fewAll l)) [],
      (!fewAll l) = false,
      decide (m < (1 : Int)) = false,
      decide (m > (1000 : Int)) = true] (by kernel_rfl)
    (by
      simp only [allP]
      and_intros <;> first
        | omega
        | with_reducible assumption
        | exact cAlive
        | exact cFewAll _
        | (simp [h1]; done)
        | (simp; omega)
        | (simp; done)
        | decide)

theorem cntsC (l : List Sp) (m : Int) (h1 : fewAll l = true) (h2 : ¬ m < 1) (h3 : m > 1000) : Contract Try.prog 5 [.sl 10 (l.map Sp.row), I m] [] (Bo true) [] := by
  exact Contract.cast (by first | rfl | (simp only [cond_true, cond_false]; done) | (simp []; done) | (first | (simp []; done) | (refine congrArg _ ?_; simp []; done) | (refine congrArg _ ?_; simp []; omega) | (simp only [Bool.cond_eq_ite, Bool.and_eq_true, Bool.or_eq_true, Bool.not_eq_true', decide_eq_true_eq, beq_iff_eq, beq_eq_false_iff_ne, ne_eq]; (repeat' split) <;> first | rfl | (exfalso; omega) | omega | (simp_all; done) | (exfalso; simp_all; omega)))) (by first | rfl | (simp only [cond_true, cond_false]; done) | (simp []; done) | (first | (simp []; done) | (refine congrArg _ ?_; simp []; done) | (refine congrArg _ ?_; simp []; omega) | (simp only [Bool.cond_eq_ite, Bool.and_eq_true, Bool.or_eq_true, Bool.not_eq_true', decide_eq_true_eq, beq_iff_eq, beq_eq_false_iff_ne, ne_eq]; (repeat' split) <;> first | rfl | (exfalso; omega) | omega | (simp_all; done) | (exfalso; simp_all; omega)))) (cntsC_0 l m h1 h2 h3 )

theorem cntsD_0 (l : List Sp) (m : Int) (h1 : fewAll l = true) (h2 : ¬ m < 1) (h3 : ¬ m > 1000) (hs : l.length ≤ 60) (ha : ∀ x ∈ l, x.attrs.length ≤ 1000000000) (hl : LoopC Try.prog 0 128 coB (coS l m (rowsR l m) 0) (.exit 0) (coS l m (rowsR l m) (rowsR l m).length)) : Contract Try.prog 5 [.sl 10 (l.map Sp.row), I m] [] (Bo true) ([]) :=
  vcP hmix [.reg 2 [(4, [.call [] [] (Bo (fewAll l)) []], none), (7, [], some false), (11, [], some false), (14, [], some false)], .reg 4 [(2, [.call [] [] (.own 0) [some (.arr 14 ((rowsR l m).map Rw.row))]], none), (3, [.idx 1], none)], .cut ⟨[0, 1, 6, 7], [], []⟩ (.exit 0) (coS l m (rowsR l m) (rowsR l m).length), .tab [(8, FAlive3)]] [] [
      Contract Try.prog (8 : Nat) [] [] (Bo true) [],
      Contract Try.prog (9 : Nat) [V.sl (10 : Nat) (List.map Sp.row l)] [] (Bo (fewAll l)) [],
      (!fewAll l) = false,
      decide (m < (1 : Int)) = false,
      decide (m > (1000 : Int)) = false,
      Contract Try.prog (10 : Nat) [V.sl (10 : Nat) (List.map Sp.row l), I m] [] (V.own (0 : Nat)) [some (Obj.arr (14 : Nat) (List.map Rw.row (rowsR l m)))],
      LoopC Try.prog (0 : Nat) (128 : Nat) coB { env := [((0 : Nat), V.sl (10 : Nat) (List.map Sp.row l)), ((1 : Nat), I m), ((6 : Nat), V.sl (14 : Nat) (List.map Rw.row (rowsR l m))), ((7 : Nat), I (0 : Int))], st := [], ids := [] } (Ex.exit (0 : Nat)) { env := [((0 : Nat), V.sl (10 : Nat) (List.map Sp.row l)), ((1 : Nat), I m), ((6 : Nat), V.sl (14 : Nat) (List.map Rw.row (rowsR l m))), ((7 : Nat), I (Int.ofNat (List.length (rowsR l m))))], st := [], ids := [] }] (by kernel_rfl)
    (by
      simp only [allP]
      and_intros <;> first
        | omega
        | with_reducible assumption
        | exact cAlive
        | exact cFewAll _
        | (simp [h1]; done)
        | (simp; omega)
        | exact cRows l m (by omega) ha
        | exact flatRw _
        | exact hl
        | (simp; done)
        | decide)

theorem cntsD (l : List Sp) (m : Int) (h1 : fewAll l = true) (h2 : ¬ m < 1) (h3 : ¬ m > 1000) (hs : l.length ≤ 60) (ha : ∀ x ∈ l, x.attrs.length ≤ 1000000000) (hl : LoopC Try.prog 0 128 coB (coS l m (rowsR l m) 0) (.exit 0) (coS l m (rowsR l m) (rowsR l m).length)) : Contract Try.prog 5 [.sl 10 (l.map Sp.row), I m] [] (Bo true) [] := by
  exact Contract.cast (by first | rfl | (simp only [cond_true, cond_false]; done) | (simp []; done) | (first | (simp []; done) | (refine congrArg _ ?_; simp []; done) | (refine congrArg _ ?_; simp []; omega) | (simp only [Bool.cond_eq_ite, Bool.and_eq_true, Bool.or_eq_true, Bool.not_eq_true', decide_eq_true_eq, beq_iff_eq, beq_eq_false_iff_ne, ne_eq]; (repeat' split) <;> first | rfl | (exfalso; omega) | omega | (simp_all; done) | (exfalso; simp_all; omega)))) (by first | rfl | (simp only [cond_true, cond_false]; done) | (simp []; done) | (first | (simp []; done) | (refine congrArg _ ?_; simp []; done) | (refine congrArg _ ?_; simp []; omega) | (simp only [Bool.cond_eq_ite, Bool.and_eq_true, Bool.or_eq_true, Bool.not_eq_true', decide_eq_true_eq, beq_iff_eq, beq_eq_false_iff_ne, ne_eq]; (repeat' split) <;> first | rfl | (exfalso; omega) | omega | (simp_all; done) | (exfalso; simp_all; omega)))) (cntsD_0 l m h1 h2 h3 hs ha hl )

theorem n1_sum (r : Rw) : ∀ (l : List Sp) (a : Nat × Nat), l.foldl (fun a s => (a.1 + n1 r s, a.2 + e1 r s)) a = (a.1 + (l.filter (hitB r)).length, a.2 + ((l.filter (hitB r)).filter (·.err)).length)
  | [], a => by simp
  | s :: l, a => by
    rw [List.foldl_cons, n1_sum r l]
    unfold n1 e1
    cases h : hitB r s <;> cases h2 : s.err <;> simp [List.filter_cons, h, h2] <;> omega
theorem sum_one (l : List Sp) : (l.map fun s => oneS s 0).sum = (l.length : Int) := by
  induction l with
  | nil => rfl
  | cons s l ih => rw [List.map_cons, List.sum_cons, ih]; show (1 : Int) + _ = _; simp; omega
theorem sum_err (l : List Sp) : (l.map fun s => oneS s 1).sum = ((l.filter (·.err)).length : Int) := by
  induction l with
  | nil => rfl
  | cons s l ih =>
    rw [List.map_cons, List.sum_cons, ih]
    show (bif s.err then (1 : Int) else 0) + _ = _
    cases h : s.err <;> simp [List.filter_cons, h]; omega
theorem cCounts (l : List Sp) (m : Int) : Contract Try.prog 5 [.sl 10 (l.map Sp.row), I m] [] (Bo true) [] := by
  cases h1 : fewAll l with
  | false => exact cntsA l m h1
  | true =>
    by_cases h2 : m < 1
    · exact cntsB l m h1 h2
    · by_cases h3 : m > 1000
      · exact cntsC l m h1 h2 h3
      · obtain ⟨hs, ha⟩ := fewAll_len h1
        have hm : inI m := by unfold inI; omega
        have hr := rowsR_len l m
        refine cntsD l m h1 h2 h3 hs (fun x hx => by have := ha x hx; omega) ?_
        have := LoopC.fold (P := Try.prog) (k := 0) (n := 128) (c := coB) (rowsR l m) (fun (u : Unit) _ => u) (fun _ _ => True) (fun _ i => coS l m (rowsR l m) i) (e := .exit 0) (by simp)
          (fun i u r hx hi _ => ⟨?_, trivial⟩) (fun u _ => coE l m _ _ (Nat.le_refl _)) () trivial
        · exact this
        · obtain ⟨hv, hne, hc⟩ := row_is hm (List.mem_of_getElem? hx)
          have hin := LoopC.fold (P := Try.prog) (k := 0) (n := 128) (c := ckB) l (fun (a : Nat × Nat) s => (a.1 + n1 r s, a.2 + e1 r s)) (fun k a => a.1 ≤ k ∧ a.2 ≤ k) (fun a k => ckS l m (rowsR l m) i a.1 a.2 k) (e := .exit 2) (by simp)
            (fun k a s hs' hk hv => ⟨ck l m _ i a.1 a.2 k r s hk hs' hi hx hs hv.1 hv.2, by
              unfold n1 e1
              cases hitB r s <;> cases s.err <;> simp <;> omega⟩) (fun a _ => ckE l m _ i a.1 a.2 _ (Nat.le_refl _)) (0, 0) ⟨Nat.le_refl _, Nat.le_refl _⟩
          rw [n1_sum] at hin
          simp only [Nat.zero_add] at hin
          have h0 := hc 0
          have h4 := hc 1
          rw [sum_one] at h0
          rw [sum_err] at h4
          have hcap : ∀ n : Nat, (if (if 0 < m then m else 0) < (n : Int) then (if 0 < m then m else 0) else (n : Int)) = capR (n : Int) 0 m := by
            intro n
            unfold capR
            rw [if_pos (show 0 < m by omega)]
            have : decide ((n : Int) < 0) = false := by simp
            rw [this]
            by_cases h : m < (n : Int)
            · simp [h]
            · simp [h]
          rw [hcap] at h0 h4
          exact co l m _ i _ _ r hi hx (by omega) (fun h => hne (List.eq_nil_of_length_eq_zero h)) h0 h4 hin
end Go.Proofs.Ytigakemkanobaaa
