/- rollup: windows and those that they are made of: the walk. -/
import Derived.Test.YtigakemkanobaaaRwJ
namespace Go.Proofs.Ytigakemkanobaaa
open E
set_option maxRecDepth 100000
set_option linter.unusedVariables false
set_option linter.unusedSimpArgs false


def upW (v n : Int) : Int := n * lenW v / lenW (v + 1)
/-- Whether a row's window is one of those that a row's window is made of. -/
def upB (q r : Rw) : Bool := q.lev != 2 && decide (q.lev + 1 = r.lev) && decide (upW q.lev q.win = r.win) && q.svc.toList == r.svc.toList && q.op.toList == r.op.toList
def stU (r : Rw) (m : Int) (f : Nat → Int) (q : Rw) : Nat → Int := bif upB q r then sumF f q.c m else f
def uiS (l : List Sp) (m : Int) (x : List Rw) (i : Nat) (f : Nat → Int) (k : Nat) : SL := ⟨[(0, .sl 10 (l.map Sp.row)), (1, I m), (6, .sl 14 (x.map Rw.row)), (7, I (i : Int)), (8, .ptr 900 0 0 0), (9, I (k : Int))], [(900, .box (c10 f))], [900]⟩
def uoS (l : List Sp) (m : Int) (x : List Rw) (i : Nat) : SL := ⟨[(0, .sl 10 (l.map Sp.row)), (1, I m), (6, .sl 14 (x.map Rw.row)), (7, I (i : Int))], [], []⟩
def FAlive4 : List V → Option V := fun _ => some (Bo true)
noncomputable def uiB : Code := codeAt Try.prog 4 [true, true, true, true, false, true, false, false, true, false, false, true, true, false, true, false, false]

noncomputable def uoB : Code := codeAt Try.prog 4 [true, true, true, true, false, true, false, false]

theorem cUp0_0 (n : Int) (hg : goodW 0 n = true) : Contract Try.prog 13 [I 0, I n] [] (V.tup [I (1 : Int), I (upW (0 : Int) n), Bo true]) ([]) :=
  vcP hmix [.reg 1 [(2, [.call [] [] (.tup [I (n * 60), I ((n + 1) * 60), Bo true]) []], none)], .reg 4 [(5, [.call [] [] (I 3600) []], none), (6, [.be (I (upW 0 n))], none)]] [] [
      Contract Try.prog (25 : Nat) [I (0 : Int), I n] [] (V.tup [I (n * (60 : Int)), I ((n + (1 : Int)) * (60 : Int)), Bo true]) [],
      Contract Try.prog (27 : Nat) [I (1 : Int)] [] (I (3600 : Int)) [],
      IntKind.wrap IntKind.i64 (Int.tdiv (n * (60 : Int)) (3600 : Int)) = upW (0 : Int) n] (by kernel_rfl)
    (by
      simp only [allP]
      and_intros <;> first
        | omega
        | with_reducible assumption
        | (have h := cSpanR 0 n; unfold spanV at h; rw [hg] at h; exact h)
        | exact cLong 1
        | (simp; done)
        | (have h : 0 ≤ n ∧ n ≤ 18325193796 := (by unfold goodW withinB at hg; simp [lenW] at hg; omega); show IntKind.i64.wrap (Int.tdiv (n * 60) 3600) = n * 60 / 3600; rw [Int.tdiv_eq_ediv_of_nonneg (by omega)]; exact i64_small (by omega))
        | (simp; done)
        | decide)

theorem cUp0 (n : Int) (hg : goodW 0 n = true) : Contract Try.prog 13 [I 0, I n] [] (.tup [I 1, I (upW 0 n), Bo true]) [] := by
  exact Contract.cast (by first | rfl | (simp only [cond_true, cond_false]; done) | (simp []; done) | (first | (simp []; done) | (refine congrArg _ ?_; simp []; done) | (refine congrArg _ ?_; simp []; omega) | (simp only [Bool.cond_eq_ite, Bool.and_eq_true, Bool.or_eq_true, Bool.not_eq_true', decide_eq_true_eq, beq_iff_eq, beq_eq_false_iff_ne, ne_eq]; (repeat' split) <;> first | rfl | (exfalso; omega) | omega | (simp_all; done) | (exfalso; simp_all; omega)))) (by first | rfl | (simp only [cond_true, cond_false]; done) | (simp []; done) | (first | (simp []; done) | (refine congrArg _ ?_; simp []; done) | (refine congrArg _ ?_; simp []; omega) | (simp only [Bool.cond_eq_ite, Bool.and_eq_true, Bool.or_eq_true, Bool.not_eq_true', decide_eq_true_eq, beq_iff_eq, beq_eq_false_iff_ne, ne_eq]; (repeat' split) <;> first | rfl | (exfalso; omega) | omega | (simp_all; done) | (exfalso; simp_all; omega)))) (cUp0_0 n hg )

theorem cUp1_0 (n : Int) (hg : goodW 1 n = true) : Contract Try.prog 13 [I 1, I n] [] (V.tup [I (2 : Int), I (upW (1 : Int) n), Bo true]) ([]) :=
  vcP hmix [.reg 1 [(2, [.call [] [] (.tup [I (n * 3600), I ((n + 1) * 3600), Bo true]) []], none)], .reg 4 [(5, [.call [] [] (I 86400) []], none), (6, [.be (I (upW 1 n))], none)]] [] [
      Contract Try.prog (25 : Nat) [I (1 : Int), I n] [] (V.tup [I (n * (3600 : Int)), I ((n + (1 : Int)) * (3600 : Int)), Bo true]) [],
      Contract Try.prog (27 : Nat) [I (2 : Int)] [] (I (86400 : Int)) [],
      IntKind.wrap IntKind.i64 (Int.tdiv (n * (3600 : Int)) (86400 : Int)) = upW (1 : Int) n] (by kernel_rfl)
    (by
      simp only [allP]
      and_intros <;> first
        | omega
        | with_reducible assumption
        | (have h := cSpanR 1 n; unfold spanV at h; rw [hg] at h; exact h)
        | exact cLong 2
        | (simp; done)
        | (have h : 0 ≤ n ∧ n ≤ 18325193796 := (by unfold goodW withinB at hg; simp [lenW] at hg; omega); show IntKind.i64.wrap (Int.tdiv (n * 3600) 86400) = n * 3600 / 86400; rw [Int.tdiv_eq_ediv_of_nonneg (by omega)]; exact i64_small (by omega))
        | (simp; done)
        | decide)

theorem cUp1 (n : Int) (hg : goodW 1 n = true) : Contract Try.prog 13 [I 1, I n] [] (.tup [I 2, I (upW 1 n), Bo true]) [] := by
  exact Contract.cast (by first | rfl | (simp only [cond_true, cond_false]; done) | (simp []; done) | (first | (simp []; done) | (refine congrArg _ ?_; simp []; done) | (refine congrArg _ ?_; simp []; omega) | (simp only [Bool.cond_eq_ite, Bool.and_eq_true, Bool.or_eq_true, Bool.not_eq_true', decide_eq_true_eq, beq_iff_eq, beq_eq_false_iff_ne, ne_eq]; (repeat' split) <;> first | rfl | (exfalso; omega) | omega | (simp_all; done) | (exfalso; simp_all; omega)))) (by first | rfl | (simp only [cond_true, cond_false]; done) | (simp []; done) | (first | (simp []; done) | (refine congrArg _ ?_; simp []; done) | (refine congrArg _ ?_; simp []; omega) | (simp only [Bool.cond_eq_ite, Bool.and_eq_true, Bool.or_eq_true, Bool.not_eq_true', decide_eq_true_eq, beq_iff_eq, beq_eq_false_iff_ne, ne_eq]; (repeat' split) <;> first | rfl | (exfalso; omega) | omega | (simp_all; done) | (exfalso; simp_all; omega)))) (cUp1_0 n hg )

theorem cUp2_0 (n : Int) (hg : goodW 2 n = true) : Contract Try.prog 13 [I 2, I n] [] (V.tup [I (0 : Int), I (0 : Int), Bo false]) ([]) :=
  vcP hmix [.reg 1 [(2, [.call [] [] (.tup [I (n * 86400), I ((n + 1) * 86400), Bo true]) []], none)]] [] [
      Contract Try.prog (25 : Nat) [I (2 : Int), I n] [] (V.tup [I (n * (86400 : Int)), I ((n + (1 : Int)) * (86400 : Int)), Bo true]) []] (by kernel_rfl)
    (by
      simp only [allP]
      and_intros <;> first
        | omega
        | with_reducible assumption
        | (have h := cSpanR 2 n; unfold spanV at h; rw [hg] at h; exact h)
        | (simp; done)
        | decide)

theorem cUp2 (n : Int) (hg : goodW 2 n = true) : Contract Try.prog 13 [I 2, I n] [] (.tup [I 0, I 0, Bo false]) [] := by
  exact Contract.cast (by first | rfl | (simp only [cond_true, cond_false]; done) | (simp []; done) | (first | (simp []; done) | (refine congrArg _ ?_; simp []; done) | (refine congrArg _ ?_; simp []; omega) | (simp only [Bool.cond_eq_ite, Bool.and_eq_true, Bool.or_eq_true, Bool.not_eq_true', decide_eq_true_eq, beq_iff_eq, beq_eq_false_iff_ne, ne_eq]; (repeat' split) <;> first | rfl | (exfalso; omega) | omega | (simp_all; done) | (exfalso; simp_all; omega)))) (by first | rfl | (simp only [cond_true, cond_false]; done) | (simp []; done) | (first | (simp []; done) | (refine congrArg _ ?_; simp []; done) | (refine congrArg _ ?_; simp []; omega) | (simp only [Bool.cond_eq_ite, Bool.and_eq_true, Bool.or_eq_true, Bool.not_eq_true', decide_eq_true_eq, beq_iff_eq, beq_eq_false_iff_ne, ne_eq]; (repeat' split) <;> first | rfl | (exfalso; omega) | omega | (simp_all; done) | (exfalso; simp_all; omega)))) (cUp2_0 n hg )

theorem uiT_0 (l : List Sp) (m : Int) (x : List Rw) (i : Nat) (f : Nat → Int) (k : Nat) (r q : Rw) (v n : Int) (h : k < x.length) (hx : x[k]? = some q) (hi : i < x.length) (hy : x[i]? = some r) (hs : x.length ≤ 1000) (hc : Contract Try.prog 13 [I q.lev, I q.win] [] (.tup [I v, I n, Bo true]) []) (h2 : (q.lev != 2) = true) (hv : v = q.lev + 1) (hn : n = upW q.lev q.win) (tq0 : (v == Rw.lev r) = true) (tq1 : (n == Rw.win r) = true) (tq2 : (ByteArray.toList (Rw.svc q) == ByteArray.toList (Rw.svc r)) = true) (tq3 : (ByteArray.toList (Rw.op q) == ByteArray.toList (Rw.op r)) = true) : CodeC Try.prog 0 118 uiB (uiS l m x i f k) (Ex.normal) ({ env := [((0 : Nat), V.sl (10 : Nat) (List.map Sp.row l)), ((1 : Nat), I m), ((6 : Nat), V.sl (14 : Nat) (List.map Rw.row x)), ((7 : Nat), I (Int.ofNat i)), ((8 : Nat), V.ptr (900 : Nat) (0 : Nat) (0 : Nat) (0 : Nat)), ((9 : Nat), I (Int.ofNat (k + (1 : Nat))))], st := [((900 : Nat), Obj.box [I (sumF f (Rw.c q) m (0 : Nat)), I (sumF f (Rw.c q) m (1 : Nat)), I (sumF f (Rw.c q) m (2 : Nat)), I (sumF f (Rw.c q) m (3 : Nat)), I (sumF f (Rw.c q) m (4 : Nat)), I (sumF f (Rw.c q) m (5 : Nat)), I (sumF f (Rw.c q) m (6 : Nat)), I (sumF f (Rw.c q) m (7 : Nat)), I (sumF f (Rw.c q) m (8 : Nat)), I (sumF f (Rw.c q) m (9 : Nat))])], ids := [(900 : Nat)] }) :=
  runP hmix [.reg 11 [(3, [], some true)], .reg 13 [(4, [.row (Rw.row q)], none), (9, [.row (Rw.row q)], none), (10, [.call [] [] (.tup [I v, I n, Bo true]) []], none)], .reg 14 [(7, [.row (Rw.row r)], none), (10, [], some true), (16, [.row (Rw.row r)], none), (19, [], some true), (24, [.row (Rw.row q)], none), (29, [.row (Rw.row r)], none), (32, [], some true), (37, [.row (Rw.row q)], none), (42, [.row (Rw.row r)], none), (44, [], some true)], .reg 15 [(5, [.row (Rw.row q)], none), (7, [.call [] [] (.agg (c10 (sumF f q.c m))) []], none)], .reg 12 [(1, [.be (I ((k + 1 : Nat) : Int))], none)]] ⟨[0, 1, 6, 7, 8, 9], [(900, 900)], []⟩ [
      decide (Int.ofNat k < Int.ofNat (List.length (List.map Rw.row x))) = true,
      (0 : Int) ≤ Int.ofNat k,
      Int.ofNat k < Int.ofNat (List.length (List.map Rw.row x)),
      (List.map Rw.row x)[k]? = some (Rw.row q),
      (0 : Int) ≤ Int.ofNat k,
      Int.ofNat k < Int.ofNat (List.length (List.map Rw.row x)),
      (List.map Rw.row x)[k]? = some (Rw.row q),
      Contract Try.prog (13 : Nat) [I (Rw.lev q), I (Rw.win q)] [] (V.tup [I v, I n, Bo true]) [],
      (0 : Int) ≤ Int.ofNat i,
      Int.ofNat i < Int.ofNat (List.length (List.map Rw.row x)),
      (List.map Rw.row x)[i]? = some (Rw.row r),
      (v == Rw.lev r) = true,
      (0 : Int) ≤ Int.ofNat i,
      Int.ofNat i < Int.ofNat (List.length (List.map Rw.row x)),
      (List.map Rw.row x)[i]? = some (Rw.row r),
      (n == Rw.win r) = true,
      (0 : Int) ≤ Int.ofNat k,
      Int.ofNat k < Int.ofNat (List.length (List.map Rw.row x)),
      (List.map Rw.row x)[k]? = some (Rw.row q),
      (0 : Int) ≤ Int.ofNat i,
      Int.ofNat i < Int.ofNat (List.length (List.map Rw.row x)),
      (List.map Rw.row x)[i]? = some (Rw.row r),
      (ByteArray.toList (Rw.svc q) == ByteArray.toList (Rw.svc r)) = true,
      (0 : Int) ≤ Int.ofNat k,
      Int.ofNat k < Int.ofNat (List.length (List.map Rw.row x)),
      (List.map Rw.row x)[k]? = some (Rw.row q),
      (0 : Int) ≤ Int.ofNat i,
      Int.ofNat i < Int.ofNat (List.length (List.map Rw.row x)),
      (List.map Rw.row x)[i]? = some (Rw.row r),
      (ByteArray.toList (Rw.op q) == ByteArray.toList (Rw.op r)) = true,
      (0 : Int) ≤ Int.ofNat k,
      Int.ofNat k < Int.ofNat (List.length (List.map Rw.row x)),
      (List.map Rw.row x)[k]? = some (Rw.row q),
      Contract Try.prog (14 : Nat) [V.agg [I (f (0 : Nat)), I (f (1 : Nat)), I (f (2 : Nat)), I (f (3 : Nat)), I (f (4 : Nat)), I (f (5 : Nat)), I (f (6 : Nat)), I (f (7 : Nat)), I (f (8 : Nat)), I (f (9 : Nat))], V.agg [I (Rw.c q (0 : Nat)), I (Rw.c q (1 : Nat)), I (Rw.c q (2 : Nat)), I (Rw.c q (3 : Nat)), I (Rw.c q (4 : Nat)), I (Rw.c q (5 : Nat)), I (Rw.c q (6 : Nat)), I (Rw.c q (7 : Nat)), I (Rw.c q (8 : Nat)), I (Rw.c q (9 : Nat))], I m] [] (V.agg [I (sumF f (Rw.c q) m (0 : Nat)), I (sumF f (Rw.c q) m (1 : Nat)), I (sumF f (Rw.c q) m (2 : Nat)), I (sumF f (Rw.c q) m (3 : Nat)), I (sumF f (Rw.c q) m (4 : Nat)), I (sumF f (Rw.c q) m (5 : Nat)), I (sumF f (Rw.c q) m (6 : Nat)), I (sumF f (Rw.c q) m (7 : Nat)), I (sumF f (Rw.c q) m (8 : Nat)), I (sumF f (Rw.c q) m (9 : Nat))]) [],
      IntKind.wrap IntKind.i64 (Int.ofNat (k + (1 : Nat))) = Int.ofNat (k + (1 : Nat))] (by kernel_rfl)
    (by
      have d0 := tq0
      have d1 := tq1
      have d2 := tq2
      have d3 := tq3
      try simp only [Int.ofNat_eq_natCast, List.length_map, Bool.not_eq_true', Bool.not_eq_false', decide_eq_true_eq, decide_eq_false_iff_not] at d0 d1 d2 d3
      simp only [allP]
      and_intros <;> first
        | omega
        | with_reducible assumption
        | (simp; omega)
        | (simp [hx]; done)
        | (simp [hy]; done)
        | exact hc
        | exact cJoin _ _ _
        | exact i64_small (by simp; omega)
        | (simp; done)
        | decide)

theorem uiT_1 (l : List Sp) (m : Int) (x : List Rw) (i : Nat) (f : Nat → Int) (k : Nat) (r q : Rw) (v n : Int) (h : k < x.length) (hx : x[k]? = some q) (hi : i < x.length) (hy : x[i]? = some r) (hs : x.length ≤ 1000) (hc : Contract Try.prog 13 [I q.lev, I q.win] [] (.tup [I v, I n, Bo true]) []) (h2 : (q.lev != 2) = true) (hv : v = q.lev + 1) (hn : n = upW q.lev q.win) (tq0 : (v == Rw.lev r) = true) (tq1 : (n == Rw.win r) = true) (tq2 : (ByteArray.toList (Rw.svc q) == ByteArray.toList (Rw.svc r)) = true) (tq3 : (ByteArray.toList (Rw.op q) == ByteArray.toList (Rw.op r)) = false) : CodeC Try.prog 0 118 uiB (uiS l m x i f k) (Ex.normal) ({ env := [((0 : Nat), V.sl (10 : Nat) (List.map Sp.row l)), ((1 : Nat), I m), ((6 : Nat), V.sl (14 : Nat) (List.map Rw.row x)), ((7 : Nat), I (Int.ofNat i)), ((8 : Nat), V.ptr (900 : Nat) (0 : Nat) (0 : Nat) (0 : Nat)), ((9 : Nat), I (Int.ofNat (k + (1 : Nat))))], st := [((900 : Nat), Obj.box [I (f (0 : Nat)), I (f (1 : Nat)), I (f (2 : Nat)), I (f (3 : Nat)), I (f (4 : Nat)), I (f (5 : Nat)), I (f (6 : Nat)), I (f (7 : Nat)), I (f (8 : Nat)), I (f (9 : Nat))])], ids := [(900 : Nat)] }) :=
  runP hmix [.reg 11 [(3, [], some true)], .reg 13 [(4, [.row (Rw.row q)], none), (9, [.row (Rw.row q)], none), (10, [.call [] [] (.tup [I v, I n, Bo true]) []], none)], .reg 14 [(7, [.row (Rw.row r)], none), (10, [], some true), (16, [.row (Rw.row r)], none), (19, [], some true), (24, [.row (Rw.row q)], none), (29, [.row (Rw.row r)], none), (32, [], some true), (37, [.row (Rw.row q)], none), (42, [.row (Rw.row r)], none), (44, [], some false)], .reg 12 [(1, [.be (I ((k + 1 : Nat) : Int))], none)]] ⟨[0, 1, 6, 7, 8, 9], [(900, 900)], []⟩ [
      decide (Int.ofNat k < Int.ofNat (List.length (List.map Rw.row x))) = true,
      (0 : Int) ≤ Int.ofNat k,
      Int.ofNat k < Int.ofNat (List.length (List.map Rw.row x)),
      (List.map Rw.row x)[k]? = some (Rw.row q),
      (0 : Int) ≤ Int.ofNat k,
      Int.ofNat k < Int.ofNat (List.length (List.map Rw.row x)),
      (List.map Rw.row x)[k]? = some (Rw.row q),
      Contract Try.prog (13 : Nat) [I (Rw.lev q), I (Rw.win q)] [] (V.tup [I v, I n, Bo true]) [],
      (0 : Int) ≤ Int.ofNat i,
      Int.ofNat i < Int.ofNat (List.length (List.map Rw.row x)),
      (List.map Rw.row x)[i]? = some (Rw.row r),
      (v == Rw.lev r) = true,
      (0 : Int) ≤ Int.ofNat i,
      Int.ofNat i < Int.ofNat (List.length (List.map Rw.row x)),
      (List.map Rw.row x)[i]? = some (Rw.row r),
      (n == Rw.win r) = true,
      (0 : Int) ≤ Int.ofNat k,
      Int.ofNat k < Int.ofNat (List.length (List.map Rw.row x)),
      (List.map Rw.row x)[k]? = some (Rw.row q),
      (0 : Int) ≤ Int.ofNat i,
      Int.ofNat i < Int.ofNat (List.length (List.map Rw.row x)),
      (List.map Rw.row x)[i]? = some (Rw.row r),
      (ByteArray.toList (Rw.svc q) == ByteArray.toList (Rw.svc r)) = true,
      (0 : Int) ≤ Int.ofNat k,
      Int.ofNat k < Int.ofNat (List.length (List.map Rw.row x)),
      (List.map Rw.row x)[k]? = some (Rw.row q),
      (0 : Int) ≤ Int.ofNat i,
      Int.ofNat i < Int.ofNat (List.length (List.map Rw.row x)),
      (List.map Rw.row x)[i]? = some (Rw.row r),
      (ByteArray.toList (Rw.op q) == ByteArray.toList (Rw.op r)) = false,
      IntKind.wrap IntKind.i64 (Int.ofNat (k + (1 : Nat))) = Int.ofNat (k + (1 : Nat))] (by kernel_rfl)
    (by
      have d0 := tq0
      have d1 := tq1
      have d2 := tq2
      have d3 := tq3
      try simp only [Int.ofNat_eq_natCast, List.length_map, Bool.not_eq_true', Bool.not_eq_false', decide_eq_true_eq, decide_eq_false_iff_not] at d0 d1 d2 d3
      simp only [allP]
      and_intros <;> first
        | omega
        | with_reducible assumption
        | (simp; omega)
        | (simp [hx]; done)
        | (simp [hy]; done)
        | exact hc
        | exact cJoin _ _ _
        | exact i64_small (by simp; omega)
        | (simp; done)
        | decide)

theorem uiT_2 (l : List Sp) (m : Int) (x : List Rw) (i : Nat) (f : Nat → Int) (k : Nat) (r q : Rw) (v n : Int) (h : k < x.length) (hx : x[k]? = some q) (hi : i < x.length) (hy : x[i]? = some r) (hs : x.length ≤ 1000) (hc : Contract Try.prog 13 [I q.lev, I q.win] [] (.tup [I v, I n, Bo true]) []) (h2 : (q.lev != 2) = true) (hv : v = q.lev + 1) (hn : n = upW q.lev q.win) (tq0 : (v == Rw.lev r) = true) (tq1 : (n == Rw.win r) = true) (tq2 : (ByteArray.toList (Rw.svc q) == ByteArray.toList (Rw.svc r)) = false) : CodeC Try.prog 0 118 uiB (uiS l m x i f k) (Ex.normal) ({ env := [((0 : Nat), V.sl (10 : Nat) (List.map Sp.row l)), ((1 : Nat), I m), ((6 : Nat), V.sl (14 : Nat) (List.map Rw.row x)), ((7 : Nat), I (Int.ofNat i)), ((8 : Nat), V.ptr (900 : Nat) (0 : Nat) (0 : Nat) (0 : Nat)), ((9 : Nat), I (Int.ofNat (k + (1 : Nat))))], st := [((900 : Nat), Obj.box [I (f (0 : Nat)), I (f (1 : Nat)), I (f (2 : Nat)), I (f (3 : Nat)), I (f (4 : Nat)), I (f (5 : Nat)), I (f (6 : Nat)), I (f (7 : Nat)), I (f (8 : Nat)), I (f (9 : Nat))])], ids := [(900 : Nat)] }) :=
  runP hmix [.reg 11 [(3, [], some true)], .reg 13 [(4, [.row (Rw.row q)], none), (9, [.row (Rw.row q)], none), (10, [.call [] [] (.tup [I v, I n, Bo true]) []], none)], .reg 14 [(7, [.row (Rw.row r)], none), (10, [], some true), (16, [.row (Rw.row r)], none), (19, [], some true), (24, [.row (Rw.row q)], none), (29, [.row (Rw.row r)], none), (32, [], some false), (37, [.row (Rw.row q)], none), (42, [.row (Rw.row r)], none)], .reg 12 [(1, [.be (I ((k + 1 : Nat) : Int))], none)]] ⟨[0, 1, 6, 7, 8, 9], [(900, 900)], []⟩ [
      decide (Int.ofNat k < Int.ofNat (List.length (List.map Rw.row x))) = true,
      (0 : Int) ≤ Int.ofNat k,
      Int.ofNat k < Int.ofNat (List.length (List.map Rw.row x)),
      (List.map Rw.row x)[k]? = some (Rw.row q),
      (0 : Int) ≤ Int.ofNat k,
      Int.ofNat k < Int.ofNat (List.length (List.map Rw.row x)),
      (List.map Rw.row x)[k]? = some (Rw.row q),
      Contract Try.prog (13 : Nat) [I (Rw.lev q), I (Rw.win q)] [] (V.tup [I v, I n, Bo true]) [],
      (0 : Int) ≤ Int.ofNat i,
      Int.ofNat i < Int.ofNat (List.length (List.map Rw.row x)),
      (List.map Rw.row x)[i]? = some (Rw.row r),
      (v == Rw.lev r) = true,
      (0 : Int) ≤ Int.ofNat i,
      Int.ofNat i < Int.ofNat (List.length (List.map Rw.row x)),
      (List.map Rw.row x)[i]? = some (Rw.row r),
      (n == Rw.win r) = true,
      (0 : Int) ≤ Int.ofNat k,
      Int.ofNat k < Int.ofNat (List.length (List.map Rw.row x)),
      (List.map Rw.row x)[k]? = some (Rw.row q),
      (0 : Int) ≤ Int.ofNat i,
      Int.ofNat i < Int.ofNat (List.length (List.map Rw.row x)),
      (List.map Rw.row x)[i]? = some (Rw.row r),
      (ByteArray.toList (Rw.svc q) == ByteArray.toList (Rw.svc r)) = false,
      IntKind.wrap IntKind.i64 (Int.ofNat (k + (1 : Nat))) = Int.ofNat (k + (1 : Nat))] (by kernel_rfl)
    (by
      have d0 := tq0
      have d1 := tq1
      have d2 := tq2
      try simp only [Int.ofNat_eq_natCast, List.length_map, Bool.not_eq_true', Bool.not_eq_false', decide_eq_true_eq, decide_eq_false_iff_not] at d0 d1 d2
      simp only [allP]
      and_intros <;> first
        | omega
        | with_reducible assumption
        | (simp; omega)
        | (simp [hx]; done)
        | (simp [hy]; done)
        | exact hc
        | exact cJoin _ _ _
        | exact i64_small (by simp; omega)
        | (simp; done)
        | decide)

theorem uiT_3 (l : List Sp) (m : Int) (x : List Rw) (i : Nat) (f : Nat → Int) (k : Nat) (r q : Rw) (v n : Int) (h : k < x.length) (hx : x[k]? = some q) (hi : i < x.length) (hy : x[i]? = some r) (hs : x.length ≤ 1000) (hc : Contract Try.prog 13 [I q.lev, I q.win] [] (.tup [I v, I n, Bo true]) []) (h2 : (q.lev != 2) = true) (hv : v = q.lev + 1) (hn : n = upW q.lev q.win) (tq0 : (v == Rw.lev r) = true) (tq1 : (n == Rw.win r) = false) : CodeC Try.prog 0 118 uiB (uiS l m x i f k) (Ex.normal) ({ env := [((0 : Nat), V.sl (10 : Nat) (List.map Sp.row l)), ((1 : Nat), I m), ((6 : Nat), V.sl (14 : Nat) (List.map Rw.row x)), ((7 : Nat), I (Int.ofNat i)), ((8 : Nat), V.ptr (900 : Nat) (0 : Nat) (0 : Nat) (0 : Nat)), ((9 : Nat), I (Int.ofNat (k + (1 : Nat))))], st := [((900 : Nat), Obj.box [I (f (0 : Nat)), I (f (1 : Nat)), I (f (2 : Nat)), I (f (3 : Nat)), I (f (4 : Nat)), I (f (5 : Nat)), I (f (6 : Nat)), I (f (7 : Nat)), I (f (8 : Nat)), I (f (9 : Nat))])], ids := [(900 : Nat)] }) :=
  runP hmix [.reg 11 [(3, [], some true)], .reg 13 [(4, [.row (Rw.row q)], none), (9, [.row (Rw.row q)], none), (10, [.call [] [] (.tup [I v, I n, Bo true]) []], none)], .reg 14 [(7, [.row (Rw.row r)], none), (10, [], some true), (16, [.row (Rw.row r)], none), (19, [], some false), (24, [.row (Rw.row q)], none), (29, [.row (Rw.row r)], none), (37, [.row (Rw.row q)], none), (42, [.row (Rw.row r)], none)], .reg 12 [(1, [.be (I ((k + 1 : Nat) : Int))], none)]] ⟨[0, 1, 6, 7, 8, 9], [(900, 900)], []⟩ [
      decide (Int.ofNat k < Int.ofNat (List.length (List.map Rw.row x))) = true,
      (0 : Int) ≤ Int.ofNat k,
      Int.ofNat k < Int.ofNat (List.length (List.map Rw.row x)),
      (List.map Rw.row x)[k]? = some (Rw.row q),
      (0 : Int) ≤ Int.ofNat k,
      Int.ofNat k < Int.ofNat (List.length (List.map Rw.row x)),
      (List.map Rw.row x)[k]? = some (Rw.row q),
      Contract Try.prog (13 : Nat) [I (Rw.lev q), I (Rw.win q)] [] (V.tup [I v, I n, Bo true]) [],
      (0 : Int) ≤ Int.ofNat i,
      Int.ofNat i < Int.ofNat (List.length (List.map Rw.row x)),
      (List.map Rw.row x)[i]? = some (Rw.row r),
      (v == Rw.lev r) = true,
      (0 : Int) ≤ Int.ofNat i,
      Int.ofNat i < Int.ofNat (List.length (List.map Rw.row x)),
      (List.map Rw.row x)[i]? = some (Rw.row r),
      (n == Rw.win r) = false,
      IntKind.wrap IntKind.i64 (Int.ofNat (k + (1 : Nat))) = Int.ofNat (k + (1 : Nat))] (by kernel_rfl)
    (by
      have d0 := tq0
      have d1 := tq1
      try simp only [Int.ofNat_eq_natCast, List.length_map, Bool.not_eq_true', Bool.not_eq_false', decide_eq_true_eq, decide_eq_false_iff_not] at d0 d1
      simp only [allP]
      and_intros <;> first
        | omega
        | with_reducible assumption
        | (simp; omega)
        | (simp [hx]; done)
        | (simp [hy]; done)
        | exact hc
        | exact cJoin _ _ _
        | exact i64_small (by simp; omega)
        | (simp; done)
        | decide)

theorem uiT_4 (l : List Sp) (m : Int) (x : List Rw) (i : Nat) (f : Nat → Int) (k : Nat) (r q : Rw) (v n : Int) (h : k < x.length) (hx : x[k]? = some q) (hi : i < x.length) (hy : x[i]? = some r) (hs : x.length ≤ 1000) (hc : Contract Try.prog 13 [I q.lev, I q.win] [] (.tup [I v, I n, Bo true]) []) (h2 : (q.lev != 2) = true) (hv : v = q.lev + 1) (hn : n = upW q.lev q.win) (tq0 : (v == Rw.lev r) = false) : CodeC Try.prog 0 118 uiB (uiS l m x i f k) (Ex.normal) ({ env := [((0 : Nat), V.sl (10 : Nat) (List.map Sp.row l)), ((1 : Nat), I m), ((6 : Nat), V.sl (14 : Nat) (List.map Rw.row x)), ((7 : Nat), I (Int.ofNat i)), ((8 : Nat), V.ptr (900 : Nat) (0 : Nat) (0 : Nat) (0 : Nat)), ((9 : Nat), I (Int.ofNat (k + (1 : Nat))))], st := [((900 : Nat), Obj.box [I (f (0 : Nat)), I (f (1 : Nat)), I (f (2 : Nat)), I (f (3 : Nat)), I (f (4 : Nat)), I (f (5 : Nat)), I (f (6 : Nat)), I (f (7 : Nat)), I (f (8 : Nat)), I (f (9 : Nat))])], ids := [(900 : Nat)] }) :=
  runP hmix [.reg 11 [(3, [], some true)], .reg 13 [(4, [.row (Rw.row q)], none), (9, [.row (Rw.row q)], none), (10, [.call [] [] (.tup [I v, I n, Bo true]) []], none)], .reg 14 [(7, [.row (Rw.row r)], none), (10, [], some false), (16, [.row (Rw.row r)], none), (24, [.row (Rw.row q)], none), (29, [.row (Rw.row r)], none), (37, [.row (Rw.row q)], none), (42, [.row (Rw.row r)], none)], .reg 12 [(1, [.be (I ((k + 1 : Nat) : Int))], none)]] ⟨[0, 1, 6, 7, 8, 9], [(900, 900)], []⟩ [
      decide (Int.ofNat k < Int.ofNat (List.length (List.map Rw.row x))) = true,
      (0 : Int) ≤ Int.ofNat k,
      Int.ofNat k < Int.ofNat (List.length (List.map Rw.row x)),
      (List.map Rw.row x)[k]? = some (Rw.row q),
      (0 : Int) ≤ Int.ofNat k,
      Int.ofNat k < Int.ofNat (List.length (List.map Rw.row x)),
      (List.map Rw.row x)[k]? = some (Rw.row q),
      Contract Try.prog (13 : Nat) [I (Rw.lev q), I (Rw.win q)] [] (V.tup [I v, I n, Bo true]) [],
      (0 : Int) ≤ Int.ofNat i,
      Int.ofNat i < Int.ofNat (List.length (List.map Rw.row x)),
      (List.map Rw.row x)[i]? = some (Rw.row r),
      (v == Rw.lev r) = false,
      IntKind.wrap IntKind.i64 (Int.ofNat (k + (1 : Nat))) = Int.ofNat (k + (1 : Nat))] (by kernel_rfl)
    (by
      have d0 := tq0
      try simp only [Int.ofNat_eq_natCast, List.length_map, Bool.not_eq_true', Bool.not_eq_false', decide_eq_true_eq, decide_eq_false_iff_not] at d0
      simp only [allP]
      and_intros <;> first
        | omega
        | with_reducible assumption
        | (simp; omega)
        | (simp [hx]; done)
        | (simp [hy]; done)
        | exact hc
        | exact cJoin _ _ _
        | exact i64_small (by simp; omega)
        | (simp; done)
        | decide)

theorem uiT (l : List Sp) (m : Int) (x : List Rw) (i : Nat) (f : Nat → Int) (k : Nat) (r q : Rw) (v n : Int) (h : k < x.length) (hx : x[k]? = some q) (hi : i < x.length) (hy : x[i]? = some r) (hs : x.length ≤ 1000) (hc : Contract Try.prog 13 [I q.lev, I q.win] [] (.tup [I v, I n, Bo true]) []) (h2 : (q.lev != 2) = true) (hv : v = q.lev + 1) (hn : n = upW q.lev q.win)  : CodeC Try.prog 0 118 uiB (uiS l m x i f k) .normal (uiS l m x i (stU r m f q) (k + 1)) := by
  rcases tf (v == Rw.lev r) with tq0 | tq0
  · rcases tf (n == Rw.win r) with tq1 | tq1
    · rcases tf (ByteArray.toList (Rw.svc q) == ByteArray.toList (Rw.svc r)) with tq2 | tq2
      · rcases tf (ByteArray.toList (Rw.op q) == ByteArray.toList (Rw.op r)) with tq3 | tq3
        · exact CodeC.cast (by first | rfl | (simp only [stU, upB, h2, ← hv, ← hn, tq0, tq1, tq2, tq3, cond_true, cond_false]; done) | (simp [stU, upB, h2, ← hv, ← hn, tq0, tq1, tq2, tq3]; done) | ((try simp only [Int.ofNat_eq_natCast, List.length_map, Bool.not_eq_true', Bool.not_eq_false', decide_eq_true_eq, decide_eq_false_iff_not] at tq0 tq1 tq2 tq3); first | (simp [stU, upB, h2, ← hv, ← hn, tq0, tq1, tq2, tq3]; done) | (refine congrArg _ ?_; simp [stU, upB, h2, ← hv, ← hn, tq0, tq1, tq2, tq3]; done) | (refine congrArg _ ?_; simp [stU, upB, h2, ← hv, ← hn, tq0, tq1, tq2, tq3]; omega) | (simp only [stU, upB, h2, ← hv, ← hn, Bool.cond_eq_ite, Bool.and_eq_true, Bool.or_eq_true, Bool.not_eq_true', decide_eq_true_eq, beq_iff_eq, beq_eq_false_iff_ne, ne_eq]; (repeat' split) <;> first | rfl | (exfalso; omega) | omega | (simp_all; done) | (exfalso; simp_all; omega)))) (uiT_0 l m x i f k r q v n h hx hi hy hs hc h2 hv hn tq0 tq1 tq2 tq3)
        · exact CodeC.cast (by first | rfl | (simp only [stU, upB, h2, ← hv, ← hn, tq0, tq1, tq2, tq3, cond_true, cond_false]; done) | (simp [stU, upB, h2, ← hv, ← hn, tq0, tq1, tq2, tq3]; done) | ((try simp only [Int.ofNat_eq_natCast, List.length_map, Bool.not_eq_true', Bool.not_eq_false', decide_eq_true_eq, decide_eq_false_iff_not] at tq0 tq1 tq2 tq3); first | (simp [stU, upB, h2, ← hv, ← hn, tq0, tq1, tq2, tq3]; done) | (refine congrArg _ ?_; simp [stU, upB, h2, ← hv, ← hn, tq0, tq1, tq2, tq3]; done) | (refine congrArg _ ?_; simp [stU, upB, h2, ← hv, ← hn, tq0, tq1, tq2, tq3]; omega) | (simp only [stU, upB, h2, ← hv, ← hn, Bool.cond_eq_ite, Bool.and_eq_true, Bool.or_eq_true, Bool.not_eq_true', decide_eq_true_eq, beq_iff_eq, beq_eq_false_iff_ne, ne_eq]; (repeat' split) <;> first | rfl | (exfalso; omega) | omega | (simp_all; done) | (exfalso; simp_all; omega)))) (uiT_1 l m x i f k r q v n h hx hi hy hs hc h2 hv hn tq0 tq1 tq2 tq3)
      · exact CodeC.cast (by first | rfl | (simp only [stU, upB, h2, ← hv, ← hn, tq0, tq1, tq2, cond_true, cond_false]; done) | (simp [stU, upB, h2, ← hv, ← hn, tq0, tq1, tq2]; done) | ((try simp only [Int.ofNat_eq_natCast, List.length_map, Bool.not_eq_true', Bool.not_eq_false', decide_eq_true_eq, decide_eq_false_iff_not] at tq0 tq1 tq2); first | (simp [stU, upB, h2, ← hv, ← hn, tq0, tq1, tq2]; done) | (refine congrArg _ ?_; simp [stU, upB, h2, ← hv, ← hn, tq0, tq1, tq2]; done) | (refine congrArg _ ?_; simp [stU, upB, h2, ← hv, ← hn, tq0, tq1, tq2]; omega) | (simp only [stU, upB, h2, ← hv, ← hn, Bool.cond_eq_ite, Bool.and_eq_true, Bool.or_eq_true, Bool.not_eq_true', decide_eq_true_eq, beq_iff_eq, beq_eq_false_iff_ne, ne_eq]; (repeat' split) <;> first | rfl | (exfalso; omega) | omega | (simp_all; done) | (exfalso; simp_all; omega)))) (uiT_2 l m x i f k r q v n h hx hi hy hs hc h2 hv hn tq0 tq1 tq2)
    · exact CodeC.cast (by first | rfl | (simp only [stU, upB, h2, ← hv, ← hn, tq0, tq1, cond_true, cond_false]; done) | (simp [stU, upB, h2, ← hv, ← hn, tq0, tq1]; done) | ((try simp only [Int.ofNat_eq_natCast, List.length_map, Bool.not_eq_true', Bool.not_eq_false', decide_eq_true_eq, decide_eq_false_iff_not] at tq0 tq1); first | (simp [stU, upB, h2, ← hv, ← hn, tq0, tq1]; done) | (refine congrArg _ ?_; simp [stU, upB, h2, ← hv, ← hn, tq0, tq1]; done) | (refine congrArg _ ?_; simp [stU, upB, h2, ← hv, ← hn, tq0, tq1]; omega) | (simp only [stU, upB, h2, ← hv, ← hn, Bool.cond_eq_ite, Bool.and_eq_true, Bool.or_eq_true, Bool.not_eq_true', decide_eq_true_eq, beq_iff_eq, beq_eq_false_iff_ne, ne_eq]; (repeat' split) <;> first | rfl | (exfalso; omega) | omega | (simp_all; done) | (exfalso; simp_all; omega)))) (uiT_3 l m x i f k r q v n h hx hi hy hs hc h2 hv hn tq0 tq1)
  · exact CodeC.cast (by first | rfl | (simp only [stU, upB, h2, ← hv, ← hn, tq0, cond_true, cond_false]; done) | (simp [stU, upB, h2, ← hv, ← hn, tq0]; done) | ((try simp only [Int.ofNat_eq_natCast, List.length_map, Bool.not_eq_true', Bool.not_eq_false', decide_eq_true_eq, decide_eq_false_iff_not] at tq0); first | (simp [stU, upB, h2, ← hv, ← hn, tq0]; done) | (refine congrArg _ ?_; simp [stU, upB, h2, ← hv, ← hn, tq0]; done) | (refine congrArg _ ?_; simp [stU, upB, h2, ← hv, ← hn, tq0]; omega) | (simp only [stU, upB, h2, ← hv, ← hn, Bool.cond_eq_ite, Bool.and_eq_true, Bool.or_eq_true, Bool.not_eq_true', decide_eq_true_eq, beq_iff_eq, beq_eq_false_iff_ne, ne_eq]; (repeat' split) <;> first | rfl | (exfalso; omega) | omega | (simp_all; done) | (exfalso; simp_all; omega)))) (uiT_4 l m x i f k r q v n h hx hi hy hs hc h2 hv hn tq0)

theorem uiF_0 (l : List Sp) (m : Int) (x : List Rw) (i : Nat) (f : Nat → Int) (k : Nat) (r q : Rw) (v n : Int) (h : k < x.length) (hx : x[k]? = some q) (hi : i < x.length) (hy : x[i]? = some r) (hs : x.length ≤ 1000) (hc : Contract Try.prog 13 [I q.lev, I q.win] [] (.tup [I 0, I 0, Bo false]) []) (h2 : (q.lev != 2) = false) : CodeC Try.prog 0 118 uiB (uiS l m x i f k) (Ex.normal) ({ env := [((0 : Nat), V.sl (10 : Nat) (List.map Sp.row l)), ((1 : Nat), I m), ((6 : Nat), V.sl (14 : Nat) (List.map Rw.row x)), ((7 : Nat), I (Int.ofNat i)), ((8 : Nat), V.ptr (900 : Nat) (0 : Nat) (0 : Nat) (0 : Nat)), ((9 : Nat), I (Int.ofNat (k + (1 : Nat))))], st := [((900 : Nat), Obj.box [I (f (0 : Nat)), I (f (1 : Nat)), I (f (2 : Nat)), I (f (3 : Nat)), I (f (4 : Nat)), I (f (5 : Nat)), I (f (6 : Nat)), I (f (7 : Nat)), I (f (8 : Nat)), I (f (9 : Nat))])], ids := [(900 : Nat)] }) :=
  runP hmix [.reg 11 [(3, [], some true)], .reg 13 [(4, [.row (Rw.row q)], none), (9, [.row (Rw.row q)], none), (10, [.call [] [] (.tup [I 0, I 0, Bo false]) []], none)], .reg 12 [(1, [.be (I ((k + 1 : Nat) : Int))], none)]] ⟨[0, 1, 6, 7, 8, 9], [(900, 900)], []⟩ [
      decide (Int.ofNat k < Int.ofNat (List.length (List.map Rw.row x))) = true,
      (0 : Int) ≤ Int.ofNat k,
      Int.ofNat k < Int.ofNat (List.length (List.map Rw.row x)),
      (List.map Rw.row x)[k]? = some (Rw.row q),
      (0 : Int) ≤ Int.ofNat k,
      Int.ofNat k < Int.ofNat (List.length (List.map Rw.row x)),
      (List.map Rw.row x)[k]? = some (Rw.row q),
      Contract Try.prog (13 : Nat) [I (Rw.lev q), I (Rw.win q)] [] (V.tup [I (0 : Int), I (0 : Int), Bo false]) [],
      IntKind.wrap IntKind.i64 (Int.ofNat (k + (1 : Nat))) = Int.ofNat (k + (1 : Nat))] (by kernel_rfl)
    (by
      simp only [allP]
      and_intros <;> first
        | omega
        | with_reducible assumption
        | (simp; omega)
        | (simp [hx]; done)
        | (simp [hy]; done)
        | exact hc
        | exact cJoin _ _ _
        | exact i64_small (by simp; omega)
        | (simp; done)
        | decide)

theorem uiF (l : List Sp) (m : Int) (x : List Rw) (i : Nat) (f : Nat → Int) (k : Nat) (r q : Rw) (v n : Int) (h : k < x.length) (hx : x[k]? = some q) (hi : i < x.length) (hy : x[i]? = some r) (hs : x.length ≤ 1000) (hc : Contract Try.prog 13 [I q.lev, I q.win] [] (.tup [I 0, I 0, Bo false]) []) (h2 : (q.lev != 2) = false)  : CodeC Try.prog 0 118 uiB (uiS l m x i f k) .normal (uiS l m x i (stU r m f q) (k + 1)) := by
  exact CodeC.cast (by first | rfl | (simp only [stU, upB, h2, Bool.false_and, cond_true, cond_false]; done) | (simp [stU, upB, h2, Bool.false_and]; done) | (first | (simp [stU, upB, h2, Bool.false_and]; done) | (refine congrArg _ ?_; simp [stU, upB, h2, Bool.false_and]; done) | (refine congrArg _ ?_; simp [stU, upB, h2, Bool.false_and]; omega) | (simp only [stU, upB, h2, Bool.false_and, Bool.cond_eq_ite, Bool.and_eq_true, Bool.or_eq_true, Bool.not_eq_true', decide_eq_true_eq, beq_iff_eq, beq_eq_false_iff_ne, ne_eq]; (repeat' split) <;> first | rfl | (exfalso; omega) | omega | (simp_all; done) | (exfalso; simp_all; omega)))) (uiF_0 l m x i f k r q v n h hx hi hy hs hc h2 )

theorem uiE_0 (l : List Sp) (m : Int) (x : List Rw) (i : Nat) (f : Nat → Int) (k : Nat) (h : x.length ≤ k) : CodeC Try.prog 0 118 uiB (uiS l m x i f k) (Ex.exit (2 : Nat)) ({ env := [((0 : Nat), V.sl (10 : Nat) (List.map Sp.row l)), ((1 : Nat), I m), ((6 : Nat), V.sl (14 : Nat) (List.map Rw.row x)), ((7 : Nat), I (Int.ofNat i)), ((8 : Nat), V.ptr (900 : Nat) (0 : Nat) (0 : Nat) (0 : Nat)), ((9 : Nat), I (Int.ofNat k))], st := [((900 : Nat), Obj.box [I (f (0 : Nat)), I (f (1 : Nat)), I (f (2 : Nat)), I (f (3 : Nat)), I (f (4 : Nat)), I (f (5 : Nat)), I (f (6 : Nat)), I (f (7 : Nat)), I (f (8 : Nat)), I (f (9 : Nat))])], ids := [(900 : Nat)] }) :=
  runP hmix [.reg 11 [(3, [], some false)]] ⟨[0, 1, 6, 7, 8, 9], [(900, 900)], []⟩ [
      decide (Int.ofNat k < Int.ofNat (List.length (List.map Rw.row x))) = false] (by kernel_rfl)
    (by
      simp only [allP]
      and_intros <;> first
        | omega
        | with_reducible assumption
        | (simp; omega)
        | (simp; done)
        | decide)

theorem uiE (l : List Sp) (m : Int) (x : List Rw) (i : Nat) (f : Nat → Int) (k : Nat) (h : x.length ≤ k)  : CodeC Try.prog 0 118 uiB (uiS l m x i f k) (.exit 2) (uiS l m x i f k) := by
  exact CodeC.cast (by first | rfl | (simp only [cond_true, cond_false]; done) | (simp []; done) | (first | (simp []; done) | (refine congrArg _ ?_; simp []; done) | (refine congrArg _ ?_; simp []; omega) | (simp only [Bool.cond_eq_ite, Bool.and_eq_true, Bool.or_eq_true, Bool.not_eq_true', decide_eq_true_eq, beq_iff_eq, beq_eq_false_iff_ne, ne_eq]; (repeat' split) <;> first | rfl | (exfalso; omega) | omega | (simp_all; done) | (exfalso; simp_all; omega)))) (uiE_0 l m x i f k h )

theorem uo0_0 (l : List Sp) (m : Int) (x : List Rw) (i : Nat) (r : Rw) (hi : i < x.length) (hy : x[i]? = some r) (hs : x.length ≤ 1000) (h0 : decide (r.lev = 0) = true) : CodeC Try.prog 0 118 uoB (uoS l m x i) (Ex.normal) ({ env := [((0 : Nat), V.sl (10 : Nat) (List.map Sp.row l)), ((1 : Nat), I m), ((6 : Nat), V.sl (14 : Nat) (List.map Rw.row x)), ((7 : Nat), I (Int.ofNat (i + (1 : Nat))))], st := [], ids := [] }) :=
  runP hmix [.reg 6 [(3, [], some true)], .reg 8 [(4, [.row (Rw.row r)], none), (5, [], some true)], .reg 7 [(1, [.be (I ((i + 1 : Nat) : Int))], none)]] ⟨[0, 1, 6, 7], [], []⟩ [
      decide (Int.ofNat i < Int.ofNat (List.length (List.map Rw.row x))) = true,
      (0 : Int) ≤ Int.ofNat i,
      Int.ofNat i < Int.ofNat (List.length (List.map Rw.row x)),
      (List.map Rw.row x)[i]? = some (Rw.row r),
      (Rw.lev r == (0 : Int)) = true,
      IntKind.wrap IntKind.i64 (Int.ofNat (i + (1 : Nat))) = Int.ofNat (i + (1 : Nat))] (by kernel_rfl)
    (by
      simp only [allP]
      and_intros <;> first
        | omega
        | with_reducible assumption
        | (simp; omega)
        | (simp [hy]; done)
        | exact h0
        | exact i64_small (by simp; omega)
        | (simp; done)
        | decide)

theorem uo0 (l : List Sp) (m : Int) (x : List Rw) (i : Nat) (r : Rw) (hi : i < x.length) (hy : x[i]? = some r) (hs : x.length ≤ 1000) (h0 : decide (r.lev = 0) = true)  : CodeC Try.prog 0 118 uoB (uoS l m x i) .normal (uoS l m x (i + 1)) := by
  exact CodeC.cast (by first | rfl | (simp only [cond_true, cond_false]; done) | (simp []; done) | (first | (simp []; done) | (refine congrArg _ ?_; simp []; done) | (refine congrArg _ ?_; simp []; omega) | (simp only [Bool.cond_eq_ite, Bool.and_eq_true, Bool.or_eq_true, Bool.not_eq_true', decide_eq_true_eq, beq_iff_eq, beq_eq_false_iff_ne, ne_eq]; (repeat' split) <;> first | rfl | (exfalso; omega) | omega | (simp_all; done) | (exfalso; simp_all; omega)))) (uo0_0 l m x i r hi hy hs h0 )

theorem uo1_0 (l : List Sp) (m : Int) (x : List Rw) (i : Nat) (r : Rw) (f : Nat → Int) (hi : i < x.length) (hy : x[i]? = some r) (hs : x.length ≤ 1000) (h0 : decide (r.lev = 0) = false) (hf : ∀ k, f k = r.c k) (hl : LoopC Try.prog 0 118 uiB (uiS l m x i (fun _ => 0) 0) (.exit 2) (uiS l m x i f x.length)) : CodeC Try.prog 0 118 uoB (uoS l m x i) (Ex.normal) ({ env := [((0 : Nat), V.sl (10 : Nat) (List.map Sp.row l)), ((1 : Nat), I m), ((6 : Nat), V.sl (14 : Nat) (List.map Rw.row x)), ((7 : Nat), I (Int.ofNat (i + (1 : Nat))))], st := [], ids := [] }) :=
  runP hmix [.reg 6 [(3, [], some true)], .reg 8 [(4, [.row (Rw.row r)], none), (5, [], some false)], .cut ⟨[0, 1, 6, 7, 8, 9], [(1801000, 900)], []⟩ (.exit 2) (uiS l m x i f x.length), .reg 16 [(5, [.row (Rw.row r)], none), (6, [], some false)], .reg 7 [(1, [.be (I ((i + 1 : Nat) : Int))], none)]] ⟨[0, 1, 6, 7], [], []⟩ [
      decide (Int.ofNat i < Int.ofNat (List.length (List.map Rw.row x))) = true,
      (0 : Int) ≤ Int.ofNat i,
      Int.ofNat i < Int.ofNat (List.length (List.map Rw.row x)),
      (List.map Rw.row x)[i]? = some (Rw.row r),
      (Rw.lev r == (0 : Int)) = false,
      LoopC Try.prog (0 : Nat) (118 : Nat) uiB { env := [((0 : Nat), V.sl (10 : Nat) (List.map Sp.row l)), ((1 : Nat), I m), ((6 : Nat), V.sl (14 : Nat) (List.map Rw.row x)), ((7 : Nat), I (Int.ofNat i)), ((8 : Nat), V.ptr (900 : Nat) (0 : Nat) (0 : Nat) (0 : Nat)), ((9 : Nat), I (0 : Int))], st := [((900 : Nat), Obj.box [I (0 : Int), I (0 : Int), I (0 : Int), I (0 : Int), I (0 : Int), I (0 : Int), I (0 : Int), I (0 : Int), I (0 : Int), I (0 : Int)])], ids := [(900 : Nat)] } (Ex.exit (2 : Nat)) { env := [((0 : Nat), V.sl (10 : Nat) (List.map Sp.row l)), ((1 : Nat), I m), ((6 : Nat), V.sl (14 : Nat) (List.map Rw.row x)), ((7 : Nat), I (Int.ofNat i)), ((8 : Nat), V.ptr (900 : Nat) (0 : Nat) (0 : Nat) (0 : Nat)), ((9 : Nat), I (Int.ofNat (List.length x)))], st := [((900 : Nat), Obj.box [I (f (0 : Nat)), I (f (1 : Nat)), I (f (2 : Nat)), I (f (3 : Nat)), I (f (4 : Nat)), I (f (5 : Nat)), I (f (6 : Nat)), I (f (7 : Nat)), I (f (8 : Nat)), I (f (9 : Nat))])], ids := [(900 : Nat)] },
      (0 : Int) ≤ Int.ofNat i,
      Int.ofNat i < Int.ofNat (List.length (List.map Rw.row x)),
      (List.map Rw.row x)[i]? = some (Rw.row r),
      (!(decide (f (0 : Nat) = Rw.c r (0 : Nat)) && (decide (f (1 : Nat) = Rw.c r (1 : Nat)) && (decide (f (2 : Nat) = Rw.c r (2 : Nat)) && (decide (f (3 : Nat) = Rw.c r (3 : Nat)) && (decide (f (4 : Nat) = Rw.c r (4 : Nat)) && (decide (f (5 : Nat) = Rw.c r (5 : Nat)) && (decide (f (6 : Nat) = Rw.c r (6 : Nat)) && (decide (f (7 : Nat) = Rw.c r (7 : Nat)) && (decide (f (8 : Nat) = Rw.c r (8 : Nat)) && (decide (f (9 : Nat) = Rw.c r (9 : Nat)) && true))))))) && true)))) = false,
      IntKind.wrap IntKind.i64 (Int.ofNat (i + (1 : Nat))) = Int.ofNat (i + (1 : Nat))] (by kernel_rfl)
    (by
      simp only [allP]
      and_intros <;> first
        | omega
        | with_reducible assumption
        | (simp; omega)
        | (simp [hy]; done)
        | exact h0
        | exact hl
        | (simp [hf]; done)
        | exact i64_small (by simp; omega)
        | (simp; done)
        | decide)

theorem uo1 (l : List Sp) (m : Int) (x : List Rw) (i : Nat) (r : Rw) (f : Nat → Int) (hi : i < x.length) (hy : x[i]? = some r) (hs : x.length ≤ 1000) (h0 : decide (r.lev = 0) = false) (hf : ∀ k, f k = r.c k) (hl : LoopC Try.prog 0 118 uiB (uiS l m x i (fun _ => 0) 0) (.exit 2) (uiS l m x i f x.length))  : CodeC Try.prog 0 118 uoB (uoS l m x i) .normal (uoS l m x (i + 1)) := by
  exact CodeC.cast (by first | rfl | (simp only [cond_true, cond_false]; done) | (simp []; done) | (first | (simp []; done) | (refine congrArg _ ?_; simp []; done) | (refine congrArg _ ?_; simp []; omega) | (simp only [Bool.cond_eq_ite, Bool.and_eq_true, Bool.or_eq_true, Bool.not_eq_true', decide_eq_true_eq, beq_iff_eq, beq_eq_false_iff_ne, ne_eq]; (repeat' split) <;> first | rfl | (exfalso; omega) | omega | (simp_all; done) | (exfalso; simp_all; omega)))) (uo1_0 l m x i r f hi hy hs h0 hf hl )

theorem uoE_0 (l : List Sp) (m : Int) (x : List Rw) (i : Nat) (h : x.length ≤ i) : CodeC Try.prog 0 118 uoB (uoS l m x i) (Ex.exit (0 : Nat)) ({ env := [((0 : Nat), V.sl (10 : Nat) (List.map Sp.row l)), ((1 : Nat), I m), ((6 : Nat), V.sl (14 : Nat) (List.map Rw.row x)), ((7 : Nat), I (Int.ofNat i))], st := [], ids := [] }) :=
  runP hmix [.reg 6 [(3, [], some false)]] ⟨[0, 1, 6, 7], [], []⟩ [
      decide (Int.ofNat i < Int.ofNat (List.length (List.map Rw.row x))) = false] (by kernel_rfl)
    (by
      simp only [allP]
      and_intros <;> first
        | omega
        | with_reducible assumption
        | (simp; omega)
        | (simp; done)
        | decide)

theorem uoE (l : List Sp) (m : Int) (x : List Rw) (i : Nat) (h : x.length ≤ i)  : CodeC Try.prog 0 118 uoB (uoS l m x i) (.exit 0) (uoS l m x i) := by
  exact CodeC.cast (by first | rfl | (simp only [cond_true, cond_false]; done) | (simp []; done) | (first | (simp []; done) | (refine congrArg _ ?_; simp []; done) | (refine congrArg _ ?_; simp []; omega) | (simp only [Bool.cond_eq_ite, Bool.and_eq_true, Bool.or_eq_true, Bool.not_eq_true', decide_eq_true_eq, beq_iff_eq, beq_eq_false_iff_ne, ne_eq]; (repeat' split) <;> first | rfl | (exfalso; omega) | omega | (simp_all; done) | (exfalso; simp_all; omega)))) (uoE_0 l m x i h )

theorem sumsA_0 (l : List Sp) (m : Int) (h1 : fewAll l = false) : Contract Try.prog 4 [.sl 10 (l.map Sp.row), I m] [] (Bo true) ([]) :=
  vcP hmix [.reg 2 [(4, [.call [] [] (Bo (fewAll l)) []], none), (6, [], some true)], .tab [(8, FAlive4)]] [] [
      Contract Try.prog (8 : Nat) [] [] (Bo true) [],
      Contract Try.prog (9 : Nat) [V.sl (10 : Nat) (List.map Sp.row l)] [] (Bo (fewAll l)) [],
      (!fewAll l) = true] (by kernel_rfl)
    (by
      simp only [allP]
      and_intros <;> first
        | omega
        | with_reducible assumption
        | exact cAlive
        | exact cFewAll _
        | (simp [h1]; done)
        | (simp; done)
        | decide)

theorem sumsA (l : List Sp) (m : Int) (h1 : fewAll l = false) : Contract Try.prog 4 [.sl 10 (l.map Sp.row), I m] [] (Bo true) [] := by
  exact Contract.cast (by first | rfl | (simp only [cond_true, cond_false]; done) | (simp []; done) | (first | (simp []; done) | (refine congrArg _ ?_; simp []; done) | (refine congrArg _ ?_; simp []; omega) | (simp only [Bool.cond_eq_ite, Bool.and_eq_true, Bool.or_eq_true, Bool.not_eq_true', decide_eq_true_eq, beq_iff_eq, beq_eq_false_iff_ne, ne_eq]; (repeat' split) <;> first | rfl | (exfalso; omega) | omega | (simp_all; done) | (exfalso; simp_all; omega)))) (by first | rfl | (simp only [cond_true, cond_false]; done) | (simp []; done) | (first | (simp []; done) | (refine congrArg _ ?_; simp []; done) | (refine congrArg _ ?_; simp []; omega) | (simp only [Bool.cond_eq_ite, Bool.and_eq_true, Bool.or_eq_true, Bool.not_eq_true', decide_eq_true_eq, beq_iff_eq, beq_eq_false_iff_ne, ne_eq]; (repeat' split) <;> first | rfl | (exfalso; omega) | omega | (simp_all; done) | (exfalso; simp_all; omega)))) (sumsA_0 l m h1 )

theorem sumsB_0 (l : List Sp) (m : Int) (h1 : fewAll l = true) (hs : l.length ≤ 60) (ha : ∀ x ∈ l, x.attrs.length ≤ 1000000000) (hl : LoopC Try.prog 0 118 uoB (uoS l m (rowsR l m) 0) (.exit 0) (uoS l m (rowsR l m) (rowsR l m).length)) : Contract Try.prog 4 [.sl 10 (l.map Sp.row), I m] [] (Bo true) ([]) :=
  vcP hmix [.reg 2 [(4, [.call [] [] (Bo (fewAll l)) []], none), (6, [], some false)], .reg 4 [(2, [.call [] [] (.own 0) [some (.arr 14 ((rowsR l m).map Rw.row))]], none), (3, [.idx 1], none)], .cut ⟨[0, 1, 6, 7], [], []⟩ (.exit 0) (uoS l m (rowsR l m) (rowsR l m).length), .tab [(8, FAlive4)]] [] [
      Contract Try.prog (8 : Nat) [] [] (Bo true) [],
      Contract Try.prog (9 : Nat) [V.sl (10 : Nat) (List.map Sp.row l)] [] (Bo (fewAll l)) [],
      (!fewAll l) = false,
      Contract Try.prog (10 : Nat) [V.sl (10 : Nat) (List.map Sp.row l), I m] [] (V.own (0 : Nat)) [some (Obj.arr (14 : Nat) (List.map Rw.row (rowsR l m)))],
      LoopC Try.prog (0 : Nat) (118 : Nat) uoB { env := [((0 : Nat), V.sl (10 : Nat) (List.map Sp.row l)), ((1 : Nat), I m), ((6 : Nat), V.sl (14 : Nat) (List.map Rw.row (rowsR l m))), ((7 : Nat), I (0 : Int))], st := [], ids := [] } (Ex.exit (0 : Nat)) { env := [((0 : Nat), V.sl (10 : Nat) (List.map Sp.row l)), ((1 : Nat), I m), ((6 : Nat), V.sl (14 : Nat) (List.map Rw.row (rowsR l m))), ((7 : Nat), I (Int.ofNat (List.length (rowsR l m))))], st := [], ids := [] }] (by kernel_rfl)
    (by
      simp only [allP]
      and_intros <;> first
        | omega
        | with_reducible assumption
        | exact cAlive
        | exact cFewAll _
        | (simp [h1]; done)
        | exact cRows l m (by omega) ha
        | exact flatRw _
        | exact hl
        | (simp; done)
        | decide)

theorem sumsB (l : List Sp) (m : Int) (h1 : fewAll l = true) (hs : l.length ≤ 60) (ha : ∀ x ∈ l, x.attrs.length ≤ 1000000000) (hl : LoopC Try.prog 0 118 uoB (uoS l m (rowsR l m) 0) (.exit 0) (uoS l m (rowsR l m) (rowsR l m).length)) : Contract Try.prog 4 [.sl 10 (l.map Sp.row), I m] [] (Bo true) [] := by
  exact Contract.cast (by first | rfl | (simp only [cond_true, cond_false]; done) | (simp []; done) | (first | (simp []; done) | (refine congrArg _ ?_; simp []; done) | (refine congrArg _ ?_; simp []; omega) | (simp only [Bool.cond_eq_ite, Bool.and_eq_true, Bool.or_eq_true, Bool.not_eq_true', decide_eq_true_eq, beq_iff_eq, beq_eq_false_iff_ne, ne_eq]; (repeat' split) <;> first | rfl | (exfalso; omega) | omega | (simp_all; done) | (exfalso; simp_all; omega)))) (by first | rfl | (simp only [cond_true, cond_false]; done) | (simp []; done) | (first | (simp []; done) | (refine congrArg _ ?_; simp []; done) | (refine congrArg _ ?_; simp []; omega) | (simp only [Bool.cond_eq_ite, Bool.and_eq_true, Bool.or_eq_true, Bool.not_eq_true', decide_eq_true_eq, beq_iff_eq, beq_eq_false_iff_ne, ne_eq]; (repeat' split) <;> first | rfl | (exfalso; omega) | omega | (simp_all; done) | (exfalso; simp_all; omega)))) (sumsB_0 l m h1 hs ha hl )

end Go.Proofs.Ytigakemkanobaaa
