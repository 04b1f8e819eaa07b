/- rollup: what compares rows. -/
import Derived.Test.YtigakemkanobaaaWin
namespace Go.Proofs.Ytigakemkanobaaa
open E
set_option maxRecDepth 100000
set_option linter.unusedVariables false
set_option linter.unusedSimpArgs false


/-- A row of the rollup. -/
structure Rw where
  lev : Int
  win : Int
  svc : ByteArray
  op : ByteArray
  c : Nat → Int
def Rw.row (r : Rw) : List V := [I r.lev, I r.win, Sg r.svc, Sg r.op, I (r.c 0), I (r.c 1), I (r.c 2), I (r.c 3), I (r.c 4), I (r.c 5), I (r.c 6), I (r.c 7), I (r.c 8), I (r.c 9)]
def Rw.v (r : Rw) : V := .agg r.row
def cmpI (a b : Int) : Int := bif decide (a < b) then -1 else bif decide (a > b) then 1 else 0
def or4 (a b c d : Int) : Int := bif a != 0 then a else bif b != 0 then b else bif c != 0 then c else d
/-- Which row is ahead. -/
def cmpR (a b : Rw) : Int := or4 (cmpI a.lev b.lev) (cmpI a.win b.win) (cmpS a.svc b.svc) (cmpS a.op b.op)
def pEqR (e y : Rw) : Bool := cmpR y e == 0
def pGtR (e y : Rw) : Bool := decide (cmpR y e > 0)
def FNaI : List V → Option V := fun _ => some (Bo false)
def FCmpI : List V → Option V
  | [.val (.int _ a), .val (.int _ b)] => some (I (cmpI a b))
  | _ => none
def FOr4 : List V → Option V
  | [.sl _ [[.val (.int _ a)], [.val (.int _ b)], [.val (.int _ c)], [.val (.int _ d)]]] => some (I (or4 a b c d))
  | _ => none
theorem cNaN_0 (s : ByteArray)  : Contract Try.prog 64 [Sg s] [] (Bo false) ([]) :=
  vcP hmix [.reg 1 [(2, [], some false)]] [] [
      (!ByteArray.toList s == ByteArray.toList s) = false] (by kernel_rfl)
    (by
      simp only [allP]
      and_intros <;> first
        | (simp; done))

theorem cNaN (s : ByteArray)  : Contract Try.prog 64 [Sg s] [] (Bo false) [] := by
  exact Contract.cast (by
    first
      | rfl) (by
    first
      | rfl) (cNaN_0 s  )

theorem cNaI_0 (n : Int)  : Contract Try.prog 63 [I n] [] (Bo false) ([]) :=
  vcP hmix [.reg 1 [(2, [], some false)]] [] [
      (n != n) = false] (by kernel_rfl)
    (by
      simp only [allP]
      and_intros <;> first
        | (simp; done))

theorem cNaI (n : Int)  : Contract Try.prog 63 [I n] [] (Bo false) [] := by
  exact Contract.cast (by
    first
      | rfl) (by
    first
      | rfl) (cNaI_0 n  )

theorem cCmp_0 (s t : ByteArray)  (tq0 : (Op.bytesLess (ByteArray.toList s) (ByteArray.toList t)) = true) : Contract Try.prog 56 [Sg s, Sg t] [] (I (-1 : Int)) ([]) :=
  vcP hmix [.reg 9 [(2, [], some true)], .tab [(64, FNaN)]] [] [
      Contract Try.prog (64 : Nat) [Sg s] [] (Bo false) [],
      Contract Try.prog (64 : Nat) [Sg t] [] (Bo false) [],
      Op.bytesLess (ByteArray.toList s) (ByteArray.toList t) = true] (by kernel_rfl)
    (by
      have d0 := tq0
      try simp only [Int.ofNat_eq_natCast, List.length_map, Bool.not_eq_true', Bool.not_eq_false', decide_eq_true_eq, decide_eq_false_iff_not] at d0
      simp only [allP]
      and_intros <;> first
        | omega
        | exact cNaN _)

theorem cCmp_1 (s t : ByteArray)  (tq0 : (Op.bytesLess (ByteArray.toList s) (ByteArray.toList t)) = false) (tq1 : (!(Op.bytesLess (ByteArray.toList s) (ByteArray.toList t) || ByteArray.toList s == ByteArray.toList t)) = true) : Contract Try.prog 56 [Sg s, Sg t] [] (I (1 : Int)) ([]) :=
  vcP hmix [.reg 9 [(2, [], some false)], .reg 11 [(2, [], some true)], .tab [(64, FNaN)]] [] [
      Contract Try.prog (64 : Nat) [Sg s] [] (Bo false) [],
      Contract Try.prog (64 : Nat) [Sg t] [] (Bo false) [],
      Op.bytesLess (ByteArray.toList s) (ByteArray.toList t) = false,
      (!(Op.bytesLess (ByteArray.toList s) (ByteArray.toList t) || ByteArray.toList s == ByteArray.toList t)) = true] (by kernel_rfl)
    (by
      have d0 := tq0
      have d1 := tq1
      try simp only [Int.ofNat_eq_natCast, List.length_map, Bool.not_eq_true', Bool.not_eq_false', decide_eq_true_eq, decide_eq_false_iff_not] at d0 d1
      simp only [allP]
      and_intros <;> first
        | omega
        | exact cNaN _)

theorem cCmp_2 (s t : ByteArray)  (tq0 : (Op.bytesLess (ByteArray.toList s) (ByteArray.toList t)) = false) (tq1 : (!(Op.bytesLess (ByteArray.toList s) (ByteArray.toList t) || ByteArray.toList s == ByteArray.toList t)) = false) : Contract Try.prog 56 [Sg s, Sg t] [] (I (0 : Int)) ([]) :=
  vcP hmix [.reg 9 [(2, [], some false)], .reg 11 [(2, [], some false)], .tab [(64, FNaN)]] [] [
      Contract Try.prog (64 : Nat) [Sg s] [] (Bo false) [],
      Contract Try.prog (64 : Nat) [Sg t] [] (Bo false) [],
      Op.bytesLess (ByteArray.toList s) (ByteArray.toList t) = false,
      (!(Op.bytesLess (ByteArray.toList s) (ByteArray.toList t) || ByteArray.toList s == ByteArray.toList t)) = false] (by kernel_rfl)
    (by
      have d0 := tq0
      have d1 := tq1
      try simp only [Int.ofNat_eq_natCast, List.length_map, Bool.not_eq_true', Bool.not_eq_false', decide_eq_true_eq, decide_eq_false_iff_not] at d0 d1
      simp only [allP]
      and_intros <;> first
        | omega
        | exact cNaN _)

theorem cCmp (s t : ByteArray)  : Contract Try.prog 56 [Sg s, Sg t] [] (I (cmpS s t)) [] := by
  rcases tf (Op.bytesLess (ByteArray.toList s) (ByteArray.toList t)) with tq0 | tq0
  · exact Contract.cast (by
      first
        | (simp only [cmpS, ltS, tq0, cond_true, cond_false]; done)) (by
      first
        | rfl) (cCmp_0 s t  tq0)
  · rcases tf (!(Op.bytesLess (ByteArray.toList s) (ByteArray.toList t) || ByteArray.toList s == ByteArray.toList t)) with tq1 | tq1
    · exact Contract.cast (by
        first
          | ((try simp only [Int.ofNat_eq_natCast, List.length_map, Bool.not_eq_true', Bool.not_eq_false', decide_eq_true_eq, decide_eq_false_iff_not] at tq0 tq1); simp only [cmpS, ltS, Bool.cond_eq_ite, Bool.and_eq_true, Bool.or_eq_true, Bool.not_eq_true', decide_eq_true_eq, beq_iff_eq, beq_eq_false_iff_ne, ne_eq]; (repeat' split) <;> first | rfl | (exfalso; omega) | omega | (simp_all; done) | (exfalso; simp_all; omega))) (by
        first
          | rfl) (cCmp_1 s t  tq0 tq1)
    · exact Contract.cast (by
        first
          | ((try simp only [Int.ofNat_eq_natCast, List.length_map, Bool.not_eq_true', Bool.not_eq_false', decide_eq_true_eq, decide_eq_false_iff_not] at tq0 tq1); simp only [cmpS, ltS, Bool.cond_eq_ite, Bool.and_eq_true, Bool.or_eq_true, Bool.not_eq_true', decide_eq_true_eq, beq_iff_eq, beq_eq_false_iff_ne, ne_eq]; (repeat' split) <;> first | rfl | (exfalso; omega) | omega | (simp_all; done) | (exfalso; simp_all; omega))) (by
        first
          | rfl) (cCmp_2 s t  tq0 tq1)

theorem cCmpI_0 (a b : Int)  (tq0 : (decide (a < b)) = true) : Contract Try.prog 55 [I a, I b] [] (I (-1 : Int)) ([]) :=
  vcP hmix [.reg 9 [(2, [], some true)], .tab [(63, FNaI)]] [] [
      Contract Try.prog (63 : Nat) [I a] [] (Bo false) [],
      Contract Try.prog (63 : Nat) [I b] [] (Bo false) [],
      decide (a < b) = true] (by kernel_rfl)
    (by
      have d0 := tq0
      try simp only [Int.ofNat_eq_natCast, List.length_map, Bool.not_eq_true', Bool.not_eq_false', decide_eq_true_eq, decide_eq_false_iff_not] at d0
      simp only [allP]
      and_intros <;> first
        | omega
        | exact cNaI _)

theorem cCmpI_1 (a b : Int)  (tq0 : (decide (a < b)) = false) (tq1 : (decide (a > b)) = true) : Contract Try.prog 55 [I a, I b] [] (I (1 : Int)) ([]) :=
  vcP hmix [.reg 9 [(2, [], some false)], .reg 11 [(2, [], some true)], .tab [(63, FNaI)]] [] [
      Contract Try.prog (63 : Nat) [I a] [] (Bo false) [],
      Contract Try.prog (63 : Nat) [I b] [] (Bo false) [],
      decide (a < b) = false,
      decide (a > b) = true] (by kernel_rfl)
    (by
      have d0 := tq0
      have d1 := tq1
      try simp only [Int.ofNat_eq_natCast, List.length_map, Bool.not_eq_true', Bool.not_eq_false', decide_eq_true_eq, decide_eq_false_iff_not] at d0 d1
      simp only [allP]
      and_intros <;> first
        | omega
        | exact cNaI _)

theorem cCmpI_2 (a b : Int)  (tq0 : (decide (a < b)) = false) (tq1 : (decide (a > b)) = false) : Contract Try.prog 55 [I a, I b] [] (I (0 : Int)) ([]) :=
  vcP hmix [.reg 9 [(2, [], some false)], .reg 11 [(2, [], some false)], .tab [(63, FNaI)]] [] [
      Contract Try.prog (63 : Nat) [I a] [] (Bo false) [],
      Contract Try.prog (63 : Nat) [I b] [] (Bo false) [],
      decide (a < b) = false,
      decide (a > b) = false] (by kernel_rfl)
    (by
      have d0 := tq0
      have d1 := tq1
      try simp only [Int.ofNat_eq_natCast, List.length_map, Bool.not_eq_true', Bool.not_eq_false', decide_eq_true_eq, decide_eq_false_iff_not] at d0 d1
      simp only [allP]
      and_intros <;> first
        | omega
        | exact cNaI _)

theorem cCmpI (a b : Int)  : Contract Try.prog 55 [I a, I b] [] (I (cmpI a b)) [] := by
  rcases tf (decide (a < b)) with tq0 | tq0
  · exact Contract.cast (by
      first
        | (simp only [cmpI, tq0, cond_true, cond_false]; done)) (by
      first
        | rfl) (cCmpI_0 a b  tq0)
  · rcases tf (decide (a > b)) with tq1 | tq1
    · exact Contract.cast (by
        first
          | (simp only [cmpI, tq0, tq1, cond_true, cond_false]; done)) (by
        first
          | rfl) (cCmpI_1 a b  tq0 tq1)
    · exact Contract.cast (by
        first
          | (simp only [cmpI, tq0, tq1, cond_true, cond_false]; done)) (by
        first
          | rfl) (cCmpI_2 a b  tq0 tq1)

theorem cOr4_0 (a b c d : Int)  (tq0 : (a != (0 : Int)) = true) : Contract Try.prog 54 [.sl 1 [[I a], [I b], [I c], [I d]]] [] (I a) ([]) :=
  vcP hmix [.unroll 6, .reg 5 [(2, [], some true)]] [] [
      (0 : Int) ≤ (0 : Int),
      (0 : Int) < (4 : Int),
      (a != (0 : Int)) = true] (by kernel_rfl)
    (by
      have d0 := tq0
      try simp only [Int.ofNat_eq_natCast, List.length_map, Bool.not_eq_true', Bool.not_eq_false', decide_eq_true_eq, decide_eq_false_iff_not] at d0
      simp only [allP]
      and_intros <;> first
        | omega)

theorem cOr4_1 (a b c d : Int)  (tq0 : (a != (0 : Int)) = false) (tq1 : (b != (0 : Int)) = true) : Contract Try.prog 54 [.sl 1 [[I a], [I b], [I c], [I d]]] [] (I b) ([]) :=
  vcP hmix [.unroll 6, .reg 5 [(2, [], some false)], .reg 5 [(2, [], some true)]] [] [
      (0 : Int) ≤ (0 : Int),
      (0 : Int) < (4 : Int),
      (a != (0 : Int)) = false,
      (0 : Int) ≤ (1 : Int),
      (1 : Int) < (4 : Int),
      (b != (0 : Int)) = true] (by kernel_rfl)
    (by
      have d0 := tq0
      have d1 := tq1
      try simp only [Int.ofNat_eq_natCast, List.length_map, Bool.not_eq_true', Bool.not_eq_false', decide_eq_true_eq, decide_eq_false_iff_not] at d0 d1
      simp only [allP]
      and_intros <;> first
        | omega)

theorem cOr4_2 (a b c d : Int)  (tq0 : (a != (0 : Int)) = false) (tq1 : (b != (0 : Int)) = false) (tq2 : (c != (0 : Int)) = true) : Contract Try.prog 54 [.sl 1 [[I a], [I b], [I c], [I d]]] [] (I c) ([]) :=
  vcP hmix [.unroll 6, .reg 5 [(2, [], some false)], .reg 5 [(2, [], some false)], .reg 5 [(2, [], some true)]] [] [
      (0 : Int) ≤ (0 : Int),
      (0 : Int) < (4 : Int),
      (a != (0 : Int)) = false,
      (0 : Int) ≤ (1 : Int),
      (1 : Int) < (4 : Int),
      (b != (0 : Int)) = false,
      (0 : Int) ≤ (2 : Int),
      (2 : Int) < (4 : Int),
      (c != (0 : Int)) = true] (by kernel_rfl)
    (by
      have d0 := tq0
      have d1 := tq1
      have d2 := tq2
      try simp only [Int.ofNat_eq_natCast, List.length_map, Bool.not_eq_true', Bool.not_eq_false', decide_eq_true_eq, decide_eq_false_iff_not] at d0 d1 d2
      simp only [allP]
      and_intros <;> first
        | omega)

theorem cOr4_3 (a b c d : Int)  (tq0 : (a != (0 : Int)) = false) (tq1 : (b != (0 : Int)) = false) (tq2 : (c != (0 : Int)) = false) (tq3 : (d != (0 : Int)) = true) : Contract Try.prog 54 [.sl 1 [[I a], [I b], [I c], [I d]]] [] (I d) ([]) :=
  vcP hmix [.unroll 6, .reg 5 [(2, [], some false)], .reg 5 [(2, [], some false)], .reg 5 [(2, [], some false)], .reg 5 [(2, [], some true)]] [] [
      (0 : Int) ≤ (0 : Int),
      (0 : Int) < (4 : Int),
      (a != (0 : Int)) = false,
      (0 : Int) ≤ (1 : Int),
      (1 : Int) < (4 : Int),
      (b != (0 : Int)) = false,
      (0 : Int) ≤ (2 : Int),
      (2 : Int) < (4 : Int),
      (c != (0 : Int)) = false,
      (0 : Int) ≤ (3 : Int),
      (3 : Int) < (4 : Int),
      (d != (0 : Int)) = true] (by kernel_rfl)
    (by
      have d0 := tq0
      have d1 := tq1
      have d2 := tq2
      have d3 := tq3
      try simp only [Int.ofNat_eq_natCast, List.length_map, Bool.not_eq_true', Bool.not_eq_false', decide_eq_true_eq, decide_eq_false_iff_not] at d0 d1 d2 d3
      simp only [allP]
      and_intros <;> first
        | omega)

theorem cOr4_4 (a b c d : Int)  (tq0 : (a != (0 : Int)) = false) (tq1 : (b != (0 : Int)) = false) (tq2 : (c != (0 : Int)) = false) (tq3 : (d != (0 : Int)) = false) : Contract Try.prog 54 [.sl 1 [[I a], [I b], [I c], [I d]]] [] (I (0 : Int)) ([]) :=
  vcP hmix [.unroll 6, .reg 5 [(2, [], some false)], .reg 5 [(2, [], some false)], .reg 5 [(2, [], some false)], .reg 5 [(2, [], some false)]] [] [
      (0 : Int) ≤ (0 : Int),
      (0 : Int) < (4 : Int),
      (a != (0 : Int)) = false,
      (0 : Int) ≤ (1 : Int),
      (1 : Int) < (4 : Int),
      (b != (0 : Int)) = false,
      (0 : Int) ≤ (2 : Int),
      (2 : Int) < (4 : Int),
      (c != (0 : Int)) = false,
      (0 : Int) ≤ (3 : Int),
      (3 : Int) < (4 : Int),
      (d != (0 : Int)) = false] (by kernel_rfl)
    (by
      have d0 := tq0
      have d1 := tq1
      have d2 := tq2
      have d3 := tq3
      try simp only [Int.ofNat_eq_natCast, List.length_map, Bool.not_eq_true', Bool.not_eq_false', decide_eq_true_eq, decide_eq_false_iff_not] at d0 d1 d2 d3
      simp only [allP]
      and_intros <;> first
        | omega)

theorem cOr4 (a b c d : Int)  : Contract Try.prog 54 [.sl 1 [[I a], [I b], [I c], [I d]]] [] (I (or4 a b c d)) [] := by
  rcases tf (a != (0 : Int)) with tq0 | tq0
  · exact Contract.cast (by
      first
        | (simp only [or4, tq0, cond_true, cond_false]; done)) (by
      first
        | rfl) (cOr4_0 a b c d  tq0)
  · rcases tf (b != (0 : Int)) with tq1 | tq1
    · exact Contract.cast (by
        first
          | (simp only [or4, tq0, tq1, cond_true, cond_false]; done)) (by
        first
          | rfl) (cOr4_1 a b c d  tq0 tq1)
    · rcases tf (c != (0 : Int)) with tq2 | tq2
      · exact Contract.cast (by
          first
            | (simp only [or4, tq0, tq1, tq2, cond_true, cond_false]; done)) (by
          first
            | rfl) (cOr4_2 a b c d  tq0 tq1 tq2)
      · rcases tf (d != (0 : Int)) with tq3 | tq3
        · exact Contract.cast (by
            first
              | (simp only [or4, tq0, tq1, tq2, tq3, cond_true, cond_false]; done)) (by
            first
              | rfl) (cOr4_3 a b c d  tq0 tq1 tq2 tq3)
        · exact Contract.cast (by
            first
              | ((try simp only [Int.ofNat_eq_natCast, List.length_map, Bool.not_eq_true', Bool.not_eq_false', decide_eq_true_eq, decide_eq_false_iff_not] at tq0 tq1 tq2 tq3); simp only [or4, Bool.cond_eq_ite, Bool.and_eq_true, Bool.or_eq_true, Bool.not_eq_true', decide_eq_true_eq, beq_iff_eq, beq_eq_false_iff_ne, ne_eq]; (repeat' split) <;> first | rfl | (exfalso; omega) | omega | (simp_all; done) | (exfalso; simp_all; omega))) (by
            first
              | rfl) (cOr4_4 a b c d  tq0 tq1 tq2 tq3)

theorem cCompare_0 (a b : Rw)  : Contract Try.prog 44 [a.v, b.v] [] (I (or4 (cmpI (Rw.lev a) (Rw.lev b)) (cmpI (Rw.win a) (Rw.win b)) (cmpS (Rw.svc a) (Rw.svc b)) (cmpS (Rw.op a) (Rw.op b)))) ([]) :=
  vcP hmix [.tab [(56, FCmp), (55, FCmpI), (54, FOr4)]] [] [
      Contract Try.prog (55 : Nat) [I (Rw.lev a), I (Rw.lev b)] [] (I (cmpI (Rw.lev a) (Rw.lev b))) [],
      Contract Try.prog (55 : Nat) [I (Rw.win a), I (Rw.win b)] [] (I (cmpI (Rw.win a) (Rw.win b))) [],
      Contract Try.prog (56 : Nat) [Sg (Rw.svc a), Sg (Rw.svc b)] [] (I (cmpS (Rw.svc a) (Rw.svc b))) [],
      Contract Try.prog (56 : Nat) [Sg (Rw.op a), Sg (Rw.op b)] [] (I (cmpS (Rw.op a) (Rw.op b))) [],
      Contract Try.prog (54 : Nat) [V.sl (1 : Nat) [[I (cmpI (Rw.lev a) (Rw.lev b))], [I (cmpI (Rw.win a) (Rw.win b))], [I (cmpS (Rw.svc a) (Rw.svc b))], [I (cmpS (Rw.op a) (Rw.op b))]]] [] (I (or4 (cmpI (Rw.lev a) (Rw.lev b)) (cmpI (Rw.win a) (Rw.win b)) (cmpS (Rw.svc a) (Rw.svc b)) (cmpS (Rw.op a) (Rw.op b)))) [],
      true = true] (by kernel_rfl)
    (by
      simp only [allP]
      and_intros <;> first
        | exact cCmp _ _
        | exact cCmpI _ _
        | exact cOr4 _ _ _ _
        | (simp; done))

theorem cCompare (a b : Rw)  : Contract Try.prog 44 [a.v, b.v] [] (I (cmpR a b)) [] := by
  exact Contract.cast (by
    first
      | rfl) (by
    first
      | rfl) (cCompare_0 a b  )

theorem cEq1_0 (x e : Rw)  : Contract Try.prog 43 [x.v, .ptr 0 0 0 0] [.box e.row] (Bo (cmpR x e == (0 : Int))) ([some (Obj.box [I (Rw.lev e), I (Rw.win e), Sg (Rw.svc e), Sg (Rw.op e), I (Rw.c e (0 : Nat)), I (Rw.c e (1 : Nat)), I (Rw.c e (2 : Nat)), I (Rw.c e (3 : Nat)), I (Rw.c e (4 : Nat)), I (Rw.c e (5 : Nat)), I (Rw.c e (6 : Nat)), I (Rw.c e (7 : Nat)), I (Rw.c e (8 : Nat)), I (Rw.c e (9 : Nat))])]) :=
  vcP hmix [.tab [(44, fun _ => some (I (cmpR x e)))]] [] [
      Contract Try.prog (44 : Nat) [V.agg [I (Rw.lev x), I (Rw.win x), Sg (Rw.svc x), Sg (Rw.op x), I (Rw.c x (0 : Nat)), I (Rw.c x (1 : Nat)), I (Rw.c x (2 : Nat)), I (Rw.c x (3 : Nat)), I (Rw.c x (4 : Nat)), I (Rw.c x (5 : Nat)), I (Rw.c x (6 : Nat)), I (Rw.c x (7 : Nat)), I (Rw.c x (8 : Nat)), I (Rw.c x (9 : Nat))], V.agg [I (Rw.lev e), I (Rw.win e), Sg (Rw.svc e), Sg (Rw.op e), I (Rw.c e (0 : Nat)), I (Rw.c e (1 : Nat)), I (Rw.c e (2 : Nat)), I (Rw.c e (3 : Nat)), I (Rw.c e (4 : Nat)), I (Rw.c e (5 : Nat)), I (Rw.c e (6 : Nat)), I (Rw.c e (7 : Nat)), I (Rw.c e (8 : Nat)), I (Rw.c e (9 : Nat))]] [] (I (cmpR x e)) []] (by kernel_rfl)
    (cCompare x e)

theorem cEq1 (x e : Rw)  : Contract Try.prog 43 [x.v, .ptr 0 0 0 0] [.box e.row] (Bo (pEqR e x)) [some (.box e.row)] := by
  exact Contract.cast (by
    first
      | rfl) (by
    first
      | rfl) (cEq1_0 x e  )

theorem cGt1_0 (x e : Rw)  : Contract Try.prog 45 [x.v, .ptr 0 0 0 0] [.box e.row] (Bo (decide (cmpR x e > (0 : Int)))) ([some (Obj.box [I (Rw.lev e), I (Rw.win e), Sg (Rw.svc e), Sg (Rw.op e), I (Rw.c e (0 : Nat)), I (Rw.c e (1 : Nat)), I (Rw.c e (2 : Nat)), I (Rw.c e (3 : Nat)), I (Rw.c e (4 : Nat)), I (Rw.c e (5 : Nat)), I (Rw.c e (6 : Nat)), I (Rw.c e (7 : Nat)), I (Rw.c e (8 : Nat)), I (Rw.c e (9 : Nat))])]) :=
  vcP hmix [.tab [(44, fun _ => some (I (cmpR x e)))]] [] [
      Contract Try.prog (44 : Nat) [V.agg [I (Rw.lev x), I (Rw.win x), Sg (Rw.svc x), Sg (Rw.op x), I (Rw.c x (0 : Nat)), I (Rw.c x (1 : Nat)), I (Rw.c x (2 : Nat)), I (Rw.c x (3 : Nat)), I (Rw.c x (4 : Nat)), I (Rw.c x (5 : Nat)), I (Rw.c x (6 : Nat)), I (Rw.c x (7 : Nat)), I (Rw.c x (8 : Nat)), I (Rw.c x (9 : Nat))], V.agg [I (Rw.lev e), I (Rw.win e), Sg (Rw.svc e), Sg (Rw.op e), I (Rw.c e (0 : Nat)), I (Rw.c e (1 : Nat)), I (Rw.c e (2 : Nat)), I (Rw.c e (3 : Nat)), I (Rw.c e (4 : Nat)), I (Rw.c e (5 : Nat)), I (Rw.c e (6 : Nat)), I (Rw.c e (7 : Nat)), I (Rw.c e (8 : Nat)), I (Rw.c e (9 : Nat))]] [] (I (cmpR x e)) []] (by kernel_rfl)
    (cCompare x e)

theorem cGt1 (x e : Rw)  : Contract Try.prog 45 [x.v, .ptr 0 0 0 0] [.box e.row] (Bo (pGtR e x)) [some (.box e.row)] := by
  exact Contract.cast (by
    first
      | rfl) (by
    first
      | rfl) (cGt1_0 x e  )

theorem flatRw (l : List Rw) : FlatRows (l.map Rw.row) := by
  intro r hr
  obtain ⟨e, _, rfl⟩ := List.mem_map.1 hr
  rfl
end Go.Proofs.Ytigakemkanobaaa
