/- episodes: what compares them. -/
import Derived.Test.YtfpdlamjlbpmkaaSpA
import Derived.Test.YtfpdlamjlbpmkaaLibU
namespace Go.Proofs.Ytfpdlamjlbpmkaa
open E
set_option maxRecDepth 100000
set_option linter.unusedVariables false
set_option linter.unusedSimpArgs false


/-- An episode. -/
structure Ep where
  hi : Int
  lo : Int
  first : Int
  last : Int
  sure : Bool
  spans : List Sp
def Ep.row (e : Ep) : List V := [U e.hi, U e.lo, I e.first, I e.last, Bo e.sure, .sl 10 (e.spans.map Sp.row)]
def Ep.v (e : Ep) : V := .agg e.row
def cmpI (a b : Int) : Int := bif decide (a < b) then -1 else bif decide (a > b) then 1 else 0
def or2 (a b : Int) : Int := bif a != 0 then a else b
/-- Which episode's trace is ahead. -/
def cmpE (a b : Ep) : Int := or2 (cmpI a.hi b.hi) (cmpI a.lo b.lo)
def FNaI : List V → Option V := fun _ => some (Bo false)
def FCmpI : List V → Option V
  | [.val (.int _ a), .val (.int _ b)] => some (I (cmpI a b))
  | _ => none
def FOr2 : List V → Option V
  | [.sl _ [[.val (.int _ a)], [.val (.int _ b)]]] => some (I (or2 a b))
  | _ => none
theorem cNaI_0 (n : Int)  : Contract Try.prog 43 [U n] [] (Bo false) ([]) :=
  vcP hmix [.reg 1 [(2, [], some false)]] [] [
      (n != n) = false] (by kernel_rfl)
    (by
      simp only [allP]
      and_intros <;> first
        | (simp; done))

theorem cNaI (n : Int)  : Contract Try.prog 43 [U n] [] (Bo false) [] := by
  exact Contract.cast (by
    first
      | rfl) (by
    first
      | rfl) (cNaI_0 n  )

theorem cCmpI_0 (a b : Int)  (tq0 : (decide (a < b)) = true) : Contract Try.prog 38 [U a, U b] [] (I (-1 : Int)) ([]) :=
  vcP hmix [.reg 9 [(2, [], some true)], .tab [(43, FNaI)]] [] [
      Contract Try.prog (43 : Nat) [V.val (Value.int IntKind.u64 a)] [] (Bo false) [],
      Contract Try.prog (43 : Nat) [V.val (Value.int IntKind.u64 b)] [] (Bo false) [],
      decide (a < b) = true] (by kernel_rfl)
    (by
      have d0 := tq0
      try simp only [Int.ofNat_eq_natCast, List.length_map, Bool.not_eq_true', Bool.not_eq_false', decide_eq_true_eq, decide_eq_false_iff_not] at d0
      simp only [allP]
      and_intros <;> first
        | omega
        | exact cNaI _)

theorem cCmpI_1 (a b : Int)  (tq0 : (decide (a < b)) = false) (tq1 : (decide (a > b)) = true) : Contract Try.prog 38 [U a, U b] [] (I (1 : Int)) ([]) :=
  vcP hmix [.reg 9 [(2, [], some false)], .reg 11 [(2, [], some true)], .tab [(43, FNaI)]] [] [
      Contract Try.prog (43 : Nat) [V.val (Value.int IntKind.u64 a)] [] (Bo false) [],
      Contract Try.prog (43 : Nat) [V.val (Value.int IntKind.u64 b)] [] (Bo false) [],
      decide (a < b) = false,
      decide (a > b) = true] (by kernel_rfl)
    (by
      have d0 := tq0
      have d1 := tq1
      try simp only [Int.ofNat_eq_natCast, List.length_map, Bool.not_eq_true', Bool.not_eq_false', decide_eq_true_eq, decide_eq_false_iff_not] at d0 d1
      simp only [allP]
      and_intros <;> first
        | omega
        | exact cNaI _)

theorem cCmpI_2 (a b : Int)  (tq0 : (decide (a < b)) = false) (tq1 : (decide (a > b)) = false) : Contract Try.prog 38 [U a, U b] [] (I (0 : Int)) ([]) :=
  vcP hmix [.reg 9 [(2, [], some false)], .reg 11 [(2, [], some false)], .tab [(43, FNaI)]] [] [
      Contract Try.prog (43 : Nat) [V.val (Value.int IntKind.u64 a)] [] (Bo false) [],
      Contract Try.prog (43 : Nat) [V.val (Value.int IntKind.u64 b)] [] (Bo false) [],
      decide (a < b) = false,
      decide (a > b) = false] (by kernel_rfl)
    (by
      have d0 := tq0
      have d1 := tq1
      try simp only [Int.ofNat_eq_natCast, List.length_map, Bool.not_eq_true', Bool.not_eq_false', decide_eq_true_eq, decide_eq_false_iff_not] at d0 d1
      simp only [allP]
      and_intros <;> first
        | omega
        | exact cNaI _)

theorem cCmpI (a b : Int)  : Contract Try.prog 38 [U a, U b] [] (I (cmpI a b)) [] := by
  rcases tf (decide (a < b)) with tq0 | tq0
  · exact Contract.cast (by
      first
        | (simp only [cmpI, tq0, cond_true, cond_false]; done)) (by
      first
        | rfl) (cCmpI_0 a b  tq0)
  · rcases tf (decide (a > b)) with tq1 | tq1
    · exact Contract.cast (by
        first
          | (simp only [cmpI, tq0, tq1, cond_true, cond_false]; done)) (by
        first
          | rfl) (cCmpI_1 a b  tq0 tq1)
    · exact Contract.cast (by
        first
          | (simp only [cmpI, tq0, tq1, cond_true, cond_false]; done)) (by
        first
          | rfl) (cCmpI_2 a b  tq0 tq1)

theorem cOr2_0 (a b : Int)  (tq0 : (a != (0 : Int)) = true) : Contract Try.prog 37 [.sl 1 [[I a], [I b]]] [] (I a) ([]) :=
  vcP hmix [.unroll 4, .reg 5 [(2, [], some true)]] [] [
      (0 : Int) ≤ (0 : Int),
      (0 : Int) < (2 : Int),
      (a != (0 : Int)) = true] (by kernel_rfl)
    (by
      have d0 := tq0
      try simp only [Int.ofNat_eq_natCast, List.length_map, Bool.not_eq_true', Bool.not_eq_false', decide_eq_true_eq, decide_eq_false_iff_not] at d0
      simp only [allP]
      and_intros <;> first
        | omega)

theorem cOr2_1 (a b : Int)  (tq0 : (a != (0 : Int)) = false) (tq1 : (b != (0 : Int)) = true) : Contract Try.prog 37 [.sl 1 [[I a], [I b]]] [] (I b) ([]) :=
  vcP hmix [.unroll 4, .reg 5 [(2, [], some false)], .reg 5 [(2, [], some true)]] [] [
      (0 : Int) ≤ (0 : Int),
      (0 : Int) < (2 : Int),
      (a != (0 : Int)) = false,
      (0 : Int) ≤ (1 : Int),
      (1 : Int) < (2 : Int),
      (b != (0 : Int)) = true] (by kernel_rfl)
    (by
      have d0 := tq0
      have d1 := tq1
      try simp only [Int.ofNat_eq_natCast, List.length_map, Bool.not_eq_true', Bool.not_eq_false', decide_eq_true_eq, decide_eq_false_iff_not] at d0 d1
      simp only [allP]
      and_intros <;> first
        | omega)

theorem cOr2_2 (a b : Int)  (tq0 : (a != (0 : Int)) = false) (tq1 : (b != (0 : Int)) = false) : Contract Try.prog 37 [.sl 1 [[I a], [I b]]] [] (I (0 : Int)) ([]) :=
  vcP hmix [.unroll 4, .reg 5 [(2, [], some false)], .reg 5 [(2, [], some false)]] [] [
      (0 : Int) ≤ (0 : Int),
      (0 : Int) < (2 : Int),
      (a != (0 : Int)) = false,
      (0 : Int) ≤ (1 : Int),
      (1 : Int) < (2 : Int),
      (b != (0 : Int)) = false] (by kernel_rfl)
    (by
      have d0 := tq0
      have d1 := tq1
      try simp only [Int.ofNat_eq_natCast, List.length_map, Bool.not_eq_true', Bool.not_eq_false', decide_eq_true_eq, decide_eq_false_iff_not] at d0 d1
      simp only [allP]
      and_intros <;> first
        | omega)

theorem cOr2 (a b : Int)  : Contract Try.prog 37 [.sl 1 [[I a], [I b]]] [] (I (or2 a b)) [] := by
  rcases tf (a != (0 : Int)) with tq0 | tq0
  · exact Contract.cast (by
      first
        | (simp only [or2, tq0, cond_true, cond_false]; done)) (by
      first
        | rfl) (cOr2_0 a b  tq0)
  · rcases tf (b != (0 : Int)) with tq1 | tq1
    · exact Contract.cast (by
        first
          | (simp only [or2, tq0, tq1, cond_true, cond_false]; done)) (by
        first
          | rfl) (cOr2_1 a b  tq0 tq1)
    · exact Contract.cast (by
        first
          | ((try simp only [Int.ofNat_eq_natCast, List.length_map, Bool.not_eq_true', Bool.not_eq_false', decide_eq_true_eq, decide_eq_false_iff_not] at tq0 tq1); simp only [or2, Bool.cond_eq_ite, Bool.and_eq_true, Bool.or_eq_true, Bool.not_eq_true', decide_eq_true_eq, beq_iff_eq, beq_eq_false_iff_ne, ne_eq]; (repeat' split) <;> first | rfl | (exfalso; omega) | omega | (simp_all; done) | (exfalso; simp_all; omega))) (by
        first
          | rfl) (cOr2_2 a b  tq0 tq1)

theorem cCompare_0 (a b : Ep)  : Contract Try.prog 30 [a.v, b.v] [] (I (or2 (cmpI (Ep.hi a) (Ep.hi b)) (cmpI (Ep.lo a) (Ep.lo b)))) ([]) :=
  vcP hmix [.tab [(38, FCmpI), (37, FOr2)]] [] [
      Contract Try.prog (38 : Nat) [V.val (Value.int IntKind.u64 (Ep.hi a)), V.val (Value.int IntKind.u64 (Ep.hi b))] [] (I (cmpI (Ep.hi a) (Ep.hi b))) [],
      Contract Try.prog (38 : Nat) [V.val (Value.int IntKind.u64 (Ep.lo a)), V.val (Value.int IntKind.u64 (Ep.lo b))] [] (I (cmpI (Ep.lo a) (Ep.lo b))) [],
      Contract Try.prog (37 : Nat) [V.sl (1 : Nat) [[I (cmpI (Ep.hi a) (Ep.hi b))], [I (cmpI (Ep.lo a) (Ep.lo b))]]] [] (I (or2 (cmpI (Ep.hi a) (Ep.hi b)) (cmpI (Ep.lo a) (Ep.lo b)))) [],
      true = true] (by kernel_rfl)
    (by
      simp only [allP]
      and_intros <;> first
        | exact cCmpI _ _
        | exact cOr2 _ _
        | (simp; done))

theorem cCompare (a b : Ep)  : Contract Try.prog 30 [a.v, b.v] [] (I (cmpE a b)) [] := by
  exact Contract.cast (by
    first
      | rfl) (by
    first
      | rfl) (cCompare_0 a b  )

end Go.Proofs.Ytfpdlamjlbpmkaa
