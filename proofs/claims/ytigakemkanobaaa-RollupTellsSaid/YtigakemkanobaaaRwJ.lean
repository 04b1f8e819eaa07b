/- rollup: counters together, by the reference. -/
import Derived.Test.YtigakemkanobaaaRwQ
import Derived.Test.YtigakemkanobaaaRwF
namespace Go.Proofs.Ytigakemkanobaaa
open E
set_option maxRecDepth 100000
set_option linter.unusedVariables false
set_option linter.unusedSimpArgs false


def capR (n lo hi : Int) : Int := bif decide (n < lo) then lo else bif decide (n > hi) then hi else n
def FCap : List V → Option V
  | [.val (.int _ n), .val (.int _ lo), .val (.int _ hi)] => some (I (capR n lo hi))
  | _ => none
def sumR (a b m : Int) : Int := bif decide (capR b 0 (capR m 0 9223372036854775807) > IntKind.i64.wrap (capR m 0 9223372036854775807 + -capR a 0 (capR m 0 9223372036854775807))) then capR m 0 9223372036854775807 else IntKind.i64.wrap (capR a 0 (capR m 0 9223372036854775807) + capR b 0 (capR m 0 9223372036854775807))
def FSum : List V → Option V
  | [.val (.int _ a), .val (.int _ b), .val (.int _ m)] => some (I (sumR a b m))
  | _ => none
def sumF (f g : Nat → Int) (m : Int) (k : Nat) : Int := sumR (f k) (g k) m

theorem sumR_eq {a b m : Int} (hm : inI m) : sumR a b m = plusN a b m := by
  unfold inI at hm
  have hc : ∀ n lo hi : Int, capR n lo hi = if n < lo then lo else if n > hi then hi else n := by
    intro n lo hi
    unfold capR
    rw [Bool.cond_eq_ite, Bool.cond_eq_ite]
    simp only [decide_eq_true_eq]
  unfold sumR plusN
  have hM : capR m 0 9223372036854775807 = if 0 < m then m else 0 := by
    rw [hc]; repeat' split
    all_goals omega
  rw [hM]
  generalize hMM : (if 0 < m then m else 0) = M
  have hM1 : 0 ≤ M ∧ M ≤ 9223372036854775807 := by subst hMM; split <;> omega
  have hx : ∀ x : Int, capR x 0 M = if x < 0 then 0 else if M < x then M else x := by
    intro x
    rw [hc]
  rw [hx a, hx b]
  generalize hA : (if a < 0 then 0 else if M < a then M else a) = A
  generalize hB : (if b < 0 then 0 else if M < b then M else b) = B
  have hA1 : 0 ≤ A ∧ A ≤ M := by subst hA; repeat' split
                                 all_goals omega
  have hB1 : 0 ≤ B ∧ B ≤ M := by subst hB; repeat' split
                                 all_goals omega
  have hw : IntKind.i64.wrap (M + -A) = M - A := by rw [← Int.sub_eq_add_neg]; exact i64_small (by omega)
  simp only [hw]
  rw [Bool.cond_eq_ite]
  simp only [decide_eq_true_eq]
  by_cases h : B > M - A
  · rw [if_pos h, if_pos (by omega)]
  · rw [if_neg h, if_neg (by omega), i64_small (by omega)]
    try (rw [hA, hB])
theorem cCap_0 (n lo hi : Int)  (tq0 : (decide (n < lo)) = true) : Contract Try.prog 17 [I n, I lo, I hi] [] (I lo) ([]) :=
  vcP hmix [.reg 1 [(3, [], some true)]] [] [
      decide (n < lo) = true] (by kernel_rfl)
    (by
      have d0 := tq0
      try simp only [Int.ofNat_eq_natCast, List.length_map, Bool.not_eq_true', Bool.not_eq_false', decide_eq_true_eq, decide_eq_false_iff_not] at d0
      simp only [allP]
      and_intros <;> first
        | omega)

theorem cCap_1 (n lo hi : Int)  (tq0 : (decide (n < lo)) = false) (tq1 : (decide (n > hi)) = true) : Contract Try.prog 17 [I n, I lo, I hi] [] (I hi) ([]) :=
  vcP hmix [.reg 1 [(3, [], some false)], .reg 3 [(3, [], some true)]] [] [
      decide (n < lo) = false,
      decide (n > hi) = true] (by kernel_rfl)
    (by
      have d0 := tq0
      have d1 := tq1
      try simp only [Int.ofNat_eq_natCast, List.length_map, Bool.not_eq_true', Bool.not_eq_false', decide_eq_true_eq, decide_eq_false_iff_not] at d0 d1
      simp only [allP]
      and_intros <;> first
        | omega)

theorem cCap_2 (n lo hi : Int)  (tq0 : (decide (n < lo)) = false) (tq1 : (decide (n > hi)) = false) : Contract Try.prog 17 [I n, I lo, I hi] [] (I n) ([]) :=
  vcP hmix [.reg 1 [(3, [], some false)], .reg 3 [(3, [], some false)]] [] [
      decide (n < lo) = false,
      decide (n > hi) = false] (by kernel_rfl)
    (by
      have d0 := tq0
      have d1 := tq1
      try simp only [Int.ofNat_eq_natCast, List.length_map, Bool.not_eq_true', Bool.not_eq_false', decide_eq_true_eq, decide_eq_false_iff_not] at d0 d1
      simp only [allP]
      and_intros <;> first
        | omega)

theorem cCap (n lo hi : Int)  : Contract Try.prog 17 [I n, I lo, I hi] [] (I (capR n lo hi)) [] := by
  rcases tf (decide (n < lo)) with tq0 | tq0
  · exact Contract.cast (by
      first
        | (simp only [capR, tq0, cond_true, cond_false]; done)) (by
      first
        | rfl) (cCap_0 n lo hi  tq0)
  · rcases tf (decide (n > hi)) with tq1 | tq1
    · exact Contract.cast (by
        first
          | (simp only [capR, tq0, tq1, cond_true, cond_false]; done)) (by
        first
          | rfl) (cCap_1 n lo hi  tq0 tq1)
    · exact Contract.cast (by
        first
          | (simp only [capR, tq0, tq1, cond_true, cond_false]; done)) (by
        first
          | rfl) (cCap_2 n lo hi  tq0 tq1)

theorem cSum_0 (a b m : Int)  (tq0 : (decide (capR b (0 : Int) (capR m (0 : Int) (9223372036854775807 : Int)) > IntKind.wrap IntKind.i64 (capR m (0 : Int) (9223372036854775807 : Int) + -capR a (0 : Int) (capR m (0 : Int) (9223372036854775807 : Int))))) = true) : Contract Try.prog 28 [I a, I b, I m] [] (I (capR m (0 : Int) (9223372036854775807 : Int))) ([]) :=
  vcP hmix [.reg 4 [(4, [], some true)], .tab [(17, FCap)]] [] [
      Contract Try.prog (17 : Nat) [I m, I (0 : Int), I (9223372036854775807 : Int)] [] (I (capR m (0 : Int) (9223372036854775807 : Int))) [],
      Contract Try.prog (17 : Nat) [I a, I (0 : Int), I (capR m (0 : Int) (9223372036854775807 : Int))] [] (I (capR a (0 : Int) (capR m (0 : Int) (9223372036854775807 : Int)))) [],
      Contract Try.prog (17 : Nat) [I b, I (0 : Int), I (capR m (0 : Int) (9223372036854775807 : Int))] [] (I (capR b (0 : Int) (capR m (0 : Int) (9223372036854775807 : Int)))) [],
      decide (capR b (0 : Int) (capR m (0 : Int) (9223372036854775807 : Int)) > IntKind.wrap IntKind.i64 (capR m (0 : Int) (9223372036854775807 : Int) + -capR a (0 : Int) (capR m (0 : Int) (9223372036854775807 : Int)))) = true] (by kernel_rfl)
    (by
      have d0 := tq0
      try simp only [Int.ofNat_eq_natCast, List.length_map, Bool.not_eq_true', Bool.not_eq_false', decide_eq_true_eq, decide_eq_false_iff_not] at d0
      simp only [allP]
      and_intros <;> first
        | omega
        | exact cCap _ _ _)

theorem cSum_1 (a b m : Int)  (tq0 : (decide (capR b (0 : Int) (capR m (0 : Int) (9223372036854775807 : Int)) > IntKind.wrap IntKind.i64 (capR m (0 : Int) (9223372036854775807 : Int) + -capR a (0 : Int) (capR m (0 : Int) (9223372036854775807 : Int))))) = false) : Contract Try.prog 28 [I a, I b, I m] [] (I (IntKind.wrap IntKind.i64 (capR a (0 : Int) (capR m (0 : Int) (9223372036854775807 : Int)) + capR b (0 : Int) (capR m (0 : Int) (9223372036854775807 : Int))))) ([]) :=
  vcP hmix [.reg 4 [(4, [], some false)], .tab [(17, FCap)]] [] [
      Contract Try.prog (17 : Nat) [I m, I (0 : Int), I (9223372036854775807 : Int)] [] (I (capR m (0 : Int) (9223372036854775807 : Int))) [],
      Contract Try.prog (17 : Nat) [I a, I (0 : Int), I (capR m (0 : Int) (9223372036854775807 : Int))] [] (I (capR a (0 : Int) (capR m (0 : Int) (9223372036854775807 : Int)))) [],
      Contract Try.prog (17 : Nat) [I b, I (0 : Int), I (capR m (0 : Int) (9223372036854775807 : Int))] [] (I (capR b (0 : Int) (capR m (0 : Int) (9223372036854775807 : Int)))) [],
      decide (capR b (0 : Int) (capR m (0 : Int) (9223372036854775807 : Int)) > IntKind.wrap IntKind.i64 (capR m (0 : Int) (9223372036854775807 : Int) + -capR a (0 : Int) (capR m (0 : Int) (9223372036854775807 : Int)))) = false] (by kernel_rfl)
    (by
      have d0 := tq0
      try simp only [Int.ofNat_eq_natCast, List.length_map, Bool.not_eq_true', Bool.not_eq_false', decide_eq_true_eq, decide_eq_false_iff_not] at d0
      simp only [allP]
      and_intros <;> first
        | omega
        | exact cCap _ _ _)

theorem cSum (a b m : Int)  : Contract Try.prog 28 [I a, I b, I m] [] (I (sumR a b m)) [] := by
  rcases tf (decide (capR b (0 : Int) (capR m (0 : Int) (9223372036854775807 : Int)) > IntKind.wrap IntKind.i64 (capR m (0 : Int) (9223372036854775807 : Int) + -capR a (0 : Int) (capR m (0 : Int) (9223372036854775807 : Int))))) with tq0 | tq0
  · exact Contract.cast (by
      first
        | (simp only [sumR, tq0, cond_true, cond_false]; done)) (by
      first
        | rfl) (cSum_0 a b m  tq0)
  · exact Contract.cast (by
      first
        | (simp only [sumR, tq0, cond_true, cond_false]; done)) (by
      first
        | rfl) (cSum_1 a b m  tq0)

theorem cJoin (f g : Nat → Int) (m : Int) : Contract Try.prog 14 [.agg (c10 f), .agg (c10 g), I m] [] (.agg (c10 (sumF f g m))) [] :=
  vcP hmix [.unroll 9, .tab [(28, FSum)]] [] [
      Contract Try.prog (28 : Nat) [I (f (0 : Nat)), I (g (0 : Nat)), I m] [] (I (sumR (f (0 : Nat)) (g (0 : Nat)) m)) [],
      Contract Try.prog (28 : Nat) [I (f (1 : Nat)), I (g (1 : Nat)), I m] [] (I (sumR (f (1 : Nat)) (g (1 : Nat)) m)) [],
      Contract Try.prog (28 : Nat) [I (f (2 : Nat)), I (g (2 : Nat)), I m] [] (I (sumR (f (2 : Nat)) (g (2 : Nat)) m)) [],
      Contract Try.prog (28 : Nat) [I (f (3 : Nat)), I (g (3 : Nat)), I m] [] (I (sumR (f (3 : Nat)) (g (3 : Nat)) m)) [],
      Contract Try.prog (28 : Nat) [I (f (4 : Nat)), I (g (4 : Nat)), I m] [] (I (sumR (f (4 : Nat)) (g (4 : Nat)) m)) [],
      Contract Try.prog (28 : Nat) [I (f (5 : Nat)), I (g (5 : Nat)), I m] [] (I (sumR (f (5 : Nat)) (g (5 : Nat)) m)) [],
      Contract Try.prog (28 : Nat) [I (f (6 : Nat)), I (g (6 : Nat)), I m] [] (I (sumR (f (6 : Nat)) (g (6 : Nat)) m)) [],
      Contract Try.prog (28 : Nat) [I (f (7 : Nat)), I (g (7 : Nat)), I m] [] (I (sumR (f (7 : Nat)) (g (7 : Nat)) m)) [],
      Contract Try.prog (28 : Nat) [I (f (8 : Nat)), I (g (8 : Nat)), I m] [] (I (sumR (f (8 : Nat)) (g (8 : Nat)) m)) [],
      Contract Try.prog (28 : Nat) [I (f (9 : Nat)), I (g (9 : Nat)), I m] [] (I (sumR (f (9 : Nat)) (g (9 : Nat)) m)) []] (by kernel_rfl)
    (by
      simp only [allP]
      and_intros <;> first
        | exact cSum _ _ _)

end Go.Proofs.Ytigakemkanobaaa
