/- windows. -/
import Derived.Test.YtigakemkanobaaaCell
import Derived.Test.YtigakemkanobaaaSpR
namespace Go.Proofs.Ytigakemkanobaaa
open E
set_option maxRecDepth 100000
set_option linter.unusedVariables false
set_option linter.unusedSimpArgs false


/-- How long a level's windows are. -/
def lenW (v : Int) : Int := bif v == 0 then 60 else bif v == 1 then 3600 else bif v == 2 then 86400 else 0
def winW (v sec : Int) : Int := bif lenW v == 0 then -1 else bif withinB sec 0 1099511627776 then sec / lenW v else -1
/-- Whether there is such a window. -/
def goodW (v n : Int) : Bool := !(lenW v == 0) && withinB n 0 (Int.tdiv 1099511627776 (lenW v))
def spanV (v n : Int) : V := bif goodW v n then .tup [I (n * lenW v), I ((n + 1) * lenW v), Bo true] else .tup [I 0, I 0, Bo false]
theorem lenW_cases (v : Int) : (v = 0 ∧ lenW v = 60) ∨ (v = 1 ∧ lenW v = 3600) ∨ (v = 2 ∧ lenW v = 86400) ∨ ((v < 0 ∨ 3 ≤ v) ∧ lenW v = 0) := by
  unfold lenW
  by_cases h0 : v = 0
  · subst h0; left; exact ⟨rfl, rfl⟩
  · by_cases h1 : v = 1
    · subst h1; right; left; exact ⟨rfl, rfl⟩
    · by_cases h2 : v = 2
      · subst h2; right; right; left; exact ⟨rfl, rfl⟩
      · right; right; right
        simp only [beq_eq_false_iff_ne.2 h0, beq_eq_false_iff_ne.2 h1, beq_eq_false_iff_ne.2 h2, cond_false]
        exact ⟨by omega, trivial⟩
theorem wLen0_0   : Contract Try.prog 50 [I 0] [] (I (60 : Int)) ([]) :=
  vcP hmix [] [] [
      (0 : Int) ≤ (0 : Int),
      (0 : Int) < (3 : Int)] (by kernel_rfl)
    (by
      simp only [allP]
      and_intros <;> first
        | omega)

theorem wLen0   : Contract Try.prog 50 [I 0] [] (I 60) [] := by
  exact Contract.cast (by
    first
      | rfl) (by
    first
      | rfl) (wLen0_0   )

theorem wLen1_0   : Contract Try.prog 50 [I 1] [] (I (3600 : Int)) ([]) :=
  vcP hmix [] [] [
      (0 : Int) ≤ (1 : Int),
      (1 : Int) < (3 : Int)] (by kernel_rfl)
    (by
      simp only [allP]
      and_intros <;> first
        | omega)

theorem wLen1   : Contract Try.prog 50 [I 1] [] (I 3600) [] := by
  exact Contract.cast (by
    first
      | rfl) (by
    first
      | rfl) (wLen1_0   )

theorem wLen2_0   : Contract Try.prog 50 [I 2] [] (I (86400 : Int)) ([]) :=
  vcP hmix [] [] [
      (0 : Int) ≤ (2 : Int),
      (2 : Int) < (3 : Int)] (by kernel_rfl)
    (by
      simp only [allP]
      and_intros <;> first
        | omega)

theorem wLen2   : Contract Try.prog 50 [I 2] [] (I 86400) [] := by
  exact Contract.cast (by
    first
      | rfl) (by
    first
      | rfl) (wLen2_0   )

theorem wLenX_0 (v : Int) (h : v < 0 ∨ 3 ≤ v) (tq0 : (decide (v < (0 : Int))) = true) : Contract Try.prog 50 [I v] [] (I (0 : Int)) ([]) :=
  vcP hmix [.reg 1 [(2, [], some true), (5, [], some true)]] [] [
      decide (v < (0 : Int)) = true,
      true = true] (by kernel_rfl)
    (by
      have d0 := tq0
      try simp only [Int.ofNat_eq_natCast, List.length_map, Bool.not_eq_true', Bool.not_eq_false', decide_eq_true_eq, decide_eq_false_iff_not] at d0
      simp only [allP]
      and_intros <;> first
        | omega
        | (simp; done))

theorem wLenX_1 (v : Int) (h : v < 0 ∨ 3 ≤ v) (tq0 : (decide (v < (0 : Int))) = false) : Contract Try.prog 50 [I v] [] (I (0 : Int)) ([]) :=
  vcP hmix [.reg 1 [(2, [], some false), (5, [], some true)]] [] [
      decide (v < (0 : Int)) = false,
      decide (v ≥ (3 : Int)) = true] (by kernel_rfl)
    (by
      have d0 := tq0
      try simp only [Int.ofNat_eq_natCast, List.length_map, Bool.not_eq_true', Bool.not_eq_false', decide_eq_true_eq, decide_eq_false_iff_not] at d0
      simp only [allP]
      and_intros <;> first
        | omega
        | (simp; omega))

theorem wLenX (v : Int) (h : v < 0 ∨ 3 ≤ v) : Contract Try.prog 50 [I v] [] (I 0) [] := by
  rcases tf (decide (v < (0 : Int))) with tq0 | tq0
  · exact Contract.cast (by
      first
        | rfl) (by
      first
        | rfl) (wLenX_0 v h tq0)
  · exact Contract.cast (by
      first
        | rfl) (by
      first
        | rfl) (wLenX_1 v h tq0)

theorem cLen (v : Int) : Contract Try.prog 50 [I v] [] (I (lenW v)) [] := by
  rcases lenW_cases v with ⟨e, h⟩ | ⟨e, h⟩ | ⟨e, h⟩ | ⟨e, h⟩
  · rw [h]; subst e; exact wLen0
  · rw [h]; subst e; exact wLen1
  · rw [h]; subst e; exact wLen2
  · rw [h]
    rcases tf (decide (v < 0)) with k | k
    · exact wLenX v e
    · exact wLenX v e
theorem cLong_0 (v : Int)  (tq0 : (v == (0 : Int)) = true) : Contract Try.prog 27 [I v] [] (I (60 : Int)) ([]) :=
  vcP hmix [.reg 2 [(1, [], some true)]] [] [
      (v == (0 : Int)) = true] (by kernel_rfl)
    (by
      have d0 := tq0
      try simp only [Int.ofNat_eq_natCast, List.length_map, Bool.not_eq_true', Bool.not_eq_false', decide_eq_true_eq, decide_eq_false_iff_not] at d0
      simp only [allP]
      and_intros <;> first
        | omega)

theorem cLong_1 (v : Int)  (tq0 : (v == (0 : Int)) = false) (tq1 : (v == (1 : Int)) = true) : Contract Try.prog 27 [I v] [] (I (3600 : Int)) ([]) :=
  vcP hmix [.reg 2 [(1, [], some false)], .reg 4 [(1, [], some true)]] [] [
      (v == (0 : Int)) = false,
      (v == (1 : Int)) = true] (by kernel_rfl)
    (by
      have d0 := tq0
      have d1 := tq1
      try simp only [Int.ofNat_eq_natCast, List.length_map, Bool.not_eq_true', Bool.not_eq_false', decide_eq_true_eq, decide_eq_false_iff_not] at d0 d1
      simp only [allP]
      and_intros <;> first
        | omega)

theorem cLong_2 (v : Int)  (tq0 : (v == (0 : Int)) = false) (tq1 : (v == (1 : Int)) = false) (tq2 : (v == (2 : Int)) = true) : Contract Try.prog 27 [I v] [] (I (86400 : Int)) ([]) :=
  vcP hmix [.reg 2 [(1, [], some false)], .reg 4 [(1, [], some false)], .reg 6 [(1, [], some true)]] [] [
      (v == (0 : Int)) = false,
      (v == (1 : Int)) = false,
      (v == (2 : Int)) = true] (by kernel_rfl)
    (by
      have d0 := tq0
      have d1 := tq1
      have d2 := tq2
      try simp only [Int.ofNat_eq_natCast, List.length_map, Bool.not_eq_true', Bool.not_eq_false', decide_eq_true_eq, decide_eq_false_iff_not] at d0 d1 d2
      simp only [allP]
      and_intros <;> first
        | omega)

theorem cLong_3 (v : Int)  (tq0 : (v == (0 : Int)) = false) (tq1 : (v == (1 : Int)) = false) (tq2 : (v == (2 : Int)) = false) : Contract Try.prog 27 [I v] [] (I (0 : Int)) ([]) :=
  vcP hmix [.reg 2 [(1, [], some false)], .reg 4 [(1, [], some false)], .reg 6 [(1, [], some false)]] [] [
      (v == (0 : Int)) = false,
      (v == (1 : Int)) = false,
      (v == (2 : Int)) = false] (by kernel_rfl)
    (by
      have d0 := tq0
      have d1 := tq1
      have d2 := tq2
      try simp only [Int.ofNat_eq_natCast, List.length_map, Bool.not_eq_true', Bool.not_eq_false', decide_eq_true_eq, decide_eq_false_iff_not] at d0 d1 d2
      simp only [allP]
      and_intros <;> first
        | omega)

theorem cLong (v : Int)  : Contract Try.prog 27 [I v] [] (I (lenW v)) [] := by
  rcases tf (v == (0 : Int)) with tq0 | tq0
  · exact Contract.cast (by
      first
        | (simp only [lenW, tq0, cond_true, cond_false]; done)) (by
      first
        | rfl) (cLong_0 v  tq0)
  · rcases tf (v == (1 : Int)) with tq1 | tq1
    · exact Contract.cast (by
        first
          | (simp only [lenW, tq0, tq1, cond_true, cond_false]; done)) (by
        first
          | rfl) (cLong_1 v  tq0 tq1)
    · rcases tf (v == (2 : Int)) with tq2 | tq2
      · exact Contract.cast (by
          first
            | (simp only [lenW, tq0, tq1, tq2, cond_true, cond_false]; done)) (by
          first
            | rfl) (cLong_2 v  tq0 tq1 tq2)
      · exact Contract.cast (by
          first
            | (simp only [lenW, tq0, tq1, tq2, cond_true, cond_false]; done)) (by
          first
            | rfl) (cLong_3 v  tq0 tq1 tq2)

theorem cWin60_0 (v sec : Int) (hv : lenW v = 60) (tq0 : (decide (sec < (0 : Int))) = true) : Contract Try.prog 33 [I v, I sec] [] (I (-1 : Int)) ([]) :=
  vcP hmix [.reg 1 [(1, [.call [] [] (I 60) []], none)], .reg 2 [(6, [], some true)]] [] [
      Contract Try.prog (50 : Nat) [I v] [] (I (60 : Int)) [],
      decide (sec < (0 : Int)) = true] (by kernel_rfl)
    (by
      have d0 := tq0
      try simp only [Int.ofNat_eq_natCast, List.length_map, Bool.not_eq_true', Bool.not_eq_false', decide_eq_true_eq, decide_eq_false_iff_not] at d0
      simp only [allP]
      and_intros <;> first
        | omega
        | exact hv ▸ cLen v)

theorem cWin60_1 (v sec : Int) (hv : lenW v = 60) (tq0 : (decide (sec < (0 : Int))) = false) (tq1 : (decide (sec > (1099511627776 : Int))) = true) : Contract Try.prog 33 [I v, I sec] [] (I (-1 : Int)) ([]) :=
  vcP hmix [.reg 1 [(1, [.call [] [] (I 60) []], none)], .reg 2 [(6, [], some false), (9, [], some true)]] [] [
      Contract Try.prog (50 : Nat) [I v] [] (I (60 : Int)) [],
      decide (sec < (0 : Int)) = false,
      decide (sec > (1099511627776 : Int)) = true] (by kernel_rfl)
    (by
      have d0 := tq0
      have d1 := tq1
      try simp only [Int.ofNat_eq_natCast, List.length_map, Bool.not_eq_true', Bool.not_eq_false', decide_eq_true_eq, decide_eq_false_iff_not] at d0 d1
      simp only [allP]
      and_intros <;> first
        | omega
        | exact hv ▸ cLen v)

theorem cWin60_2 (v sec : Int) (hv : lenW v = 60) (tq0 : (decide (sec < (0 : Int))) = false) (tq1 : (decide (sec > (1099511627776 : Int))) = false) : Contract Try.prog 33 [I v, I sec] [] (I (sec / (60 : Int))) ([]) :=
  vcP hmix [.reg 1 [(1, [.call [] [] (I 60) []], none)], .reg 2 [(6, [], some false), (9, [], some false)], .reg 4 [(2, [.be (I (sec / 60))], none)]] [] [
      Contract Try.prog (50 : Nat) [I v] [] (I (60 : Int)) [],
      decide (sec < (0 : Int)) = false,
      decide (sec > (1099511627776 : Int)) = false,
      IntKind.wrap IntKind.i64 (Int.tdiv sec (60 : Int)) = sec / (60 : Int)] (by kernel_rfl)
    (by
      have d0 := tq0
      have d1 := tq1
      try simp only [Int.ofNat_eq_natCast, List.length_map, Bool.not_eq_true', Bool.not_eq_false', decide_eq_true_eq, decide_eq_false_iff_not] at d0 d1
      simp only [allP]
      and_intros <;> first
        | omega
        | exact hv ▸ cLen v
        | (rw [Int.tdiv_eq_ediv_of_nonneg (by omega)]; exact i64_small (by omega)))

theorem cWin60 (v sec : Int) (hv : lenW v = 60) : Contract Try.prog 33 [I v, I sec] [] (I (winW v sec)) [] := by
  rcases tf (decide (sec < (0 : Int))) with tq0 | tq0
  · exact Contract.cast (by
      first
        | ((try simp only [Int.ofNat_eq_natCast, List.length_map, Bool.not_eq_true', Bool.not_eq_false', decide_eq_true_eq, decide_eq_false_iff_not] at tq0); simp only [winW, hv, withinB, Bool.cond_eq_ite, Bool.and_eq_true, Bool.or_eq_true, Bool.not_eq_true', decide_eq_true_eq, beq_iff_eq, beq_eq_false_iff_ne, ne_eq]; (repeat' split) <;> first | rfl | (exfalso; omega) | omega | (simp_all; done) | (exfalso; simp_all; omega))) (by
      first
        | rfl) (cWin60_0 v sec hv tq0)
  · rcases tf (decide (sec > (1099511627776 : Int))) with tq1 | tq1
    · exact Contract.cast (by
        first
          | ((try simp only [Int.ofNat_eq_natCast, List.length_map, Bool.not_eq_true', Bool.not_eq_false', decide_eq_true_eq, decide_eq_false_iff_not] at tq0 tq1); simp only [winW, hv, withinB, Bool.cond_eq_ite, Bool.and_eq_true, Bool.or_eq_true, Bool.not_eq_true', decide_eq_true_eq, beq_iff_eq, beq_eq_false_iff_ne, ne_eq]; (repeat' split) <;> first | rfl | (exfalso; omega) | omega | (simp_all; done) | (exfalso; simp_all; omega))) (by
        first
          | rfl) (cWin60_1 v sec hv tq0 tq1)
    · exact Contract.cast (by
        first
          | ((try simp only [Int.ofNat_eq_natCast, List.length_map, Bool.not_eq_true', Bool.not_eq_false', decide_eq_true_eq, decide_eq_false_iff_not] at tq0 tq1); simp only [winW, hv, withinB, Bool.cond_eq_ite, Bool.and_eq_true, Bool.or_eq_true, Bool.not_eq_true', decide_eq_true_eq, beq_iff_eq, beq_eq_false_iff_ne, ne_eq]; (repeat' split) <;> first | rfl | (exfalso; omega) | omega | (simp_all; done) | (exfalso; simp_all; omega))) (by
        first
          | rfl) (cWin60_2 v sec hv tq0 tq1)

theorem cSpan60_0 (v n : Int) (hv : lenW v = 60) (tq0 : (decide (n < (0 : Int))) = true) : Contract Try.prog 37 [I v, I n] [] (V.tup [I (0 : Int), I (0 : Int), Bo false]) ([]) :=
  vcP hmix [.reg 1 [(1, [.call [] [] (I 60) []], none)], .reg 2 [(6, [], some true)]] [] [
      Contract Try.prog (50 : Nat) [I v] [] (I (60 : Int)) [],
      decide (n < (0 : Int)) = true] (by kernel_rfl)
    (by
      have d0 := tq0
      try simp only [Int.ofNat_eq_natCast, List.length_map, Bool.not_eq_true', Bool.not_eq_false', decide_eq_true_eq, decide_eq_false_iff_not] at d0
      simp only [allP]
      and_intros <;> first
        | omega
        | exact hv ▸ cLen v)

theorem cSpan60_1 (v n : Int) (hv : lenW v = 60) (tq0 : (decide (n < (0 : Int))) = false) (tq1 : (decide (n > (18325193796 : Int))) = true) : Contract Try.prog 37 [I v, I n] [] (V.tup [I (0 : Int), I (0 : Int), Bo false]) ([]) :=
  vcP hmix [.reg 1 [(1, [.call [] [] (I 60) []], none)], .reg 2 [(6, [], some false), (11, [], some true)]] [] [
      Contract Try.prog (50 : Nat) [I v] [] (I (60 : Int)) [],
      decide (n < (0 : Int)) = false,
      decide (n > (18325193796 : Int)) = true] (by kernel_rfl)
    (by
      have d0 := tq0
      have d1 := tq1
      try simp only [Int.ofNat_eq_natCast, List.length_map, Bool.not_eq_true', Bool.not_eq_false', decide_eq_true_eq, decide_eq_false_iff_not] at d0 d1
      simp only [allP]
      and_intros <;> first
        | omega
        | exact hv ▸ cLen v)

theorem cSpan60_2 (v n : Int) (hv : lenW v = 60) (tq0 : (decide (n < (0 : Int))) = false) (tq1 : (decide (n > (18325193796 : Int))) = false) : Contract Try.prog 37 [I v, I n] [] (V.tup [I (n * (60 : Int)), I ((n + (1 : Int)) * (60 : Int)), Bo true]) ([]) :=
  vcP hmix [.reg 1 [(1, [.call [] [] (I 60) []], none)], .reg 2 [(6, [], some false), (11, [], some false)], .reg 4 [(2, [.be (I (n * 60))], none), (6, [.be (I ((n + 1) * 60))], none)]] [] [
      Contract Try.prog (50 : Nat) [I v] [] (I (60 : Int)) [],
      decide (n < (0 : Int)) = false,
      decide (n > (18325193796 : Int)) = false,
      IntKind.wrap IntKind.i64 (n * (60 : Int)) = n * (60 : Int),
      IntKind.wrap IntKind.i64 (IntKind.wrap IntKind.i64 (n + (1 : Int)) * (60 : Int)) = (n + (1 : Int)) * (60 : Int)] (by kernel_rfl)
    (by
      have d0 := tq0
      have d1 := tq1
      try simp only [Int.ofNat_eq_natCast, List.length_map, Bool.not_eq_true', Bool.not_eq_false', decide_eq_true_eq, decide_eq_false_iff_not] at d0 d1
      simp only [allP]
      and_intros <;> first
        | omega
        | exact hv ▸ cLen v
        | exact i64_small (by omega)
        | (rw [i64_small (n := n + 1) (by omega), i64_small (by omega)]; done))

theorem cSpan60 (v n : Int) (hv : lenW v = 60) : Contract Try.prog 37 [I v, I n] [] (spanV v n) [] := by
  rcases tf (decide (n < (0 : Int))) with tq0 | tq0
  · exact Contract.cast (by
      first
        | ((try simp only [Int.ofNat_eq_natCast, List.length_map, Bool.not_eq_true', Bool.not_eq_false', decide_eq_true_eq, decide_eq_false_iff_not] at tq0); simp only [spanV, goodW, hv, withinB, Bool.cond_eq_ite, Bool.and_eq_true, Bool.or_eq_true, Bool.not_eq_true', decide_eq_true_eq, beq_iff_eq, beq_eq_false_iff_ne, ne_eq]; (repeat' split) <;> first | rfl | (exfalso; omega) | omega | (simp_all; done) | (exfalso; simp_all; omega))) (by
      first
        | rfl) (cSpan60_0 v n hv tq0)
  · rcases tf (decide (n > (18325193796 : Int))) with tq1 | tq1
    · exact Contract.cast (by
        first
          | ((try simp only [Int.ofNat_eq_natCast, List.length_map, Bool.not_eq_true', Bool.not_eq_false', decide_eq_true_eq, decide_eq_false_iff_not] at tq0 tq1); simp only [spanV, goodW, hv, withinB, Bool.cond_eq_ite, Bool.and_eq_true, Bool.or_eq_true, Bool.not_eq_true', decide_eq_true_eq, beq_iff_eq, beq_eq_false_iff_ne, ne_eq]; (repeat' split) <;> first | rfl | (exfalso; omega) | omega | (simp_all; done) | (exfalso; simp_all; omega))) (by
        first
          | rfl) (cSpan60_1 v n hv tq0 tq1)
    · exact Contract.cast (by
        first
          | ((try simp only [Int.ofNat_eq_natCast, List.length_map, Bool.not_eq_true', Bool.not_eq_false', decide_eq_true_eq, decide_eq_false_iff_not] at tq0 tq1); simp only [spanV, goodW, hv, withinB, Bool.cond_eq_ite, Bool.and_eq_true, Bool.or_eq_true, Bool.not_eq_true', decide_eq_true_eq, beq_iff_eq, beq_eq_false_iff_ne, ne_eq]; (repeat' split) <;> first | rfl | (exfalso; omega) | omega | (simp_all; done) | (exfalso; simp_all; omega))) (by
        first
          | rfl) (cSpan60_2 v n hv tq0 tq1)

theorem cWin3600_0 (v sec : Int) (hv : lenW v = 3600) (tq0 : (decide (sec < (0 : Int))) = true) : Contract Try.prog 33 [I v, I sec] [] (I (-1 : Int)) ([]) :=
  vcP hmix [.reg 1 [(1, [.call [] [] (I 3600) []], none)], .reg 2 [(6, [], some true)]] [] [
      Contract Try.prog (50 : Nat) [I v] [] (I (3600 : Int)) [],
      decide (sec < (0 : Int)) = true] (by kernel_rfl)
    (by
      have d0 := tq0
      try simp only [Int.ofNat_eq_natCast, List.length_map, Bool.not_eq_true', Bool.not_eq_false', decide_eq_true_eq, decide_eq_false_iff_not] at d0
      simp only [allP]
      and_intros <;> first
        | omega
        | exact hv ▸ cLen v)

theorem cWin3600_1 (v sec : Int) (hv : lenW v = 3600) (tq0 : (decide (sec < (0 : Int))) = false) (tq1 : (decide (sec > (1099511627776 : Int))) = true) : Contract Try.prog 33 [I v, I sec] [] (I (-1 : Int)) ([]) :=
  vcP hmix [.reg 1 [(1, [.call [] [] (I 3600) []], none)], .reg 2 [(6, [], some false), (9, [], some true)]] [] [
      Contract Try.prog (50 : Nat) [I v] [] (I (3600 : Int)) [],
      decide (sec < (0 : Int)) = false,
      decide (sec > (1099511627776 : Int)) = true] (by kernel_rfl)
    (by
      have d0 := tq0
      have d1 := tq1
      try simp only [Int.ofNat_eq_natCast, List.length_map, Bool.not_eq_true', Bool.not_eq_false', decide_eq_true_eq, decide_eq_false_iff_not] at d0 d1
      simp only [allP]
      and_intros <;> first
        | omega
        | exact hv ▸ cLen v)

theorem cWin3600_2 (v sec : Int) (hv : lenW v = 3600) (tq0 : (decide (sec < (0 : Int))) = false) (tq1 : (decide (sec > (1099511627776 : Int))) = false) : Contract Try.prog 33 [I v, I sec] [] (I (sec / (3600 : Int))) ([]) :=
  vcP hmix [.reg 1 [(1, [.call [] [] (I 3600) []], none)], .reg 2 [(6, [], some false), (9, [], some false)], .reg 4 [(2, [.be (I (sec / 3600))], none)]] [] [
      Contract Try.prog (50 : Nat) [I v] [] (I (3600 : Int)) [],
      decide (sec < (0 : Int)) = false,
      decide (sec > (1099511627776 : Int)) = false,
      IntKind.wrap IntKind.i64 (Int.tdiv sec (3600 : Int)) = sec / (3600 : Int)] (by kernel_rfl)
    (by
      have d0 := tq0
      have d1 := tq1
      try simp only [Int.ofNat_eq_natCast, List.length_map, Bool.not_eq_true', Bool.not_eq_false', decide_eq_true_eq, decide_eq_false_iff_not] at d0 d1
      simp only [allP]
      and_intros <;> first
        | omega
        | exact hv ▸ cLen v
        | (rw [Int.tdiv_eq_ediv_of_nonneg (by omega)]; exact i64_small (by omega)))

theorem cWin3600 (v sec : Int) (hv : lenW v = 3600) : Contract Try.prog 33 [I v, I sec] [] (I (winW v sec)) [] := by
  rcases tf (decide (sec < (0 : Int))) with tq0 | tq0
  · exact Contract.cast (by
      first
        | ((try simp only [Int.ofNat_eq_natCast, List.length_map, Bool.not_eq_true', Bool.not_eq_false', decide_eq_true_eq, decide_eq_false_iff_not] at tq0); simp only [winW, hv, withinB, Bool.cond_eq_ite, Bool.and_eq_true, Bool.or_eq_true, Bool.not_eq_true', decide_eq_true_eq, beq_iff_eq, beq_eq_false_iff_ne, ne_eq]; (repeat' split) <;> first | rfl | (exfalso; omega) | omega | (simp_all; done) | (exfalso; simp_all; omega))) (by
      first
        | rfl) (cWin3600_0 v sec hv tq0)
  · rcases tf (decide (sec > (1099511627776 : Int))) with tq1 | tq1
    · exact Contract.cast (by
        first
          | ((try simp only [Int.ofNat_eq_natCast, List.length_map, Bool.not_eq_true', Bool.not_eq_false', decide_eq_true_eq, decide_eq_false_iff_not] at tq0 tq1); simp only [winW, hv, withinB, Bool.cond_eq_ite, Bool.and_eq_true, Bool.or_eq_true, Bool.not_eq_true', decide_eq_true_eq, beq_iff_eq, beq_eq_false_iff_ne, ne_eq]; (repeat' split) <;> first | rfl | (exfalso; omega) | omega | (simp_all; done) | (exfalso; simp_all; omega))) (by
        first
          | rfl) (cWin3600_1 v sec hv tq0 tq1)
    · exact Contract.cast (by
        first
          | ((try simp only [Int.ofNat_eq_natCast, List.length_map, Bool.not_eq_true', Bool.not_eq_false', decide_eq_true_eq, decide_eq_false_iff_not] at tq0 tq1); simp only [winW, hv, withinB, Bool.cond_eq_ite, Bool.and_eq_true, Bool.or_eq_true, Bool.not_eq_true', decide_eq_true_eq, beq_iff_eq, beq_eq_false_iff_ne, ne_eq]; (repeat' split) <;> first | rfl | (exfalso; omega) | omega | (simp_all; done) | (exfalso; simp_all; omega))) (by
        first
          | rfl) (cWin3600_2 v sec hv tq0 tq1)

theorem cSpan3600_0 (v n : Int) (hv : lenW v = 3600) (tq0 : (decide (n < (0 : Int))) = true) : Contract Try.prog 37 [I v, I n] [] (V.tup [I (0 : Int), I (0 : Int), Bo false]) ([]) :=
  vcP hmix [.reg 1 [(1, [.call [] [] (I 3600) []], none)], .reg 2 [(6, [], some true)]] [] [
      Contract Try.prog (50 : Nat) [I v] [] (I (3600 : Int)) [],
      decide (n < (0 : Int)) = true] (by kernel_rfl)
    (by
      have d0 := tq0
      try simp only [Int.ofNat_eq_natCast, List.length_map, Bool.not_eq_true', Bool.not_eq_false', decide_eq_true_eq, decide_eq_false_iff_not] at d0
      simp only [allP]
      and_intros <;> first
        | omega
        | exact hv ▸ cLen v)

theorem cSpan3600_1 (v n : Int) (hv : lenW v = 3600) (tq0 : (decide (n < (0 : Int))) = false) (tq1 : (decide (n > (305419896 : Int))) = true) : Contract Try.prog 37 [I v, I n] [] (V.tup [I (0 : Int), I (0 : Int), Bo false]) ([]) :=
  vcP hmix [.reg 1 [(1, [.call [] [] (I 3600) []], none)], .reg 2 [(6, [], some false), (11, [], some true)]] [] [
      Contract Try.prog (50 : Nat) [I v] [] (I (3600 : Int)) [],
      decide (n < (0 : Int)) = false,
      decide (n > (305419896 : Int)) = true] (by kernel_rfl)
    (by
      have d0 := tq0
      have d1 := tq1
      try simp only [Int.ofNat_eq_natCast, List.length_map, Bool.not_eq_true', Bool.not_eq_false', decide_eq_true_eq, decide_eq_false_iff_not] at d0 d1
      simp only [allP]
      and_intros <;> first
        | omega
        | exact hv ▸ cLen v)

theorem cSpan3600_2 (v n : Int) (hv : lenW v = 3600) (tq0 : (decide (n < (0 : Int))) = false) (tq1 : (decide (n > (305419896 : Int))) = false) : Contract Try.prog 37 [I v, I n] [] (V.tup [I (n * (3600 : Int)), I ((n + (1 : Int)) * (3600 : Int)), Bo true]) ([]) :=
  vcP hmix [.reg 1 [(1, [.call [] [] (I 3600) []], none)], .reg 2 [(6, [], some false), (11, [], some false)], .reg 4 [(2, [.be (I (n * 3600))], none), (6, [.be (I ((n + 1) * 3600))], none)]] [] [
      Contract Try.prog (50 : Nat) [I v] [] (I (3600 : Int)) [],
      decide (n < (0 : Int)) = false,
      decide (n > (305419896 : Int)) = false,
      IntKind.wrap IntKind.i64 (n * (3600 : Int)) = n * (3600 : Int),
      IntKind.wrap IntKind.i64 (IntKind.wrap IntKind.i64 (n + (1 : Int)) * (3600 : Int)) = (n + (1 : Int)) * (3600 : Int)] (by kernel_rfl)
    (by
      have d0 := tq0
      have d1 := tq1
      try simp only [Int.ofNat_eq_natCast, List.length_map, Bool.not_eq_true', Bool.not_eq_false', decide_eq_true_eq, decide_eq_false_iff_not] at d0 d1
      simp only [allP]
      and_intros <;> first
        | omega
        | exact hv ▸ cLen v
        | exact i64_small (by omega)
        | (rw [i64_small (n := n + 1) (by omega), i64_small (by omega)]; done))

theorem cSpan3600 (v n : Int) (hv : lenW v = 3600) : Contract Try.prog 37 [I v, I n] [] (spanV v n) [] := by
  rcases tf (decide (n < (0 : Int))) with tq0 | tq0
  · exact Contract.cast (by
      first
        | ((try simp only [Int.ofNat_eq_natCast, List.length_map, Bool.not_eq_true', Bool.not_eq_false', decide_eq_true_eq, decide_eq_false_iff_not] at tq0); simp only [spanV, goodW, hv, withinB, Bool.cond_eq_ite, Bool.and_eq_true, Bool.or_eq_true, Bool.not_eq_true', decide_eq_true_eq, beq_iff_eq, beq_eq_false_iff_ne, ne_eq]; (repeat' split) <;> first | rfl | (exfalso; omega) | omega | (simp_all; done) | (exfalso; simp_all; omega))) (by
      first
        | rfl) (cSpan3600_0 v n hv tq0)
  · rcases tf (decide (n > (305419896 : Int))) with tq1 | tq1
    · exact Contract.cast (by
        first
          | ((try simp only [Int.ofNat_eq_natCast, List.length_map, Bool.not_eq_true', Bool.not_eq_false', decide_eq_true_eq, decide_eq_false_iff_not] at tq0 tq1); simp only [spanV, goodW, hv, withinB, Bool.cond_eq_ite, Bool.and_eq_true, Bool.or_eq_true, Bool.not_eq_true', decide_eq_true_eq, beq_iff_eq, beq_eq_false_iff_ne, ne_eq]; (repeat' split) <;> first | rfl | (exfalso; omega) | omega | (simp_all; done) | (exfalso; simp_all; omega))) (by
        first
          | rfl) (cSpan3600_1 v n hv tq0 tq1)
    · exact Contract.cast (by
        first
          | ((try simp only [Int.ofNat_eq_natCast, List.length_map, Bool.not_eq_true', Bool.not_eq_false', decide_eq_true_eq, decide_eq_false_iff_not] at tq0 tq1); simp only [spanV, goodW, hv, withinB, Bool.cond_eq_ite, Bool.and_eq_true, Bool.or_eq_true, Bool.not_eq_true', decide_eq_true_eq, beq_iff_eq, beq_eq_false_iff_ne, ne_eq]; (repeat' split) <;> first | rfl | (exfalso; omega) | omega | (simp_all; done) | (exfalso; simp_all; omega))) (by
        first
          | rfl) (cSpan3600_2 v n hv tq0 tq1)

theorem cWin86400_0 (v sec : Int) (hv : lenW v = 86400) (tq0 : (decide (sec < (0 : Int))) = true) : Contract Try.prog 33 [I v, I sec] [] (I (-1 : Int)) ([]) :=
  vcP hmix [.reg 1 [(1, [.call [] [] (I 86400) []], none)], .reg 2 [(6, [], some true)]] [] [
      Contract Try.prog (50 : Nat) [I v] [] (I (86400 : Int)) [],
      decide (sec < (0 : Int)) = true] (by kernel_rfl)
    (by
      have d0 := tq0
      try simp only [Int.ofNat_eq_natCast, List.length_map, Bool.not_eq_true', Bool.not_eq_false', decide_eq_true_eq, decide_eq_false_iff_not] at d0
      simp only [allP]
      and_intros <;> first
        | omega
        | exact hv ▸ cLen v)

theorem cWin86400_1 (v sec : Int) (hv : lenW v = 86400) (tq0 : (decide (sec < (0 : Int))) = false) (tq1 : (decide (sec > (1099511627776 : Int))) = true) : Contract Try.prog 33 [I v, I sec] [] (I (-1 : Int)) ([]) :=
  vcP hmix [.reg 1 [(1, [.call [] [] (I 86400) []], none)], .reg 2 [(6, [], some false), (9, [], some true)]] [] [
      Contract Try.prog (50 : Nat) [I v] [] (I (86400 : Int)) [],
      decide (sec < (0 : Int)) = false,
      decide (sec > (1099511627776 : Int)) = true] (by kernel_rfl)
    (by
      have d0 := tq0
      have d1 := tq1
      try simp only [Int.ofNat_eq_natCast, List.length_map, Bool.not_eq_true', Bool.not_eq_false', decide_eq_true_eq, decide_eq_false_iff_not] at d0 d1
      simp only [allP]
      and_intros <;> first
        | omega
        | exact hv ▸ cLen v)

theorem cWin86400_2 (v sec : Int) (hv : lenW v = 86400) (tq0 : (decide (sec < (0 : Int))) = false) (tq1 : (decide (sec > (1099511627776 : Int))) = false) : Contract Try.prog 33 [I v, I sec] [] (I (sec / (86400 : Int))) ([]) :=
  vcP hmix [.reg 1 [(1, [.call [] [] (I 86400) []], none)], .reg 2 [(6, [], some false), (9, [], some false)], .reg 4 [(2, [.be (I (sec / 86400))], none)]] [] [
      Contract Try.prog (50 : Nat) [I v] [] (I (86400 : Int)) [],
      decide (sec < (0 : Int)) = false,
      decide (sec > (1099511627776 : Int)) = false,
      IntKind.wrap IntKind.i64 (Int.tdiv sec (86400 : Int)) = sec / (86400 : Int)] (by kernel_rfl)
    (by
      have d0 := tq0
      have d1 := tq1
      try simp only [Int.ofNat_eq_natCast, List.length_map, Bool.not_eq_true', Bool.not_eq_false', decide_eq_true_eq, decide_eq_false_iff_not] at d0 d1
      simp only [allP]
      and_intros <;> first
        | omega
        | exact hv ▸ cLen v
        | (rw [Int.tdiv_eq_ediv_of_nonneg (by omega)]; exact i64_small (by omega)))

theorem cWin86400 (v sec : Int) (hv : lenW v = 86400) : Contract Try.prog 33 [I v, I sec] [] (I (winW v sec)) [] := by
  rcases tf (decide (sec < (0 : Int))) with tq0 | tq0
  · exact Contract.cast (by
      first
        | ((try simp only [Int.ofNat_eq_natCast, List.length_map, Bool.not_eq_true', Bool.not_eq_false', decide_eq_true_eq, decide_eq_false_iff_not] at tq0); simp only [winW, hv, withinB, Bool.cond_eq_ite, Bool.and_eq_true, Bool.or_eq_true, Bool.not_eq_true', decide_eq_true_eq, beq_iff_eq, beq_eq_false_iff_ne, ne_eq]; (repeat' split) <;> first | rfl | (exfalso; omega) | omega | (simp_all; done) | (exfalso; simp_all; omega))) (by
      first
        | rfl) (cWin86400_0 v sec hv tq0)
  · rcases tf (decide (sec > (1099511627776 : Int))) with tq1 | tq1
    · exact Contract.cast (by
        first
          | ((try simp only [Int.ofNat_eq_natCast, List.length_map, Bool.not_eq_true', Bool.not_eq_false', decide_eq_true_eq, decide_eq_false_iff_not] at tq0 tq1); simp only [winW, hv, withinB, Bool.cond_eq_ite, Bool.and_eq_true, Bool.or_eq_true, Bool.not_eq_true', decide_eq_true_eq, beq_iff_eq, beq_eq_false_iff_ne, ne_eq]; (repeat' split) <;> first | rfl | (exfalso; omega) | omega | (simp_all; done) | (exfalso; simp_all; omega))) (by
        first
          | rfl) (cWin86400_1 v sec hv tq0 tq1)
    · exact Contract.cast (by
        first
          | ((try simp only [Int.ofNat_eq_natCast, List.length_map, Bool.not_eq_true', Bool.not_eq_false', decide_eq_true_eq, decide_eq_false_iff_not] at tq0 tq1); simp only [winW, hv, withinB, Bool.cond_eq_ite, Bool.and_eq_true, Bool.or_eq_true, Bool.not_eq_true', decide_eq_true_eq, beq_iff_eq, beq_eq_false_iff_ne, ne_eq]; (repeat' split) <;> first | rfl | (exfalso; omega) | omega | (simp_all; done) | (exfalso; simp_all; omega))) (by
        first
          | rfl) (cWin86400_2 v sec hv tq0 tq1)

theorem cSpan86400_0 (v n : Int) (hv : lenW v = 86400) (tq0 : (decide (n < (0 : Int))) = true) : Contract Try.prog 37 [I v, I n] [] (V.tup [I (0 : Int), I (0 : Int), Bo false]) ([]) :=
  vcP hmix [.reg 1 [(1, [.call [] [] (I 86400) []], none)], .reg 2 [(6, [], some true)]] [] [
      Contract Try.prog (50 : Nat) [I v] [] (I (86400 : Int)) [],
      decide (n < (0 : Int)) = true] (by kernel_rfl)
    (by
      have d0 := tq0
      try simp only [Int.ofNat_eq_natCast, List.length_map, Bool.not_eq_true', Bool.not_eq_false', decide_eq_true_eq, decide_eq_false_iff_not] at d0
      simp only [allP]
      and_intros <;> first
        | omega
        | exact hv ▸ cLen v)

theorem cSpan86400_1 (v n : Int) (hv : lenW v = 86400) (tq0 : (decide (n < (0 : Int))) = false) (tq1 : (decide (n > (12725829 : Int))) = true) : Contract Try.prog 37 [I v, I n] [] (V.tup [I (0 : Int), I (0 : Int), Bo false]) ([]) :=
  vcP hmix [.reg 1 [(1, [.call [] [] (I 86400) []], none)], .reg 2 [(6, [], some false), (11, [], some true)]] [] [
      Contract Try.prog (50 : Nat) [I v] [] (I (86400 : Int)) [],
      decide (n < (0 : Int)) = false,
      decide (n > (12725829 : Int)) = true] (by kernel_rfl)
    (by
      have d0 := tq0
      have d1 := tq1
      try simp only [Int.ofNat_eq_natCast, List.length_map, Bool.not_eq_true', Bool.not_eq_false', decide_eq_true_eq, decide_eq_false_iff_not] at d0 d1
      simp only [allP]
      and_intros <;> first
        | omega
        | exact hv ▸ cLen v)

theorem cSpan86400_2 (v n : Int) (hv : lenW v = 86400) (tq0 : (decide (n < (0 : Int))) = false) (tq1 : (decide (n > (12725829 : Int))) = false) : Contract Try.prog 37 [I v, I n] [] (V.tup [I (n * (86400 : Int)), I ((n + (1 : Int)) * (86400 : Int)), Bo true]) ([]) :=
  vcP hmix [.reg 1 [(1, [.call [] [] (I 86400) []], none)], .reg 2 [(6, [], some false), (11, [], some false)], .reg 4 [(2, [.be (I (n * 86400))], none), (6, [.be (I ((n + 1) * 86400))], none)]] [] [
      Contract Try.prog (50 : Nat) [I v] [] (I (86400 : Int)) [],
      decide (n < (0 : Int)) = false,
      decide (n > (12725829 : Int)) = false,
      IntKind.wrap IntKind.i64 (n * (86400 : Int)) = n * (86400 : Int),
      IntKind.wrap IntKind.i64 (IntKind.wrap IntKind.i64 (n + (1 : Int)) * (86400 : Int)) = (n + (1 : Int)) * (86400 : Int)] (by kernel_rfl)
    (by
      have d0 := tq0
      have d1 := tq1
      try simp only [Int.ofNat_eq_natCast, List.length_map, Bool.not_eq_true', Bool.not_eq_false', decide_eq_true_eq, decide_eq_false_iff_not] at d0 d1
      simp only [allP]
      and_intros <;> first
        | omega
        | exact hv ▸ cLen v
        | exact i64_small (by omega)
        | (rw [i64_small (n := n + 1) (by omega), i64_small (by omega)]; done))

theorem cSpan86400 (v n : Int) (hv : lenW v = 86400) : Contract Try.prog 37 [I v, I n] [] (spanV v n) [] := by
  rcases tf (decide (n < (0 : Int))) with tq0 | tq0
  · exact Contract.cast (by
      first
        | ((try simp only [Int.ofNat_eq_natCast, List.length_map, Bool.not_eq_true', Bool.not_eq_false', decide_eq_true_eq, decide_eq_false_iff_not] at tq0); simp only [spanV, goodW, hv, withinB, Bool.cond_eq_ite, Bool.and_eq_true, Bool.or_eq_true, Bool.not_eq_true', decide_eq_true_eq, beq_iff_eq, beq_eq_false_iff_ne, ne_eq]; (repeat' split) <;> first | rfl | (exfalso; omega) | omega | (simp_all; done) | (exfalso; simp_all; omega))) (by
      first
        | rfl) (cSpan86400_0 v n hv tq0)
  · rcases tf (decide (n > (12725829 : Int))) with tq1 | tq1
    · exact Contract.cast (by
        first
          | ((try simp only [Int.ofNat_eq_natCast, List.length_map, Bool.not_eq_true', Bool.not_eq_false', decide_eq_true_eq, decide_eq_false_iff_not] at tq0 tq1); simp only [spanV, goodW, hv, withinB, Bool.cond_eq_ite, Bool.and_eq_true, Bool.or_eq_true, Bool.not_eq_true', decide_eq_true_eq, beq_iff_eq, beq_eq_false_iff_ne, ne_eq]; (repeat' split) <;> first | rfl | (exfalso; omega) | omega | (simp_all; done) | (exfalso; simp_all; omega))) (by
        first
          | rfl) (cSpan86400_1 v n hv tq0 tq1)
    · exact Contract.cast (by
        first
          | ((try simp only [Int.ofNat_eq_natCast, List.length_map, Bool.not_eq_true', Bool.not_eq_false', decide_eq_true_eq, decide_eq_false_iff_not] at tq0 tq1); simp only [spanV, goodW, hv, withinB, Bool.cond_eq_ite, Bool.and_eq_true, Bool.or_eq_true, Bool.not_eq_true', decide_eq_true_eq, beq_iff_eq, beq_eq_false_iff_ne, ne_eq]; (repeat' split) <;> first | rfl | (exfalso; omega) | omega | (simp_all; done) | (exfalso; simp_all; omega))) (by
        first
          | rfl) (cSpan86400_2 v n hv tq0 tq1)

theorem cWin0_0 (v sec : Int) (hv : lenW v = 0) : Contract Try.prog 33 [I v, I sec] [] (I (-1 : Int)) ([]) :=
  vcP hmix [.reg 1 [(1, [.call [] [] (I 0) []], none)]] [] [
      Contract Try.prog (50 : Nat) [I v] [] (I (0 : Int)) []] (by kernel_rfl)
    (by
      simp only [allP]
      and_intros <;> first
        | exact hv ▸ cLen v)

theorem cWin0 (v sec : Int) (hv : lenW v = 0) : Contract Try.prog 33 [I v, I sec] [] (I (winW v sec)) [] := by
  exact Contract.cast (by
    first
      | (simp only [winW, hv, withinB, cond_true, cond_false]; rfl)) (by
    first
      | rfl) (cWin0_0 v sec hv )

theorem cSpan0_0 (v n : Int) (hv : lenW v = 0) : Contract Try.prog 37 [I v, I n] [] (V.tup [I (0 : Int), I (0 : Int), Bo false]) ([]) :=
  vcP hmix [.reg 1 [(1, [.call [] [] (I 0) []], none)]] [] [
      Contract Try.prog (50 : Nat) [I v] [] (I (0 : Int)) []] (by kernel_rfl)
    (by
      simp only [allP]
      and_intros <;> first
        | exact hv ▸ cLen v)

theorem cSpan0 (v n : Int) (hv : lenW v = 0) : Contract Try.prog 37 [I v, I n] [] (spanV v n) [] := by
  exact Contract.cast (by
    first
      | (simp only [spanV, goodW, hv, withinB, cond_true, cond_false]; rfl)) (by
    first
      | rfl) (cSpan0_0 v n hv )

theorem cWin (v sec : Int) : Contract Try.prog 33 [I v, I sec] [] (I (winW v sec)) [] := by
  rcases lenW_cases v with ⟨_, h⟩ | ⟨_, h⟩ | ⟨_, h⟩ | ⟨_, h⟩
  · exact cWin60 v sec h
  · exact cWin3600 v sec h
  · exact cWin86400 v sec h
  · exact cWin0 v sec h
theorem cSpan (v n : Int) : Contract Try.prog 37 [I v, I n] [] (spanV v n) [] := by
  rcases lenW_cases v with ⟨_, h⟩ | ⟨_, h⟩ | ⟨_, h⟩ | ⟨_, h⟩
  · exact cSpan60 v n h
  · exact cSpan3600 v n h
  · exact cSpan86400 v n h
  · exact cSpan0 v n h
theorem cWinR60_0 (v sec : Int) (hv : lenW v = 60) (tq0 : (!withinB sec (0 : Int) (1099511627776 : Int)) = true) : Contract Try.prog 16 [I v, I sec] [] (I (-1 : Int)) ([]) :=
  vcP hmix [.reg 1 [(1, [.call [] [] (I 60) []], none)], .reg 2 [(6, [], some true)], .tab [(29, FWithin)]] [] [
      Contract Try.prog (27 : Nat) [I v] [] (I (60 : Int)) [],
      Contract Try.prog (29 : Nat) [I sec, I (0 : Int), I (1099511627776 : Int)] [] (Bo (withinB sec (0 : Int) (1099511627776 : Int))) [],
      (!withinB sec (0 : Int) (1099511627776 : Int)) = true] (by kernel_rfl)
    (by
      have d0 := tq0
      try simp only [Int.ofNat_eq_natCast, List.length_map, Bool.not_eq_true', Bool.not_eq_false', decide_eq_true_eq, decide_eq_false_iff_not] at d0
      simp only [allP]
      and_intros <;> first
        | omega
        | exact hv ▸ cLong v
        | exact cWithin _ _ _)

theorem cWinR60_1 (v sec : Int) (hv : lenW v = 60) (tq0 : (!withinB sec (0 : Int) (1099511627776 : Int)) = false) : Contract Try.prog 16 [I v, I sec] [] (I (sec / (60 : Int))) ([]) :=
  vcP hmix [.reg 1 [(1, [.call [] [] (I 60) []], none)], .reg 2 [(6, [], some false)], .reg 4 [(2, [.be (I (sec / 60))], none)], .tab [(29, FWithin)]] [] [
      Contract Try.prog (27 : Nat) [I v] [] (I (60 : Int)) [],
      Contract Try.prog (29 : Nat) [I sec, I (0 : Int), I (1099511627776 : Int)] [] (Bo (withinB sec (0 : Int) (1099511627776 : Int))) [],
      (!withinB sec (0 : Int) (1099511627776 : Int)) = false,
      IntKind.wrap IntKind.i64 (Int.tdiv sec (60 : Int)) = sec / (60 : Int)] (by kernel_rfl)
    (by
      have d0 := tq0
      try simp only [Int.ofNat_eq_natCast, List.length_map, Bool.not_eq_true', Bool.not_eq_false', decide_eq_true_eq, decide_eq_false_iff_not] at d0
      simp only [allP]
      and_intros <;> first
        | omega
        | exact hv ▸ cLong v
        | exact cWithin _ _ _
        | (simp only [withinB, Bool.and_eq_true, decide_eq_true_eq] at d0; rw [Int.tdiv_eq_ediv_of_nonneg (by omega)]; exact i64_small (by omega)))

theorem cWinR60 (v sec : Int) (hv : lenW v = 60) : Contract Try.prog 16 [I v, I sec] [] (I (winW v sec)) [] := by
  rcases tf (!withinB sec (0 : Int) (1099511627776 : Int)) with tq0 | tq0
  · exact Contract.cast (by
      first
        | ((try simp only [Int.ofNat_eq_natCast, List.length_map, Bool.not_eq_true', Bool.not_eq_false', decide_eq_true_eq, decide_eq_false_iff_not] at tq0); simp [winW, hv, tq0]; done)) (by
      first
        | rfl) (cWinR60_0 v sec hv tq0)
  · exact Contract.cast (by
      first
        | ((try simp only [Int.ofNat_eq_natCast, List.length_map, Bool.not_eq_true', Bool.not_eq_false', decide_eq_true_eq, decide_eq_false_iff_not] at tq0); simp [winW, hv, tq0]; done)) (by
      first
        | rfl) (cWinR60_1 v sec hv tq0)

theorem cSpanR60_0 (v n : Int) (hv : lenW v = 60) (tq0 : (!withinB n (0 : Int) (18325193796 : Int)) = true) : Contract Try.prog 25 [I v, I n] [] (V.tup [I (0 : Int), I (0 : Int), Bo false]) ([]) :=
  vcP hmix [.reg 1 [(1, [.call [] [] (I 60) []], none)], .reg 2 [(8, [], some true)], .tab [(29, FWithin)]] [] [
      Contract Try.prog (27 : Nat) [I v] [] (I (60 : Int)) [],
      Contract Try.prog (29 : Nat) [I n, I (0 : Int), I (18325193796 : Int)] [] (Bo (withinB n (0 : Int) (18325193796 : Int))) [],
      (!withinB n (0 : Int) (18325193796 : Int)) = true] (by kernel_rfl)
    (by
      have d0 := tq0
      try simp only [Int.ofNat_eq_natCast, List.length_map, Bool.not_eq_true', Bool.not_eq_false', decide_eq_true_eq, decide_eq_false_iff_not] at d0
      simp only [allP]
      and_intros <;> first
        | omega
        | exact hv ▸ cLong v
        | exact cWithin _ _ _)

theorem cSpanR60_1 (v n : Int) (hv : lenW v = 60) (tq0 : (!withinB n (0 : Int) (18325193796 : Int)) = false) : Contract Try.prog 25 [I v, I n] [] (V.tup [I (n * (60 : Int)), I ((n + (1 : Int)) * (60 : Int)), Bo true]) ([]) :=
  vcP hmix [.reg 1 [(1, [.call [] [] (I 60) []], none)], .reg 2 [(8, [], some false)], .reg 4 [(2, [.be (I (n * 60))], none), (7, [.be (I ((n + 1) * 60))], none)], .tab [(29, FWithin)]] [] [
      Contract Try.prog (27 : Nat) [I v] [] (I (60 : Int)) [],
      Contract Try.prog (29 : Nat) [I n, I (0 : Int), I (18325193796 : Int)] [] (Bo (withinB n (0 : Int) (18325193796 : Int))) [],
      (!withinB n (0 : Int) (18325193796 : Int)) = false,
      IntKind.wrap IntKind.i64 (n * (60 : Int)) = n * (60 : Int),
      IntKind.wrap IntKind.i64 (IntKind.wrap IntKind.i64 (n * (60 : Int)) + (60 : Int)) = (n + (1 : Int)) * (60 : Int)] (by kernel_rfl)
    (by
      have d0 := tq0
      try simp only [Int.ofNat_eq_natCast, List.length_map, Bool.not_eq_true', Bool.not_eq_false', decide_eq_true_eq, decide_eq_false_iff_not] at d0
      simp only [allP]
      and_intros <;> first
        | omega
        | exact hv ▸ cLong v
        | exact cWithin _ _ _
        | (simp only [withinB, Bool.and_eq_true, decide_eq_true_eq] at d0; exact i64_small (by omega))
        | (simp only [withinB, Bool.and_eq_true, decide_eq_true_eq] at d0; rw [i64_small (n := n * 60) (by simp at d0; omega), i64_small (by simp at d0; omega)]; omega))

theorem cSpanR60 (v n : Int) (hv : lenW v = 60) : Contract Try.prog 25 [I v, I n] [] (spanV v n) [] := by
  rcases tf (!withinB n (0 : Int) (18325193796 : Int)) with tq0 | tq0
  · exact Contract.cast (by
      first
        | ((try simp only [Int.ofNat_eq_natCast, List.length_map, Bool.not_eq_true', Bool.not_eq_false', decide_eq_true_eq, decide_eq_false_iff_not] at tq0); simp [spanV, goodW, hv, tq0]; done)) (by
      first
        | rfl) (cSpanR60_0 v n hv tq0)
  · exact Contract.cast (by
      first
        | ((try simp only [Int.ofNat_eq_natCast, List.length_map, Bool.not_eq_true', Bool.not_eq_false', decide_eq_true_eq, decide_eq_false_iff_not] at tq0); simp [spanV, goodW, hv, tq0]; done)) (by
      first
        | rfl) (cSpanR60_1 v n hv tq0)

theorem cWinR3600_0 (v sec : Int) (hv : lenW v = 3600) (tq0 : (!withinB sec (0 : Int) (1099511627776 : Int)) = true) : Contract Try.prog 16 [I v, I sec] [] (I (-1 : Int)) ([]) :=
  vcP hmix [.reg 1 [(1, [.call [] [] (I 3600) []], none)], .reg 2 [(6, [], some true)], .tab [(29, FWithin)]] [] [
      Contract Try.prog (27 : Nat) [I v] [] (I (3600 : Int)) [],
      Contract Try.prog (29 : Nat) [I sec, I (0 : Int), I (1099511627776 : Int)] [] (Bo (withinB sec (0 : Int) (1099511627776 : Int))) [],
      (!withinB sec (0 : Int) (1099511627776 : Int)) = true] (by kernel_rfl)
    (by
      have d0 := tq0
      try simp only [Int.ofNat_eq_natCast, List.length_map, Bool.not_eq_true', Bool.not_eq_false', decide_eq_true_eq, decide_eq_false_iff_not] at d0
      simp only [allP]
      and_intros <;> first
        | omega
        | exact hv ▸ cLong v
        | exact cWithin _ _ _)

theorem cWinR3600_1 (v sec : Int) (hv : lenW v = 3600) (tq0 : (!withinB sec (0 : Int) (1099511627776 : Int)) = false) : Contract Try.prog 16 [I v, I sec] [] (I (sec / (3600 : Int))) ([]) :=
  vcP hmix [.reg 1 [(1, [.call [] [] (I 3600) []], none)], .reg 2 [(6, [], some false)], .reg 4 [(2, [.be (I (sec / 3600))], none)], .tab [(29, FWithin)]] [] [
      Contract Try.prog (27 : Nat) [I v] [] (I (3600 : Int)) [],
      Contract Try.prog (29 : Nat) [I sec, I (0 : Int), I (1099511627776 : Int)] [] (Bo (withinB sec (0 : Int) (1099511627776 : Int))) [],
      (!withinB sec (0 : Int) (1099511627776 : Int)) = false,
      IntKind.wrap IntKind.i64 (Int.tdiv sec (3600 : Int)) = sec / (3600 : Int)] (by kernel_rfl)
    (by
      have d0 := tq0
      try simp only [Int.ofNat_eq_natCast, List.length_map, Bool.not_eq_true', Bool.not_eq_false', decide_eq_true_eq, decide_eq_false_iff_not] at d0
      simp only [allP]
      and_intros <;> first
        | omega
        | exact hv ▸ cLong v
        | exact cWithin _ _ _
        | (simp only [withinB, Bool.and_eq_true, decide_eq_true_eq] at d0; rw [Int.tdiv_eq_ediv_of_nonneg (by omega)]; exact i64_small (by omega)))

theorem cWinR3600 (v sec : Int) (hv : lenW v = 3600) : Contract Try.prog 16 [I v, I sec] [] (I (winW v sec)) [] := by
  rcases tf (!withinB sec (0 : Int) (1099511627776 : Int)) with tq0 | tq0
  · exact Contract.cast (by
      first
        | ((try simp only [Int.ofNat_eq_natCast, List.length_map, Bool.not_eq_true', Bool.not_eq_false', decide_eq_true_eq, decide_eq_false_iff_not] at tq0); simp [winW, hv, tq0]; done)) (by
      first
        | rfl) (cWinR3600_0 v sec hv tq0)
  · exact Contract.cast (by
      first
        | ((try simp only [Int.ofNat_eq_natCast, List.length_map, Bool.not_eq_true', Bool.not_eq_false', decide_eq_true_eq, decide_eq_false_iff_not] at tq0); simp [winW, hv, tq0]; done)) (by
      first
        | rfl) (cWinR3600_1 v sec hv tq0)

theorem cSpanR3600_0 (v n : Int) (hv : lenW v = 3600) (tq0 : (!withinB n (0 : Int) (305419896 : Int)) = true) : Contract Try.prog 25 [I v, I n] [] (V.tup [I (0 : Int), I (0 : Int), Bo false]) ([]) :=
  vcP hmix [.reg 1 [(1, [.call [] [] (I 3600) []], none)], .reg 2 [(8, [], some true)], .tab [(29, FWithin)]] [] [
      Contract Try.prog (27 : Nat) [I v] [] (I (3600 : Int)) [],
      Contract Try.prog (29 : Nat) [I n, I (0 : Int), I (305419896 : Int)] [] (Bo (withinB n (0 : Int) (305419896 : Int))) [],
      (!withinB n (0 : Int) (305419896 : Int)) = true] (by kernel_rfl)
    (by
      have d0 := tq0
      try simp only [Int.ofNat_eq_natCast, List.length_map, Bool.not_eq_true', Bool.not_eq_false', decide_eq_true_eq, decide_eq_false_iff_not] at d0
      simp only [allP]
      and_intros <;> first
        | omega
        | exact hv ▸ cLong v
        | exact cWithin _ _ _)

theorem cSpanR3600_1 (v n : Int) (hv : lenW v = 3600) (tq0 : (!withinB n (0 : Int) (305419896 : Int)) = false) : Contract Try.prog 25 [I v, I n] [] (V.tup [I (n * (3600 : Int)), I ((n + (1 : Int)) * (3600 : Int)), Bo true]) ([]) :=
  vcP hmix [.reg 1 [(1, [.call [] [] (I 3600) []], none)], .reg 2 [(8, [], some false)], .reg 4 [(2, [.be (I (n * 3600))], none), (7, [.be (I ((n + 1) * 3600))], none)], .tab [(29, FWithin)]] [] [
      Contract Try.prog (27 : Nat) [I v] [] (I (3600 : Int)) [],
      Contract Try.prog (29 : Nat) [I n, I (0 : Int), I (305419896 : Int)] [] (Bo (withinB n (0 : Int) (305419896 : Int))) [],
      (!withinB n (0 : Int) (305419896 : Int)) = false,
      IntKind.wrap IntKind.i64 (n * (3600 : Int)) = n * (3600 : Int),
      IntKind.wrap IntKind.i64 (IntKind.wrap IntKind.i64 (n * (3600 : Int)) + (3600 : Int)) = (n + (1 : Int)) * (3600 : Int)] (by kernel_rfl)
    (by
      have d0 := tq0
      try simp only [Int.ofNat_eq_natCast, List.length_map, Bool.not_eq_true', Bool.not_eq_false', decide_eq_true_eq, decide_eq_false_iff_not] at d0
      simp only [allP]
      and_intros <;> first
        | omega
        | exact hv ▸ cLong v
        | exact cWithin _ _ _
        | (simp only [withinB, Bool.and_eq_true, decide_eq_true_eq] at d0; exact i64_small (by omega))
        | (simp only [withinB, Bool.and_eq_true, decide_eq_true_eq] at d0; rw [i64_small (n := n * 3600) (by simp at d0; omega), i64_small (by simp at d0; omega)]; omega))

theorem cSpanR3600 (v n : Int) (hv : lenW v = 3600) : Contract Try.prog 25 [I v, I n] [] (spanV v n) [] := by
  rcases tf (!withinB n (0 : Int) (305419896 : Int)) with tq0 | tq0
  · exact Contract.cast (by
      first
        | ((try simp only [Int.ofNat_eq_natCast, List.length_map, Bool.not_eq_true', Bool.not_eq_false', decide_eq_true_eq, decide_eq_false_iff_not] at tq0); simp [spanV, goodW, hv, tq0]; done)) (by
      first
        | rfl) (cSpanR3600_0 v n hv tq0)
  · exact Contract.cast (by
      first
        | ((try simp only [Int.ofNat_eq_natCast, List.length_map, Bool.not_eq_true', Bool.not_eq_false', decide_eq_true_eq, decide_eq_false_iff_not] at tq0); simp [spanV, goodW, hv, tq0]; done)) (by
      first
        | rfl) (cSpanR3600_1 v n hv tq0)

theorem cWinR86400_0 (v sec : Int) (hv : lenW v = 86400) (tq0 : (!withinB sec (0 : Int) (1099511627776 : Int)) = true) : Contract Try.prog 16 [I v, I sec] [] (I (-1 : Int)) ([]) :=
  vcP hmix [.reg 1 [(1, [.call [] [] (I 86400) []], none)], .reg 2 [(6, [], some true)], .tab [(29, FWithin)]] [] [
      Contract Try.prog (27 : Nat) [I v] [] (I (86400 : Int)) [],
      Contract Try.prog (29 : Nat) [I sec, I (0 : Int), I (1099511627776 : Int)] [] (Bo (withinB sec (0 : Int) (1099511627776 : Int))) [],
      (!withinB sec (0 : Int) (1099511627776 : Int)) = true] (by kernel_rfl)
    (by
      have d0 := tq0
      try simp only [Int.ofNat_eq_natCast, List.length_map, Bool.not_eq_true', Bool.not_eq_false', decide_eq_true_eq, decide_eq_false_iff_not] at d0
      simp only [allP]
      and_intros <;> first
        | omega
        | exact hv ▸ cLong v
        | exact cWithin _ _ _)

theorem cWinR86400_1 (v sec : Int) (hv : lenW v = 86400) (tq0 : (!withinB sec (0 : Int) (1099511627776 : Int)) = false) : Contract Try.prog 16 [I v, I sec] [] (I (sec / (86400 : Int))) ([]) :=
  vcP hmix [.reg 1 [(1, [.call [] [] (I 86400) []], none)], .reg 2 [(6, [], some false)], .reg 4 [(2, [.be (I (sec / 86400))], none)], .tab [(29, FWithin)]] [] [
      Contract Try.prog (27 : Nat) [I v] [] (I (86400 : Int)) [],
      Contract Try.prog (29 : Nat) [I sec, I (0 : Int), I (1099511627776 : Int)] [] (Bo (withinB sec (0 : Int) (1099511627776 : Int))) [],
      (!withinB sec (0 : Int) (1099511627776 : Int)) = false,
      IntKind.wrap IntKind.i64 (Int.tdiv sec (86400 : Int)) = sec / (86400 : Int)] (by kernel_rfl)
    (by
      have d0 := tq0
      try simp only [Int.ofNat_eq_natCast, List.length_map, Bool.not_eq_true', Bool.not_eq_false', decide_eq_true_eq, decide_eq_false_iff_not] at d0
      simp only [allP]
      and_intros <;> first
        | omega
        | exact hv ▸ cLong v
        | exact cWithin _ _ _
        | (simp only [withinB, Bool.and_eq_true, decide_eq_true_eq] at d0; rw [Int.tdiv_eq_ediv_of_nonneg (by omega)]; exact i64_small (by omega)))

theorem cWinR86400 (v sec : Int) (hv : lenW v = 86400) : Contract Try.prog 16 [I v, I sec] [] (I (winW v sec)) [] := by
  rcases tf (!withinB sec (0 : Int) (1099511627776 : Int)) with tq0 | tq0
  · exact Contract.cast (by
      first
        | ((try simp only [Int.ofNat_eq_natCast, List.length_map, Bool.not_eq_true', Bool.not_eq_false', decide_eq_true_eq, decide_eq_false_iff_not] at tq0); simp [winW, hv, tq0]; done)) (by
      first
        | rfl) (cWinR86400_0 v sec hv tq0)
  · exact Contract.cast (by
      first
        | ((try simp only [Int.ofNat_eq_natCast, List.length_map, Bool.not_eq_true', Bool.not_eq_false', decide_eq_true_eq, decide_eq_false_iff_not] at tq0); simp [winW, hv, tq0]; done)) (by
      first
        | rfl) (cWinR86400_1 v sec hv tq0)

theorem cSpanR86400_0 (v n : Int) (hv : lenW v = 86400) (tq0 : (!withinB n (0 : Int) (12725829 : Int)) = true) : Contract Try.prog 25 [I v, I n] [] (V.tup [I (0 : Int), I (0 : Int), Bo false]) ([]) :=
  vcP hmix [.reg 1 [(1, [.call [] [] (I 86400) []], none)], .reg 2 [(8, [], some true)], .tab [(29, FWithin)]] [] [
      Contract Try.prog (27 : Nat) [I v] [] (I (86400 : Int)) [],
      Contract Try.prog (29 : Nat) [I n, I (0 : Int), I (12725829 : Int)] [] (Bo (withinB n (0 : Int) (12725829 : Int))) [],
      (!withinB n (0 : Int) (12725829 : Int)) = true] (by kernel_rfl)
    (by
      have d0 := tq0
      try simp only [Int.ofNat_eq_natCast, List.length_map, Bool.not_eq_true', Bool.not_eq_false', decide_eq_true_eq, decide_eq_false_iff_not] at d0
      simp only [allP]
      and_intros <;> first
        | omega
        | exact hv ▸ cLong v
        | exact cWithin _ _ _)

theorem cSpanR86400_1 (v n : Int) (hv : lenW v = 86400) (tq0 : (!withinB n (0 : Int) (12725829 : Int)) = false) : Contract Try.prog 25 [I v, I n] [] (V.tup [I (n * (86400 : Int)), I ((n + (1 : Int)) * (86400 : Int)), Bo true]) ([]) :=
  vcP hmix [.reg 1 [(1, [.call [] [] (I 86400) []], none)], .reg 2 [(8, [], some false)], .reg 4 [(2, [.be (I (n * 86400))], none), (7, [.be (I ((n + 1) * 86400))], none)], .tab [(29, FWithin)]] [] [
      Contract Try.prog (27 : Nat) [I v] [] (I (86400 : Int)) [],
      Contract Try.prog (29 : Nat) [I n, I (0 : Int), I (12725829 : Int)] [] (Bo (withinB n (0 : Int) (12725829 : Int))) [],
      (!withinB n (0 : Int) (12725829 : Int)) = false,
      IntKind.wrap IntKind.i64 (n * (86400 : Int)) = n * (86400 : Int),
      IntKind.wrap IntKind.i64 (IntKind.wrap IntKind.i64 (n * (86400 : Int)) + (86400 : Int)) = (n + (1 : Int)) * (86400 : Int)] (by kernel_rfl)
    (by
      have d0 := tq0
      try simp only [Int.ofNat_eq_natCast, List.length_map, Bool.not_eq_true', Bool.not_eq_false', decide_eq_true_eq, decide_eq_false_iff_not] at d0
      simp only [allP]
      and_intros <;> first
        | omega
        | exact hv ▸ cLong v
        | exact cWithin _ _ _
        | (simp only [withinB, Bool.and_eq_true, decide_eq_true_eq] at d0; exact i64_small (by omega))
        | (simp only [withinB, Bool.and_eq_true, decide_eq_true_eq] at d0; rw [i64_small (n := n * 86400) (by simp at d0; omega), i64_small (by simp at d0; omega)]; omega))

theorem cSpanR86400 (v n : Int) (hv : lenW v = 86400) : Contract Try.prog 25 [I v, I n] [] (spanV v n) [] := by
  rcases tf (!withinB n (0 : Int) (12725829 : Int)) with tq0 | tq0
  · exact Contract.cast (by
      first
        | ((try simp only [Int.ofNat_eq_natCast, List.length_map, Bool.not_eq_true', Bool.not_eq_false', decide_eq_true_eq, decide_eq_false_iff_not] at tq0); simp [spanV, goodW, hv, tq0]; done)) (by
      first
        | rfl) (cSpanR86400_0 v n hv tq0)
  · exact Contract.cast (by
      first
        | ((try simp only [Int.ofNat_eq_natCast, List.length_map, Bool.not_eq_true', Bool.not_eq_false', decide_eq_true_eq, decide_eq_false_iff_not] at tq0); simp [spanV, goodW, hv, tq0]; done)) (by
      first
        | rfl) (cSpanR86400_1 v n hv tq0)

theorem cWinR0_0 (v sec : Int) (hv : lenW v = 0) : Contract Try.prog 16 [I v, I sec] [] (I (-1 : Int)) ([]) :=
  vcP hmix [.reg 1 [(1, [.call [] [] (I 0) []], none)], .tab [(29, FWithin)]] [] [
      Contract Try.prog (27 : Nat) [I v] [] (I (0 : Int)) []] (by kernel_rfl)
    (by
      simp only [allP]
      and_intros <;> first
        | exact hv ▸ cLong v)

theorem cWinR0 (v sec : Int) (hv : lenW v = 0) : Contract Try.prog 16 [I v, I sec] [] (I (winW v sec)) [] := by
  exact Contract.cast (by
    first
      | (simp only [winW, hv, cond_true, cond_false]; rfl)) (by
    first
      | rfl) (cWinR0_0 v sec hv )

theorem cSpanR0_0 (v n : Int) (hv : lenW v = 0) : Contract Try.prog 25 [I v, I n] [] (V.tup [I (0 : Int), I (0 : Int), Bo false]) ([]) :=
  vcP hmix [.reg 1 [(1, [.call [] [] (I 0) []], none)], .tab [(29, FWithin)]] [] [
      Contract Try.prog (27 : Nat) [I v] [] (I (0 : Int)) []] (by kernel_rfl)
    (by
      simp only [allP]
      and_intros <;> first
        | exact hv ▸ cLong v)

theorem cSpanR0 (v n : Int) (hv : lenW v = 0) : Contract Try.prog 25 [I v, I n] [] (spanV v n) [] := by
  exact Contract.cast (by
    first
      | (simp only [spanV, goodW, hv, cond_true, cond_false]; rfl)) (by
    first
      | rfl) (cSpanR0_0 v n hv )

theorem cWinR (v sec : Int) : Contract Try.prog 16 [I v, I sec] [] (I (winW v sec)) [] := by
  rcases lenW_cases v with ⟨_, h⟩ | ⟨_, h⟩ | ⟨_, h⟩ | ⟨_, h⟩
  · exact cWinR60 v sec h
  · exact cWinR3600 v sec h
  · exact cWinR86400 v sec h
  · exact cWinR0 v sec h
theorem cSpanR (v n : Int) : Contract Try.prog 25 [I v, I n] [] (spanV v n) [] := by
  rcases lenW_cases v with ⟨_, h⟩ | ⟨_, h⟩ | ⟨_, h⟩ | ⟨_, h⟩
  · exact cSpanR60 v n h
  · exact cSpanR3600 v n h
  · exact cSpanR86400 v n h
  · exact cSpanR0 v n h
end Go.Proofs.Ytigakemkanobaaa
