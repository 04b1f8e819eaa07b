/- counters: buckets, one span. -/
import Derived.Test.YtigakemkanobaaaSpB
namespace Go.Proofs.Ytigakemkanobaaa
open E
set_option maxRecDepth 100000
set_option linter.unusedVariables false
set_option linter.unusedSimpArgs false


def stepB (d x n : Int) : Int := bif decide (x ≤ d) then IntKind.i64.wrap (n + 1) else n
/-- Which bucket a duration has. -/
def ofR (d : Int) : Int := stepB d 1000 (stepB d 500 (stepB d 100 (stepB d 50 (stepB d 10 (stepB d 5 (stepB d 1 0))))))
/-- A counter's cells. -/
def c10 (f : Nat → Int) : List V := [I (f 0), I (f 1), I (f 2), I (f 3), I (f 4), I (f 5), I (f 6), I (f 7), I (f 8), I (f 9)]
/-- The counter of one span. -/
def oneF (k : Int) (err : Bool) : Nat → Int
  | 0 => 1
  | 1 => bif err then 1 else 0
  | i => bif decide (k = (i : Int) - 2) then 1 else 0
def mn (a b : Int) : Int := if b < a then b else a
def mx (a b : Int) : Int := if a < b then b else a
def updF (f : Nat → Int) (j : Nat) (v : Int) (i : Nat) : Int := bif Nat.beq i j then v else f i

theorem ofR_range (d : Int) : 0 ≤ ofR d ∧ ofR d ≤ 7 := by
  have h : ∀ x n k : Int, 0 ≤ n → n ≤ k → k ≤ 6 → 0 ≤ stepB d x n ∧ stepB d x n ≤ k + 1 := by
    intro x n k h0 h1 h2
    unfold stepB
    cases decide (x ≤ d)
    · simp only [cond_false]; omega
    · simp only [cond_true]; rw [i64_small (by omega)]; omega
  have a1 := h 1 0 0 (by omega) (by omega) (by omega)
  have a2 := h 5 _ 1 a1.1 (by omega) (by omega)
  have a3 := h 10 _ 2 a2.1 (by omega) (by omega)
  have a4 := h 50 _ 3 a3.1 (by omega) (by omega)
  have a5 := h 100 _ 4 a4.1 (by omega) (by omega)
  have a6 := h 500 _ 5 a5.1 (by omega) (by omega)
  have a7 := h 1000 _ 6 a6.1 (by omega) (by omega)
  exact ⟨a7.1, a7.2⟩
theorem cOf (d : Int) : Contract Try.prog 60 [I d] [] (I (ofR d)) [] :=
  vcP hmix [.unroll 8, .fork 14 [] [], .fork 14 [] [], .fork 14 [] [], .fork 14 [] [], .fork 14 [] [], .fork 14 [] [], .fork 14 [] []] [] [
      (0 : Int) ≤ (0 : Int),
      (0 : Int) < (7 : Int),
      (0 : Int) ≤ (1 : Int),
      (1 : Int) < (7 : Int),
      (0 : Int) ≤ (2 : Int),
      (2 : Int) < (7 : Int),
      (0 : Int) ≤ (3 : Int),
      (3 : Int) < (7 : Int),
      (0 : Int) ≤ (4 : Int),
      (4 : Int) < (7 : Int),
      (0 : Int) ≤ (5 : Int),
      (5 : Int) < (7 : Int),
      (0 : Int) ≤ (6 : Int),
      (6 : Int) < (7 : Int)] (by kernel_rfl)
    (by simp [allP])

theorem cOfR (d : Int) : Contract Try.prog 51 [I d] [] (I (ofR d)) [] :=
  vcP hmix [.unroll 8, .fork 18 [] [], .fork 18 [] [], .fork 18 [] [], .fork 18 [] [], .fork 18 [] [], .fork 18 [] [], .fork 18 [] []] [] [
      (0 : Int) ≤ (0 : Int),
      (0 : Int) < (7 : Int),
      (0 : Int) ≤ (1 : Int),
      (1 : Int) < (7 : Int),
      (0 : Int) ≤ (2 : Int),
      (2 : Int) < (7 : Int),
      (0 : Int) ≤ (3 : Int),
      (3 : Int) < (7 : Int),
      (0 : Int) ≤ (4 : Int),
      (4 : Int) < (7 : Int),
      (0 : Int) ≤ (5 : Int),
      (5 : Int) < (7 : Int),
      (0 : Int) ≤ (6 : Int),
      (6 : Int) < (7 : Int)] (by kernel_rfl)
    (by simp [allP])

theorem one0_0 (s : Sp) (hc : Contract Try.prog 60 [I s.dur] [] (I (ofR s.dur)) []) (hk : ofR s.dur = 0) (tq0 : (Sp.err s) = true) : Contract Try.prog 48 [s.v] [] (V.agg [I (1 : Int), I (1 : Int), I (1 : Int), I (0 : Int), I (0 : Int), I (0 : Int), I (0 : Int), I (0 : Int), I (0 : Int), I (0 : Int)]) ([]) :=
  vcP hmix [.reg 2 [(2, [.call [] [] (I (ofR s.dur)) []], none), (4, [.idx 0], none)], .reg 3 [(1, [], some true)]] [] [
      Contract Try.prog (60 : Nat) [I (Sp.dur s)] [] (I (ofR (Sp.dur s))) [],
      ofR (Sp.dur s) = (0 : Int),
      Sp.err s = true] (by kernel_rfl)
    (by
      have d0 := tq0
      try simp only [Int.ofNat_eq_natCast, List.length_map, Bool.not_eq_true', Bool.not_eq_false', decide_eq_true_eq, decide_eq_false_iff_not] at d0
      simp only [allP]
      and_intros <;> first
        | omega)

theorem one0_1 (s : Sp) (hc : Contract Try.prog 60 [I s.dur] [] (I (ofR s.dur)) []) (hk : ofR s.dur = 0) (tq0 : (Sp.err s) = false) : Contract Try.prog 48 [s.v] [] (V.agg [I (1 : Int), I (0 : Int), I (1 : Int), I (0 : Int), I (0 : Int), I (0 : Int), I (0 : Int), I (0 : Int), I (0 : Int), I (0 : Int)]) ([]) :=
  vcP hmix [.reg 2 [(2, [.call [] [] (I (ofR s.dur)) []], none), (4, [.idx 0], none)], .reg 3 [(1, [], some false)]] [] [
      Contract Try.prog (60 : Nat) [I (Sp.dur s)] [] (I (ofR (Sp.dur s))) [],
      ofR (Sp.dur s) = (0 : Int),
      Sp.err s = false] (by kernel_rfl)
    (by
      have d0 := tq0
      try simp only [Int.ofNat_eq_natCast, List.length_map, Bool.not_eq_true', Bool.not_eq_false', decide_eq_true_eq, decide_eq_false_iff_not] at d0
      simp only [allP]
      and_intros <;> first
        | omega)

theorem one0 (s : Sp) (hc : Contract Try.prog 60 [I s.dur] [] (I (ofR s.dur)) []) (hk : ofR s.dur = 0) : Contract Try.prog 48 [s.v] [] (.agg (c10 (oneF (ofR s.dur) s.err))) [] := by
  rcases tf (Sp.err s) with tq0 | tq0
  · exact Contract.cast (by
      first
        | (simp only [hk, oneF, c10, tq0, cond_true, cond_false]; rfl)) (by
      first
        | rfl) (one0_0 s hc hk tq0)
  · exact Contract.cast (by
      first
        | (simp only [hk, oneF, c10, tq0, cond_true, cond_false]; rfl)) (by
      first
        | rfl) (one0_1 s hc hk tq0)

theorem one1_0 (s : Sp) (hc : Contract Try.prog 60 [I s.dur] [] (I (ofR s.dur)) []) (hk : ofR s.dur = 1) (tq0 : (Sp.err s) = true) : Contract Try.prog 48 [s.v] [] (V.agg [I (1 : Int), I (1 : Int), I (0 : Int), I (1 : Int), I (0 : Int), I (0 : Int), I (0 : Int), I (0 : Int), I (0 : Int), I (0 : Int)]) ([]) :=
  vcP hmix [.reg 2 [(2, [.call [] [] (I (ofR s.dur)) []], none), (4, [.idx 1], none)], .reg 3 [(1, [], some true)]] [] [
      Contract Try.prog (60 : Nat) [I (Sp.dur s)] [] (I (ofR (Sp.dur s))) [],
      ofR (Sp.dur s) = (1 : Int),
      Sp.err s = true] (by kernel_rfl)
    (by
      have d0 := tq0
      try simp only [Int.ofNat_eq_natCast, List.length_map, Bool.not_eq_true', Bool.not_eq_false', decide_eq_true_eq, decide_eq_false_iff_not] at d0
      simp only [allP]
      and_intros <;> first
        | omega)

theorem one1_1 (s : Sp) (hc : Contract Try.prog 60 [I s.dur] [] (I (ofR s.dur)) []) (hk : ofR s.dur = 1) (tq0 : (Sp.err s) = false) : Contract Try.prog 48 [s.v] [] (V.agg [I (1 : Int), I (0 : Int), I (0 : Int), I (1 : Int), I (0 : Int), I (0 : Int), I (0 : Int), I (0 : Int), I (0 : Int), I (0 : Int)]) ([]) :=
  vcP hmix [.reg 2 [(2, [.call [] [] (I (ofR s.dur)) []], none), (4, [.idx 1], none)], .reg 3 [(1, [], some false)]] [] [
      Contract Try.prog (60 : Nat) [I (Sp.dur s)] [] (I (ofR (Sp.dur s))) [],
      ofR (Sp.dur s) = (1 : Int),
      Sp.err s = false] (by kernel_rfl)
    (by
      have d0 := tq0
      try simp only [Int.ofNat_eq_natCast, List.length_map, Bool.not_eq_true', Bool.not_eq_false', decide_eq_true_eq, decide_eq_false_iff_not] at d0
      simp only [allP]
      and_intros <;> first
        | omega)

theorem one1 (s : Sp) (hc : Contract Try.prog 60 [I s.dur] [] (I (ofR s.dur)) []) (hk : ofR s.dur = 1) : Contract Try.prog 48 [s.v] [] (.agg (c10 (oneF (ofR s.dur) s.err))) [] := by
  rcases tf (Sp.err s) with tq0 | tq0
  · exact Contract.cast (by
      first
        | (simp only [hk, oneF, c10, tq0, cond_true, cond_false]; rfl)) (by
      first
        | rfl) (one1_0 s hc hk tq0)
  · exact Contract.cast (by
      first
        | (simp only [hk, oneF, c10, tq0, cond_true, cond_false]; rfl)) (by
      first
        | rfl) (one1_1 s hc hk tq0)

theorem one2_0 (s : Sp) (hc : Contract Try.prog 60 [I s.dur] [] (I (ofR s.dur)) []) (hk : ofR s.dur = 2) (tq0 : (Sp.err s) = true) : Contract Try.prog 48 [s.v] [] (V.agg [I (1 : Int), I (1 : Int), I (0 : Int), I (0 : Int), I (1 : Int), I (0 : Int), I (0 : Int), I (0 : Int), I (0 : Int), I (0 : Int)]) ([]) :=
  vcP hmix [.reg 2 [(2, [.call [] [] (I (ofR s.dur)) []], none), (4, [.idx 2], none)], .reg 3 [(1, [], some true)]] [] [
      Contract Try.prog (60 : Nat) [I (Sp.dur s)] [] (I (ofR (Sp.dur s))) [],
      ofR (Sp.dur s) = (2 : Int),
      Sp.err s = true] (by kernel_rfl)
    (by
      have d0 := tq0
      try simp only [Int.ofNat_eq_natCast, List.length_map, Bool.not_eq_true', Bool.not_eq_false', decide_eq_true_eq, decide_eq_false_iff_not] at d0
      simp only [allP]
      and_intros <;> first
        | omega)

theorem one2_1 (s : Sp) (hc : Contract Try.prog 60 [I s.dur] [] (I (ofR s.dur)) []) (hk : ofR s.dur = 2) (tq0 : (Sp.err s) = false) : Contract Try.prog 48 [s.v] [] (V.agg [I (1 : Int), I (0 : Int), I (0 : Int), I (0 : Int), I (1 : Int), I (0 : Int), I (0 : Int), I (0 : Int), I (0 : Int), I (0 : Int)]) ([]) :=
  vcP hmix [.reg 2 [(2, [.call [] [] (I (ofR s.dur)) []], none), (4, [.idx 2], none)], .reg 3 [(1, [], some false)]] [] [
      Contract Try.prog (60 : Nat) [I (Sp.dur s)] [] (I (ofR (Sp.dur s))) [],
      ofR (Sp.dur s) = (2 : Int),
      Sp.err s = false] (by kernel_rfl)
    (by
      have d0 := tq0
      try simp only [Int.ofNat_eq_natCast, List.length_map, Bool.not_eq_true', Bool.not_eq_false', decide_eq_true_eq, decide_eq_false_iff_not] at d0
      simp only [allP]
      and_intros <;> first
        | omega)

theorem one2 (s : Sp) (hc : Contract Try.prog 60 [I s.dur] [] (I (ofR s.dur)) []) (hk : ofR s.dur = 2) : Contract Try.prog 48 [s.v] [] (.agg (c10 (oneF (ofR s.dur) s.err))) [] := by
  rcases tf (Sp.err s) with tq0 | tq0
  · exact Contract.cast (by
      first
        | (simp only [hk, oneF, c10, tq0, cond_true, cond_false]; rfl)) (by
      first
        | rfl) (one2_0 s hc hk tq0)
  · exact Contract.cast (by
      first
        | (simp only [hk, oneF, c10, tq0, cond_true, cond_false]; rfl)) (by
      first
        | rfl) (one2_1 s hc hk tq0)

theorem one3_0 (s : Sp) (hc : Contract Try.prog 60 [I s.dur] [] (I (ofR s.dur)) []) (hk : ofR s.dur = 3) (tq0 : (Sp.err s) = true) : Contract Try.prog 48 [s.v] [] (V.agg [I (1 : Int), I (1 : Int), I (0 : Int), I (0 : Int), I (0 : Int), I (1 : Int), I (0 : Int), I (0 : Int), I (0 : Int), I (0 : Int)]) ([]) :=
  vcP hmix [.reg 2 [(2, [.call [] [] (I (ofR s.dur)) []], none), (4, [.idx 3], none)], .reg 3 [(1, [], some true)]] [] [
      Contract Try.prog (60 : Nat) [I (Sp.dur s)] [] (I (ofR (Sp.dur s))) [],
      ofR (Sp.dur s) = (3 : Int),
      Sp.err s = true] (by kernel_rfl)
    (by
      have d0 := tq0
      try simp only [Int.ofNat_eq_natCast, List.length_map, Bool.not_eq_true', Bool.not_eq_false', decide_eq_true_eq, decide_eq_false_iff_not] at d0
      simp only [allP]
      and_intros <;> first
        | omega)

theorem one3_1 (s : Sp) (hc : Contract Try.prog 60 [I s.dur] [] (I (ofR s.dur)) []) (hk : ofR s.dur = 3) (tq0 : (Sp.err s) = false) : Contract Try.prog 48 [s.v] [] (V.agg [I (1 : Int), I (0 : Int), I (0 : Int), I (0 : Int), I (0 : Int), I (1 : Int), I (0 : Int), I (0 : Int), I (0 : Int), I (0 : Int)]) ([]) :=
  vcP hmix [.reg 2 [(2, [.call [] [] (I (ofR s.dur)) []], none), (4, [.idx 3], none)], .reg 3 [(1, [], some false)]] [] [
      Contract Try.prog (60 : Nat) [I (Sp.dur s)] [] (I (ofR (Sp.dur s))) [],
      ofR (Sp.dur s) = (3 : Int),
      Sp.err s = false] (by kernel_rfl)
    (by
      have d0 := tq0
      try simp only [Int.ofNat_eq_natCast, List.length_map, Bool.not_eq_true', Bool.not_eq_false', decide_eq_true_eq, decide_eq_false_iff_not] at d0
      simp only [allP]
      and_intros <;> first
        | omega)

theorem one3 (s : Sp) (hc : Contract Try.prog 60 [I s.dur] [] (I (ofR s.dur)) []) (hk : ofR s.dur = 3) : Contract Try.prog 48 [s.v] [] (.agg (c10 (oneF (ofR s.dur) s.err))) [] := by
  rcases tf (Sp.err s) with tq0 | tq0
  · exact Contract.cast (by
      first
        | (simp only [hk, oneF, c10, tq0, cond_true, cond_false]; rfl)) (by
      first
        | rfl) (one3_0 s hc hk tq0)
  · exact Contract.cast (by
      first
        | (simp only [hk, oneF, c10, tq0, cond_true, cond_false]; rfl)) (by
      first
        | rfl) (one3_1 s hc hk tq0)

theorem one4_0 (s : Sp) (hc : Contract Try.prog 60 [I s.dur] [] (I (ofR s.dur)) []) (hk : ofR s.dur = 4) (tq0 : (Sp.err s) = true) : Contract Try.prog 48 [s.v] [] (V.agg [I (1 : Int), I (1 : Int), I (0 : Int), I (0 : Int), I (0 : Int), I (0 : Int), I (1 : Int), I (0 : Int), I (0 : Int), I (0 : Int)]) ([]) :=
  vcP hmix [.reg 2 [(2, [.call [] [] (I (ofR s.dur)) []], none), (4, [.idx 4], none)], .reg 3 [(1, [], some true)]] [] [
      Contract Try.prog (60 : Nat) [I (Sp.dur s)] [] (I (ofR (Sp.dur s))) [],
      ofR (Sp.dur s) = (4 : Int),
      Sp.err s = true] (by kernel_rfl)
    (by
      have d0 := tq0
      try simp only [Int.ofNat_eq_natCast, List.length_map, Bool.not_eq_true', Bool.not_eq_false', decide_eq_true_eq, decide_eq_false_iff_not] at d0
      simp only [allP]
      and_intros <;> first
        | omega)

theorem one4_1 (s : Sp) (hc : Contract Try.prog 60 [I s.dur] [] (I (ofR s.dur)) []) (hk : ofR s.dur = 4) (tq0 : (Sp.err s) = false) : Contract Try.prog 48 [s.v] [] (V.agg [I (1 : Int), I (0 : Int), I (0 : Int), I (0 : Int), I (0 : Int), I (0 : Int), I (1 : Int), I (0 : Int), I (0 : Int), I (0 : Int)]) ([]) :=
  vcP hmix [.reg 2 [(2, [.call [] [] (I (ofR s.dur)) []], none), (4, [.idx 4], none)], .reg 3 [(1, [], some false)]] [] [
      Contract Try.prog (60 : Nat) [I (Sp.dur s)] [] (I (ofR (Sp.dur s))) [],
      ofR (Sp.dur s) = (4 : Int),
      Sp.err s = false] (by kernel_rfl)
    (by
      have d0 := tq0
      try simp only [Int.ofNat_eq_natCast, List.length_map, Bool.not_eq_true', Bool.not_eq_false', decide_eq_true_eq, decide_eq_false_iff_not] at d0
      simp only [allP]
      and_intros <;> first
        | omega)

theorem one4 (s : Sp) (hc : Contract Try.prog 60 [I s.dur] [] (I (ofR s.dur)) []) (hk : ofR s.dur = 4) : Contract Try.prog 48 [s.v] [] (.agg (c10 (oneF (ofR s.dur) s.err))) [] := by
  rcases tf (Sp.err s) with tq0 | tq0
  · exact Contract.cast (by
      first
        | (simp only [hk, oneF, c10, tq0, cond_true, cond_false]; rfl)) (by
      first
        | rfl) (one4_0 s hc hk tq0)
  · exact Contract.cast (by
      first
        | (simp only [hk, oneF, c10, tq0, cond_true, cond_false]; rfl)) (by
      first
        | rfl) (one4_1 s hc hk tq0)

theorem one5_0 (s : Sp) (hc : Contract Try.prog 60 [I s.dur] [] (I (ofR s.dur)) []) (hk : ofR s.dur = 5) (tq0 : (Sp.err s) = true) : Contract Try.prog 48 [s.v] [] (V.agg [I (1 : Int), I (1 : Int), I (0 : Int), I (0 : Int), I (0 : Int), I (0 : Int), I (0 : Int), I (1 : Int), I (0 : Int), I (0 : Int)]) ([]) :=
  vcP hmix [.reg 2 [(2, [.call [] [] (I (ofR s.dur)) []], none), (4, [.idx 5], none)], .reg 3 [(1, [], some true)]] [] [
      Contract Try.prog (60 : Nat) [I (Sp.dur s)] [] (I (ofR (Sp.dur s))) [],
      ofR (Sp.dur s) = (5 : Int),
      Sp.err s = true] (by kernel_rfl)
    (by
      have d0 := tq0
      try simp only [Int.ofNat_eq_natCast, List.length_map, Bool.not_eq_true', Bool.not_eq_false', decide_eq_true_eq, decide_eq_false_iff_not] at d0
      simp only [allP]
      and_intros <;> first
        | omega)

theorem one5_1 (s : Sp) (hc : Contract Try.prog 60 [I s.dur] [] (I (ofR s.dur)) []) (hk : ofR s.dur = 5) (tq0 : (Sp.err s) = false) : Contract Try.prog 48 [s.v] [] (V.agg [I (1 : Int), I (0 : Int), I (0 : Int), I (0 : Int), I (0 : Int), I (0 : Int), I (0 : Int), I (1 : Int), I (0 : Int), I (0 : Int)]) ([]) :=
  vcP hmix [.reg 2 [(2, [.call [] [] (I (ofR s.dur)) []], none), (4, [.idx 5], none)], .reg 3 [(1, [], some false)]] [] [
      Contract Try.prog (60 : Nat) [I (Sp.dur s)] [] (I (ofR (Sp.dur s))) [],
      ofR (Sp.dur s) = (5 : Int),
      Sp.err s = false] (by kernel_rfl)
    (by
      have d0 := tq0
      try simp only [Int.ofNat_eq_natCast, List.length_map, Bool.not_eq_true', Bool.not_eq_false', decide_eq_true_eq, decide_eq_false_iff_not] at d0
      simp only [allP]
      and_intros <;> first
        | omega)

theorem one5 (s : Sp) (hc : Contract Try.prog 60 [I s.dur] [] (I (ofR s.dur)) []) (hk : ofR s.dur = 5) : Contract Try.prog 48 [s.v] [] (.agg (c10 (oneF (ofR s.dur) s.err))) [] := by
  rcases tf (Sp.err s) with tq0 | tq0
  · exact Contract.cast (by
      first
        | (simp only [hk, oneF, c10, tq0, cond_true, cond_false]; rfl)) (by
      first
        | rfl) (one5_0 s hc hk tq0)
  · exact Contract.cast (by
      first
        | (simp only [hk, oneF, c10, tq0, cond_true, cond_false]; rfl)) (by
      first
        | rfl) (one5_1 s hc hk tq0)

theorem one6_0 (s : Sp) (hc : Contract Try.prog 60 [I s.dur] [] (I (ofR s.dur)) []) (hk : ofR s.dur = 6) (tq0 : (Sp.err s) = true) : Contract Try.prog 48 [s.v] [] (V.agg [I (1 : Int), I (1 : Int), I (0 : Int), I (0 : Int), I (0 : Int), I (0 : Int), I (0 : Int), I (0 : Int), I (1 : Int), I (0 : Int)]) ([]) :=
  vcP hmix [.reg 2 [(2, [.call [] [] (I (ofR s.dur)) []], none), (4, [.idx 6], none)], .reg 3 [(1, [], some true)]] [] [
      Contract Try.prog (60 : Nat) [I (Sp.dur s)] [] (I (ofR (Sp.dur s))) [],
      ofR (Sp.dur s) = (6 : Int),
      Sp.err s = true] (by kernel_rfl)
    (by
      have d0 := tq0
      try simp only [Int.ofNat_eq_natCast, List.length_map, Bool.not_eq_true', Bool.not_eq_false', decide_eq_true_eq, decide_eq_false_iff_not] at d0
      simp only [allP]
      and_intros <;> first
        | omega)

theorem one6_1 (s : Sp) (hc : Contract Try.prog 60 [I s.dur] [] (I (ofR s.dur)) []) (hk : ofR s.dur = 6) (tq0 : (Sp.err s) = false) : Contract Try.prog 48 [s.v] [] (V.agg [I (1 : Int), I (0 : Int), I (0 : Int), I (0 : Int), I (0 : Int), I (0 : Int), I (0 : Int), I (0 : Int), I (1 : Int), I (0 : Int)]) ([]) :=
  vcP hmix [.reg 2 [(2, [.call [] [] (I (ofR s.dur)) []], none), (4, [.idx 6], none)], .reg 3 [(1, [], some false)]] [] [
      Contract Try.prog (60 : Nat) [I (Sp.dur s)] [] (I (ofR (Sp.dur s))) [],
      ofR (Sp.dur s) = (6 : Int),
      Sp.err s = false] (by kernel_rfl)
    (by
      have d0 := tq0
      try simp only [Int.ofNat_eq_natCast, List.length_map, Bool.not_eq_true', Bool.not_eq_false', decide_eq_true_eq, decide_eq_false_iff_not] at d0
      simp only [allP]
      and_intros <;> first
        | omega)

theorem one6 (s : Sp) (hc : Contract Try.prog 60 [I s.dur] [] (I (ofR s.dur)) []) (hk : ofR s.dur = 6) : Contract Try.prog 48 [s.v] [] (.agg (c10 (oneF (ofR s.dur) s.err))) [] := by
  rcases tf (Sp.err s) with tq0 | tq0
  · exact Contract.cast (by
      first
        | (simp only [hk, oneF, c10, tq0, cond_true, cond_false]; rfl)) (by
      first
        | rfl) (one6_0 s hc hk tq0)
  · exact Contract.cast (by
      first
        | (simp only [hk, oneF, c10, tq0, cond_true, cond_false]; rfl)) (by
      first
        | rfl) (one6_1 s hc hk tq0)

theorem one7_0 (s : Sp) (hc : Contract Try.prog 60 [I s.dur] [] (I (ofR s.dur)) []) (hk : ofR s.dur = 7) (tq0 : (Sp.err s) = true) : Contract Try.prog 48 [s.v] [] (V.agg [I (1 : Int), I (1 : Int), I (0 : Int), I (0 : Int), I (0 : Int), I (0 : Int), I (0 : Int), I (0 : Int), I (0 : Int), I (1 : Int)]) ([]) :=
  vcP hmix [.reg 2 [(2, [.call [] [] (I (ofR s.dur)) []], none), (4, [.idx 7], none)], .reg 3 [(1, [], some true)]] [] [
      Contract Try.prog (60 : Nat) [I (Sp.dur s)] [] (I (ofR (Sp.dur s))) [],
      ofR (Sp.dur s) = (7 : Int),
      Sp.err s = true] (by kernel_rfl)
    (by
      have d0 := tq0
      try simp only [Int.ofNat_eq_natCast, List.length_map, Bool.not_eq_true', Bool.not_eq_false', decide_eq_true_eq, decide_eq_false_iff_not] at d0
      simp only [allP]
      and_intros <;> first
        | omega)

theorem one7_1 (s : Sp) (hc : Contract Try.prog 60 [I s.dur] [] (I (ofR s.dur)) []) (hk : ofR s.dur = 7) (tq0 : (Sp.err s) = false) : Contract Try.prog 48 [s.v] [] (V.agg [I (1 : Int), I (0 : Int), I (0 : Int), I (0 : Int), I (0 : Int), I (0 : Int), I (0 : Int), I (0 : Int), I (0 : Int), I (1 : Int)]) ([]) :=
  vcP hmix [.reg 2 [(2, [.call [] [] (I (ofR s.dur)) []], none), (4, [.idx 7], none)], .reg 3 [(1, [], some false)]] [] [
      Contract Try.prog (60 : Nat) [I (Sp.dur s)] [] (I (ofR (Sp.dur s))) [],
      ofR (Sp.dur s) = (7 : Int),
      Sp.err s = false] (by kernel_rfl)
    (by
      have d0 := tq0
      try simp only [Int.ofNat_eq_natCast, List.length_map, Bool.not_eq_true', Bool.not_eq_false', decide_eq_true_eq, decide_eq_false_iff_not] at d0
      simp only [allP]
      and_intros <;> first
        | omega)

theorem one7 (s : Sp) (hc : Contract Try.prog 60 [I s.dur] [] (I (ofR s.dur)) []) (hk : ofR s.dur = 7) : Contract Try.prog 48 [s.v] [] (.agg (c10 (oneF (ofR s.dur) s.err))) [] := by
  rcases tf (Sp.err s) with tq0 | tq0
  · exact Contract.cast (by
      first
        | (simp only [hk, oneF, c10, tq0, cond_true, cond_false]; rfl)) (by
      first
        | rfl) (one7_0 s hc hk tq0)
  · exact Contract.cast (by
      first
        | (simp only [hk, oneF, c10, tq0, cond_true, cond_false]; rfl)) (by
      first
        | rfl) (one7_1 s hc hk tq0)

theorem cOne (s : Sp) : Contract Try.prog 48 [s.v] [] (.agg (c10 (oneF (ofR s.dur) s.err))) [] := by
  have h := ofR_range s.dur
  have hc := cOf s.dur
  have : ofR s.dur = 0 ∨ ofR s.dur = 1 ∨ ofR s.dur = 2 ∨ ofR s.dur = 3 ∨ ofR s.dur = 4 ∨ ofR s.dur = 5 ∨ ofR s.dur = 6 ∨ ofR s.dur = 7 := by omega
  rcases this with h | h | h | h | h | h | h | h
  · exact one0 s hc h
  · exact one1 s hc h
  · exact one2 s hc h
  · exact one3 s hc h
  · exact one4 s hc h
  · exact one5 s hc h
  · exact one6 s hc h
  · exact one7 s hc h
end Go.Proofs.Ytigakemkanobaaa
