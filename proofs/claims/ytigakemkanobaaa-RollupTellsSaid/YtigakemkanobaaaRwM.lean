/- rollup: a span is counted, by the reference: the walk. -/
import Derived.Test.YtigakemkanobaaaRwJ
import Derived.Test.YtigakemkanobaaaRwQ
namespace Go.Proofs.Ytigakemkanobaaa
open E
set_option maxRecDepth 100000
set_option linter.unusedVariables false
set_option linter.unusedSimpArgs false


def cnt2 (f : Nat → Int) (s : Sp) (m : Int) : Nat → Int := sumF f (oneF (ofR s.dur) s.err) m
def arI (l : List Rw) (s : Sp) (m : Int) (v : Nat) (key : Rw) (i : Nat) : SL := ⟨[(0, .sl 14 (l.map Rw.row)), (2, I m), (4, .ptr 900 0 0 0), (7, I (v : Int)), (8, .ptr 901 0 0 0), (9, I (i : Int))], [(900, .box s.row), (901, .box key.row)], [900, 901]⟩
def arO (l : List Rw) (s : Sp) (m : Int) (v : Nat) : SL := ⟨[(0, .sl 14 (l.map Rw.row)), (2, I m), (4, .ptr 900 0 0 0), (7, I (v : Int))], [(900, .box s.row)], [900]⟩
def putR (l : List Rw) (i : Nat) (x : Rw) : List Rw := l.take i ++ [x] ++ l.drop i
def cntRw (key : Rw) (c : Nat → Int) (s : Sp) (m : Int) : Rw := ⟨key.lev, key.win, key.svc, key.op, cnt2 c s m⟩
noncomputable def ariB : Code := codeAt Try.prog 20 [true, true, false, true, false, false, true, false, false, true, true, false, false, false]

noncomputable def aroB : Code := codeAt Try.prog 20 [true, true, false, true, false, false]

theorem addc0_0 (f : Nat → Int) (s : Sp) (m : Int) (hk : ofR s.dur = 0) (tq0 : (Sp.err s) = true) : Contract Try.prog 34 [.agg (c10 f), s.v, I m] [] (V.agg [I (cnt2 f s m (0 : Nat)), I (cnt2 f s m (1 : Nat)), I (cnt2 f s m (2 : Nat)), I (cnt2 f s m (3 : Nat)), I (cnt2 f s m (4 : Nat)), I (cnt2 f s m (5 : Nat)), I (cnt2 f s m (6 : Nat)), I (cnt2 f s m (7 : Nat)), I (cnt2 f s m (8 : Nat)), I (cnt2 f s m (9 : Nat))]) ([]) :=
  vcP hmix [.reg 2 [(2, [.call [] [] (I (ofR s.dur)) []], none), (4, [.idx 0], none)], .reg 3 [(1, [], some true)], .reg 5 [(3, [.call [] [] (.agg (c10 (cnt2 f s m))) []], none)]] [] [
      Contract Try.prog (51 : Nat) [I (Sp.dur s)] [] (I (ofR (Sp.dur s))) [],
      ofR (Sp.dur s) = (0 : Int),
      Sp.err s = true,
      Contract Try.prog (14 : Nat) [V.agg [I (f (0 : Nat)), I (f (1 : Nat)), I (f (2 : Nat)), I (f (3 : Nat)), I (f (4 : Nat)), I (f (5 : Nat)), I (f (6 : Nat)), I (f (7 : Nat)), I (f (8 : Nat)), I (f (9 : Nat))], V.agg [I (1 : Int), I (1 : Int), I (1 : Int), I (0 : Int), I (0 : Int), I (0 : Int), I (0 : Int), I (0 : Int), I (0 : Int), I (0 : Int)], I m] [] (V.agg [I (cnt2 f s m (0 : Nat)), I (cnt2 f s m (1 : Nat)), I (cnt2 f s m (2 : Nat)), I (cnt2 f s m (3 : Nat)), I (cnt2 f s m (4 : Nat)), I (cnt2 f s m (5 : Nat)), I (cnt2 f s m (6 : Nat)), I (cnt2 f s m (7 : Nat)), I (cnt2 f s m (8 : Nat)), I (cnt2 f s m (9 : Nat))]) []] (by kernel_rfl)
    (by
      have d0 := tq0
      try simp only [Int.ofNat_eq_natCast, List.length_map, Bool.not_eq_true', Bool.not_eq_false', decide_eq_true_eq, decide_eq_false_iff_not] at d0
      simp only [allP]
      and_intros <;> first
        | omega
        | exact cOfR _
        | (have e : cnt2 f s m = sumF f (oneF 0 true) m := (by unfold cnt2; rw [hk, d0]); rw [e]; exact cJoin f (oneF 0 true) m))

theorem addc0_1 (f : Nat → Int) (s : Sp) (m : Int) (hk : ofR s.dur = 0) (tq0 : (Sp.err s) = false) : Contract Try.prog 34 [.agg (c10 f), s.v, I m] [] (V.agg [I (cnt2 f s m (0 : Nat)), I (cnt2 f s m (1 : Nat)), I (cnt2 f s m (2 : Nat)), I (cnt2 f s m (3 : Nat)), I (cnt2 f s m (4 : Nat)), I (cnt2 f s m (5 : Nat)), I (cnt2 f s m (6 : Nat)), I (cnt2 f s m (7 : Nat)), I (cnt2 f s m (8 : Nat)), I (cnt2 f s m (9 : Nat))]) ([]) :=
  vcP hmix [.reg 2 [(2, [.call [] [] (I (ofR s.dur)) []], none), (4, [.idx 0], none)], .reg 3 [(1, [], some false)], .reg 5 [(3, [.call [] [] (.agg (c10 (cnt2 f s m))) []], none)]] [] [
      Contract Try.prog (51 : Nat) [I (Sp.dur s)] [] (I (ofR (Sp.dur s))) [],
      ofR (Sp.dur s) = (0 : Int),
      Sp.err s = false,
      Contract Try.prog (14 : Nat) [V.agg [I (f (0 : Nat)), I (f (1 : Nat)), I (f (2 : Nat)), I (f (3 : Nat)), I (f (4 : Nat)), I (f (5 : Nat)), I (f (6 : Nat)), I (f (7 : Nat)), I (f (8 : Nat)), I (f (9 : Nat))], V.agg [I (1 : Int), I (0 : Int), I (1 : Int), I (0 : Int), I (0 : Int), I (0 : Int), I (0 : Int), I (0 : Int), I (0 : Int), I (0 : Int)], I m] [] (V.agg [I (cnt2 f s m (0 : Nat)), I (cnt2 f s m (1 : Nat)), I (cnt2 f s m (2 : Nat)), I (cnt2 f s m (3 : Nat)), I (cnt2 f s m (4 : Nat)), I (cnt2 f s m (5 : Nat)), I (cnt2 f s m (6 : Nat)), I (cnt2 f s m (7 : Nat)), I (cnt2 f s m (8 : Nat)), I (cnt2 f s m (9 : Nat))]) []] (by kernel_rfl)
    (by
      have d0 := tq0
      try simp only [Int.ofNat_eq_natCast, List.length_map, Bool.not_eq_true', Bool.not_eq_false', decide_eq_true_eq, decide_eq_false_iff_not] at d0
      simp only [allP]
      and_intros <;> first
        | omega
        | exact cOfR _
        | (have e : cnt2 f s m = sumF f (oneF 0 false) m := (by unfold cnt2; rw [hk, d0]); rw [e]; exact cJoin f (oneF 0 false) m))

theorem addc0 (f : Nat → Int) (s : Sp) (m : Int) (hk : ofR s.dur = 0) : Contract Try.prog 34 [.agg (c10 f), s.v, I m] [] (.agg (c10 (cnt2 f s m))) [] := by
  rcases tf (Sp.err s) with tq0 | tq0
  · exact Contract.cast (by
      first
        | rfl) (by
      first
        | rfl) (addc0_0 f s m hk tq0)
  · exact Contract.cast (by
      first
        | rfl) (by
      first
        | rfl) (addc0_1 f s m hk tq0)

theorem addc1_0 (f : Nat → Int) (s : Sp) (m : Int) (hk : ofR s.dur = 1) (tq0 : (Sp.err s) = true) : Contract Try.prog 34 [.agg (c10 f), s.v, I m] [] (V.agg [I (cnt2 f s m (0 : Nat)), I (cnt2 f s m (1 : Nat)), I (cnt2 f s m (2 : Nat)), I (cnt2 f s m (3 : Nat)), I (cnt2 f s m (4 : Nat)), I (cnt2 f s m (5 : Nat)), I (cnt2 f s m (6 : Nat)), I (cnt2 f s m (7 : Nat)), I (cnt2 f s m (8 : Nat)), I (cnt2 f s m (9 : Nat))]) ([]) :=
  vcP hmix [.reg 2 [(2, [.call [] [] (I (ofR s.dur)) []], none), (4, [.idx 1], none)], .reg 3 [(1, [], some true)], .reg 5 [(3, [.call [] [] (.agg (c10 (cnt2 f s m))) []], none)]] [] [
      Contract Try.prog (51 : Nat) [I (Sp.dur s)] [] (I (ofR (Sp.dur s))) [],
      ofR (Sp.dur s) = (1 : Int),
      Sp.err s = true,
      Contract Try.prog (14 : Nat) [V.agg [I (f (0 : Nat)), I (f (1 : Nat)), I (f (2 : Nat)), I (f (3 : Nat)), I (f (4 : Nat)), I (f (5 : Nat)), I (f (6 : Nat)), I (f (7 : Nat)), I (f (8 : Nat)), I (f (9 : Nat))], V.agg [I (1 : Int), I (1 : Int), I (0 : Int), I (1 : Int), I (0 : Int), I (0 : Int), I (0 : Int), I (0 : Int), I (0 : Int), I (0 : Int)], I m] [] (V.agg [I (cnt2 f s m (0 : Nat)), I (cnt2 f s m (1 : Nat)), I (cnt2 f s m (2 : Nat)), I (cnt2 f s m (3 : Nat)), I (cnt2 f s m (4 : Nat)), I (cnt2 f s m (5 : Nat)), I (cnt2 f s m (6 : Nat)), I (cnt2 f s m (7 : Nat)), I (cnt2 f s m (8 : Nat)), I (cnt2 f s m (9 : Nat))]) []] (by kernel_rfl)
    (by
      have d0 := tq0
      try simp only [Int.ofNat_eq_natCast, List.length_map, Bool.not_eq_true', Bool.not_eq_false', decide_eq_true_eq, decide_eq_false_iff_not] at d0
      simp only [allP]
      and_intros <;> first
        | omega
        | exact cOfR _
        | (have e : cnt2 f s m = sumF f (oneF 1 true) m := (by unfold cnt2; rw [hk, d0]); rw [e]; exact cJoin f (oneF 1 true) m))

theorem addc1_1 (f : Nat → Int) (s : Sp) (m : Int) (hk : ofR s.dur = 1) (tq0 : (Sp.err s) = false) : Contract Try.prog 34 [.agg (c10 f), s.v, I m] [] (V.agg [I (cnt2 f s m (0 : Nat)), I (cnt2 f s m (1 : Nat)), I (cnt2 f s m (2 : Nat)), I (cnt2 f s m (3 : Nat)), I (cnt2 f s m (4 : Nat)), I (cnt2 f s m (5 : Nat)), I (cnt2 f s m (6 : Nat)), I (cnt2 f s m (7 : Nat)), I (cnt2 f s m (8 : Nat)), I (cnt2 f s m (9 : Nat))]) ([]) :=
  vcP hmix [.reg 2 [(2, [.call [] [] (I (ofR s.dur)) []], none), (4, [.idx 1], none)], .reg 3 [(1, [], some false)], .reg 5 [(3, [.call [] [] (.agg (c10 (cnt2 f s m))) []], none)]] [] [
      Contract Try.prog (51 : Nat) [I (Sp.dur s)] [] (I (ofR (Sp.dur s))) [],
      ofR (Sp.dur s) = (1 : Int),
      Sp.err s = false,
      Contract Try.prog (14 : Nat) [V.agg [I (f (0 : Nat)), I (f (1 : Nat)), I (f (2 : Nat)), I (f (3 : Nat)), I (f (4 : Nat)), I (f (5 : Nat)), I (f (6 : Nat)), I (f (7 : Nat)), I (f (8 : Nat)), I (f (9 : Nat))], V.agg [I (1 : Int), I (0 : Int), I (0 : Int), I (1 : Int), I (0 : Int), I (0 : Int), I (0 : Int), I (0 : Int), I (0 : Int), I (0 : Int)], I m] [] (V.agg [I (cnt2 f s m (0 : Nat)), I (cnt2 f s m (1 : Nat)), I (cnt2 f s m (2 : Nat)), I (cnt2 f s m (3 : Nat)), I (cnt2 f s m (4 : Nat)), I (cnt2 f s m (5 : Nat)), I (cnt2 f s m (6 : Nat)), I (cnt2 f s m (7 : Nat)), I (cnt2 f s m (8 : Nat)), I (cnt2 f s m (9 : Nat))]) []] (by kernel_rfl)
    (by
      have d0 := tq0
      try simp only [Int.ofNat_eq_natCast, List.length_map, Bool.not_eq_true', Bool.not_eq_false', decide_eq_true_eq, decide_eq_false_iff_not] at d0
      simp only [allP]
      and_intros <;> first
        | omega
        | exact cOfR _
        | (have e : cnt2 f s m = sumF f (oneF 1 false) m := (by unfold cnt2; rw [hk, d0]); rw [e]; exact cJoin f (oneF 1 false) m))

theorem addc1 (f : Nat → Int) (s : Sp) (m : Int) (hk : ofR s.dur = 1) : Contract Try.prog 34 [.agg (c10 f), s.v, I m] [] (.agg (c10 (cnt2 f s m))) [] := by
  rcases tf (Sp.err s) with tq0 | tq0
  · exact Contract.cast (by
      first
        | rfl) (by
      first
        | rfl) (addc1_0 f s m hk tq0)
  · exact Contract.cast (by
      first
        | rfl) (by
      first
        | rfl) (addc1_1 f s m hk tq0)

theorem addc2_0 (f : Nat → Int) (s : Sp) (m : Int) (hk : ofR s.dur = 2) (tq0 : (Sp.err s) = true) : Contract Try.prog 34 [.agg (c10 f), s.v, I m] [] (V.agg [I (cnt2 f s m (0 : Nat)), I (cnt2 f s m (1 : Nat)), I (cnt2 f s m (2 : Nat)), I (cnt2 f s m (3 : Nat)), I (cnt2 f s m (4 : Nat)), I (cnt2 f s m (5 : Nat)), I (cnt2 f s m (6 : Nat)), I (cnt2 f s m (7 : Nat)), I (cnt2 f s m (8 : Nat)), I (cnt2 f s m (9 : Nat))]) ([]) :=
  vcP hmix [.reg 2 [(2, [.call [] [] (I (ofR s.dur)) []], none), (4, [.idx 2], none)], .reg 3 [(1, [], some true)], .reg 5 [(3, [.call [] [] (.agg (c10 (cnt2 f s m))) []], none)]] [] [
      Contract Try.prog (51 : Nat) [I (Sp.dur s)] [] (I (ofR (Sp.dur s))) [],
      ofR (Sp.dur s) = (2 : Int),
      Sp.err s = true,
      Contract Try.prog (14 : Nat) [V.agg [I (f (0 : Nat)), I (f (1 : Nat)), I (f (2 : Nat)), I (f (3 : Nat)), I (f (4 : Nat)), I (f (5 : Nat)), I (f (6 : Nat)), I (f (7 : Nat)), I (f (8 : Nat)), I (f (9 : Nat))], V.agg [I (1 : Int), I (1 : Int), I (0 : Int), I (0 : Int), I (1 : Int), I (0 : Int), I (0 : Int), I (0 : Int), I (0 : Int), I (0 : Int)], I m] [] (V.agg [I (cnt2 f s m (0 : Nat)), I (cnt2 f s m (1 : Nat)), I (cnt2 f s m (2 : Nat)), I (cnt2 f s m (3 : Nat)), I (cnt2 f s m (4 : Nat)), I (cnt2 f s m (5 : Nat)), I (cnt2 f s m (6 : Nat)), I (cnt2 f s m (7 : Nat)), I (cnt2 f s m (8 : Nat)), I (cnt2 f s m (9 : Nat))]) []] (by kernel_rfl)
    (by
      have d0 := tq0
      try simp only [Int.ofNat_eq_natCast, List.length_map, Bool.not_eq_true', Bool.not_eq_false', decide_eq_true_eq, decide_eq_false_iff_not] at d0
      simp only [allP]
      and_intros <;> first
        | omega
        | exact cOfR _
        | (have e : cnt2 f s m = sumF f (oneF 2 true) m := (by unfold cnt2; rw [hk, d0]); rw [e]; exact cJoin f (oneF 2 true) m))

theorem addc2_1 (f : Nat → Int) (s : Sp) (m : Int) (hk : ofR s.dur = 2) (tq0 : (Sp.err s) = false) : Contract Try.prog 34 [.agg (c10 f), s.v, I m] [] (V.agg [I (cnt2 f s m (0 : Nat)), I (cnt2 f s m (1 : Nat)), I (cnt2 f s m (2 : Nat)), I (cnt2 f s m (3 : Nat)), I (cnt2 f s m (4 : Nat)), I (cnt2 f s m (5 : Nat)), I (cnt2 f s m (6 : Nat)), I (cnt2 f s m (7 : Nat)), I (cnt2 f s m (8 : Nat)), I (cnt2 f s m (9 : Nat))]) ([]) :=
  vcP hmix [.reg 2 [(2, [.call [] [] (I (ofR s.dur)) []], none), (4, [.idx 2], none)], .reg 3 [(1, [], some false)], .reg 5 [(3, [.call [] [] (.agg (c10 (cnt2 f s m))) []], none)]] [] [
      Contract Try.prog (51 : Nat) [I (Sp.dur s)] [] (I (ofR (Sp.dur s))) [],
      ofR (Sp.dur s) = (2 : Int),
      Sp.err s = false,
      Contract Try.prog (14 : Nat) [V.agg [I (f (0 : Nat)), I (f (1 : Nat)), I (f (2 : Nat)), I (f (3 : Nat)), I (f (4 : Nat)), I (f (5 : Nat)), I (f (6 : Nat)), I (f (7 : Nat)), I (f (8 : Nat)), I (f (9 : Nat))], V.agg [I (1 : Int), I (0 : Int), I (0 : Int), I (0 : Int), I (1 : Int), I (0 : Int), I (0 : Int), I (0 : Int), I (0 : Int), I (0 : Int)], I m] [] (V.agg [I (cnt2 f s m (0 : Nat)), I (cnt2 f s m (1 : Nat)), I (cnt2 f s m (2 : Nat)), I (cnt2 f s m (3 : Nat)), I (cnt2 f s m (4 : Nat)), I (cnt2 f s m (5 : Nat)), I (cnt2 f s m (6 : Nat)), I (cnt2 f s m (7 : Nat)), I (cnt2 f s m (8 : Nat)), I (cnt2 f s m (9 : Nat))]) []] (by kernel_rfl)
    (by
      have d0 := tq0
      try simp only [Int.ofNat_eq_natCast, List.length_map, Bool.not_eq_true', Bool.not_eq_false', decide_eq_true_eq, decide_eq_false_iff_not] at d0
      simp only [allP]
      and_intros <;> first
        | omega
        | exact cOfR _
        | (have e : cnt2 f s m = sumF f (oneF 2 false) m := (by unfold cnt2; rw [hk, d0]); rw [e]; exact cJoin f (oneF 2 false) m))

theorem addc2 (f : Nat → Int) (s : Sp) (m : Int) (hk : ofR s.dur = 2) : Contract Try.prog 34 [.agg (c10 f), s.v, I m] [] (.agg (c10 (cnt2 f s m))) [] := by
  rcases tf (Sp.err s) with tq0 | tq0
  · exact Contract.cast (by
      first
        | rfl) (by
      first
        | rfl) (addc2_0 f s m hk tq0)
  · exact Contract.cast (by
      first
        | rfl) (by
      first
        | rfl) (addc2_1 f s m hk tq0)

theorem addc3_0 (f : Nat → Int) (s : Sp) (m : Int) (hk : ofR s.dur = 3) (tq0 : (Sp.err s) = true) : Contract Try.prog 34 [.agg (c10 f), s.v, I m] [] (V.agg [I (cnt2 f s m (0 : Nat)), I (cnt2 f s m (1 : Nat)), I (cnt2 f s m (2 : Nat)), I (cnt2 f s m (3 : Nat)), I (cnt2 f s m (4 : Nat)), I (cnt2 f s m (5 : Nat)), I (cnt2 f s m (6 : Nat)), I (cnt2 f s m (7 : Nat)), I (cnt2 f s m (8 : Nat)), I (cnt2 f s m (9 : Nat))]) ([]) :=
  vcP hmix [.reg 2 [(2, [.call [] [] (I (ofR s.dur)) []], none), (4, [.idx 3], none)], .reg 3 [(1, [], some true)], .reg 5 [(3, [.call [] [] (.agg (c10 (cnt2 f s m))) []], none)]] [] [
      Contract Try.prog (51 : Nat) [I (Sp.dur s)] [] (I (ofR (Sp.dur s))) [],
      ofR (Sp.dur s) = (3 : Int),
      Sp.err s = true,
      Contract Try.prog (14 : Nat) [V.agg [I (f (0 : Nat)), I (f (1 : Nat)), I (f (2 : Nat)), I (f (3 : Nat)), I (f (4 : Nat)), I (f (5 : Nat)), I (f (6 : Nat)), I (f (7 : Nat)), I (f (8 : Nat)), I (f (9 : Nat))], V.agg [I (1 : Int), I (1 : Int), I (0 : Int), I (0 : Int), I (0 : Int), I (1 : Int), I (0 : Int), I (0 : Int), I (0 : Int), I (0 : Int)], I m] [] (V.agg [I (cnt2 f s m (0 : Nat)), I (cnt2 f s m (1 : Nat)), I (cnt2 f s m (2 : Nat)), I (cnt2 f s m (3 : Nat)), I (cnt2 f s m (4 : Nat)), I (cnt2 f s m (5 : Nat)), I (cnt2 f s m (6 : Nat)), I (cnt2 f s m (7 : Nat)), I (cnt2 f s m (8 : Nat)), I (cnt2 f s m (9 : Nat))]) []] (by kernel_rfl)
    (by
      have d0 := tq0
      try simp only [Int.ofNat_eq_natCast, List.length_map, Bool.not_eq_true', Bool.not_eq_false', decide_eq_true_eq, decide_eq_false_iff_not] at d0
      simp only [allP]
      and_intros <;> first
        | omega
        | exact cOfR _
        | (have e : cnt2 f s m = sumF f (oneF 3 true) m := (by unfold cnt2; rw [hk, d0]); rw [e]; exact cJoin f (oneF 3 true) m))

theorem addc3_1 (f : Nat → Int) (s : Sp) (m : Int) (hk : ofR s.dur = 3) (tq0 : (Sp.err s) = false) : Contract Try.prog 34 [.agg (c10 f), s.v, I m] [] (V.agg [I (cnt2 f s m (0 : Nat)), I (cnt2 f s m (1 : Nat)), I (cnt2 f s m (2 : Nat)), I (cnt2 f s m (3 : Nat)), I (cnt2 f s m (4 : Nat)), I (cnt2 f s m (5 : Nat)), I (cnt2 f s m (6 : Nat)), I (cnt2 f s m (7 : Nat)), I (cnt2 f s m (8 : Nat)), I (cnt2 f s m (9 : Nat))]) ([]) :=
  vcP hmix [.reg 2 [(2, [.call [] [] (I (ofR s.dur)) []], none), (4, [.idx 3], none)], .reg 3 [(1, [], some false)], .reg 5 [(3, [.call [] [] (.agg (c10 (cnt2 f s m))) []], none)]] [] [
      Contract Try.prog (51 : Nat) [I (Sp.dur s)] [] (I (ofR (Sp.dur s))) [],
      ofR (Sp.dur s) = (3 : Int),
      Sp.err s = false,
      Contract Try.prog (14 : Nat) [V.agg [I (f (0 : Nat)), I (f (1 : Nat)), I (f (2 : Nat)), I (f (3 : Nat)), I (f (4 : Nat)), I (f (5 : Nat)), I (f (6 : Nat)), I (f (7 : Nat)), I (f (8 : Nat)), I (f (9 : Nat))], V.agg [I (1 : Int), I (0 : Int), I (0 : Int), I (0 : Int), I (0 : Int), I (1 : Int), I (0 : Int), I (0 : Int), I (0 : Int), I (0 : Int)], I m] [] (V.agg [I (cnt2 f s m (0 : Nat)), I (cnt2 f s m (1 : Nat)), I (cnt2 f s m (2 : Nat)), I (cnt2 f s m (3 : Nat)), I (cnt2 f s m (4 : Nat)), I (cnt2 f s m (5 : Nat)), I (cnt2 f s m (6 : Nat)), I (cnt2 f s m (7 : Nat)), I (cnt2 f s m (8 : Nat)), I (cnt2 f s m (9 : Nat))]) []] (by kernel_rfl)
    (by
      have d0 := tq0
      try simp only [Int.ofNat_eq_natCast, List.length_map, Bool.not_eq_true', Bool.not_eq_false', decide_eq_true_eq, decide_eq_false_iff_not] at d0
      simp only [allP]
      and_intros <;> first
        | omega
        | exact cOfR _
        | (have e : cnt2 f s m = sumF f (oneF 3 false) m := (by unfold cnt2; rw [hk, d0]); rw [e]; exact cJoin f (oneF 3 false) m))

theorem addc3 (f : Nat → Int) (s : Sp) (m : Int) (hk : ofR s.dur = 3) : Contract Try.prog 34 [.agg (c10 f), s.v, I m] [] (.agg (c10 (cnt2 f s m))) [] := by
  rcases tf (Sp.err s) with tq0 | tq0
  · exact Contract.cast (by
      first
        | rfl) (by
      first
        | rfl) (addc3_0 f s m hk tq0)
  · exact Contract.cast (by
      first
        | rfl) (by
      first
        | rfl) (addc3_1 f s m hk tq0)

theorem addc4_0 (f : Nat → Int) (s : Sp) (m : Int) (hk : ofR s.dur = 4) (tq0 : (Sp.err s) = true) : Contract Try.prog 34 [.agg (c10 f), s.v, I m] [] (V.agg [I (cnt2 f s m (0 : Nat)), I (cnt2 f s m (1 : Nat)), I (cnt2 f s m (2 : Nat)), I (cnt2 f s m (3 : Nat)), I (cnt2 f s m (4 : Nat)), I (cnt2 f s m (5 : Nat)), I (cnt2 f s m (6 : Nat)), I (cnt2 f s m (7 : Nat)), I (cnt2 f s m (8 : Nat)), I (cnt2 f s m (9 : Nat))]) ([]) :=
  vcP hmix [.reg 2 [(2, [.call [] [] (I (ofR s.dur)) []], none), (4, [.idx 4], none)], .reg 3 [(1, [], some true)], .reg 5 [(3, [.call [] [] (.agg (c10 (cnt2 f s m))) []], none)]] [] [
      Contract Try.prog (51 : Nat) [I (Sp.dur s)] [] (I (ofR (Sp.dur s))) [],
      ofR (Sp.dur s) = (4 : Int),
      Sp.err s = true,
      Contract Try.prog (14 : Nat) [V.agg [I (f (0 : Nat)), I (f (1 : Nat)), I (f (2 : Nat)), I (f (3 : Nat)), I (f (4 : Nat)), I (f (5 : Nat)), I (f (6 : Nat)), I (f (7 : Nat)), I (f (8 : Nat)), I (f (9 : Nat))], V.agg [I (1 : Int), I (1 : Int), I (0 : Int), I (0 : Int), I (0 : Int), I (0 : Int), I (1 : Int), I (0 : Int), I (0 : Int), I (0 : Int)], I m] [] (V.agg [I (cnt2 f s m (0 : Nat)), I (cnt2 f s m (1 : Nat)), I (cnt2 f s m (2 : Nat)), I (cnt2 f s m (3 : Nat)), I (cnt2 f s m (4 : Nat)), I (cnt2 f s m (5 : Nat)), I (cnt2 f s m (6 : Nat)), I (cnt2 f s m (7 : Nat)), I (cnt2 f s m (8 : Nat)), I (cnt2 f s m (9 : Nat))]) []] (by kernel_rfl)
    (by
      have d0 := tq0
      try simp only [Int.ofNat_eq_natCast, List.length_map, Bool.not_eq_true', Bool.not_eq_false', decide_eq_true_eq, decide_eq_false_iff_not] at d0
      simp only [allP]
      and_intros <;> first
        | omega
        | exact cOfR _
        | (have e : cnt2 f s m = sumF f (oneF 4 true) m := (by unfold cnt2; rw [hk, d0]); rw [e]; exact cJoin f (oneF 4 true) m))

theorem addc4_1 (f : Nat → Int) (s : Sp) (m : Int) (hk : ofR s.dur = 4) (tq0 : (Sp.err s) = false) : Contract Try.prog 34 [.agg (c10 f), s.v, I m] [] (V.agg [I (cnt2 f s m (0 : Nat)), I (cnt2 f s m (1 : Nat)), I (cnt2 f s m (2 : Nat)), I (cnt2 f s m (3 : Nat)), I (cnt2 f s m (4 : Nat)), I (cnt2 f s m (5 : Nat)), I (cnt2 f s m (6 : Nat)), I (cnt2 f s m (7 : Nat)), I (cnt2 f s m (8 : Nat)), I (cnt2 f s m (9 : Nat))]) ([]) :=
  vcP hmix [.reg 2 [(2, [.call [] [] (I (ofR s.dur)) []], none), (4, [.idx 4], none)], .reg 3 [(1, [], some false)], .reg 5 [(3, [.call [] [] (.agg (c10 (cnt2 f s m))) []], none)]] [] [
      Contract Try.prog (51 : Nat) [I (Sp.dur s)] [] (I (ofR (Sp.dur s))) [],
      ofR (Sp.dur s) = (4 : Int),
      Sp.err s = false,
      Contract Try.prog (14 : Nat) [V.agg [I (f (0 : Nat)), I (f (1 : Nat)), I (f (2 : Nat)), I (f (3 : Nat)), I (f (4 : Nat)), I (f (5 : Nat)), I (f (6 : Nat)), I (f (7 : Nat)), I (f (8 : Nat)), I (f (9 : Nat))], V.agg [I (1 : Int), I (0 : Int), I (0 : Int), I (0 : Int), I (0 : Int), I (0 : Int), I (1 : Int), I (0 : Int), I (0 : Int), I (0 : Int)], I m] [] (V.agg [I (cnt2 f s m (0 : Nat)), I (cnt2 f s m (1 : Nat)), I (cnt2 f s m (2 : Nat)), I (cnt2 f s m (3 : Nat)), I (cnt2 f s m (4 : Nat)), I (cnt2 f s m (5 : Nat)), I (cnt2 f s m (6 : Nat)), I (cnt2 f s m (7 : Nat)), I (cnt2 f s m (8 : Nat)), I (cnt2 f s m (9 : Nat))]) []] (by kernel_rfl)
    (by
      have d0 := tq0
      try simp only [Int.ofNat_eq_natCast, List.length_map, Bool.not_eq_true', Bool.not_eq_false', decide_eq_true_eq, decide_eq_false_iff_not] at d0
      simp only [allP]
      and_intros <;> first
        | omega
        | exact cOfR _
        | (have e : cnt2 f s m = sumF f (oneF 4 false) m := (by unfold cnt2; rw [hk, d0]); rw [e]; exact cJoin f (oneF 4 false) m))

theorem addc4 (f : Nat → Int) (s : Sp) (m : Int) (hk : ofR s.dur = 4) : Contract Try.prog 34 [.agg (c10 f), s.v, I m] [] (.agg (c10 (cnt2 f s m))) [] := by
  rcases tf (Sp.err s) with tq0 | tq0
  · exact Contract.cast (by
      first
        | rfl) (by
      first
        | rfl) (addc4_0 f s m hk tq0)
  · exact Contract.cast (by
      first
        | rfl) (by
      first
        | rfl) (addc4_1 f s m hk tq0)

theorem addc5_0 (f : Nat → Int) (s : Sp) (m : Int) (hk : ofR s.dur = 5) (tq0 : (Sp.err s) = true) : Contract Try.prog 34 [.agg (c10 f), s.v, I m] [] (V.agg [I (cnt2 f s m (0 : Nat)), I (cnt2 f s m (1 : Nat)), I (cnt2 f s m (2 : Nat)), I (cnt2 f s m (3 : Nat)), I (cnt2 f s m (4 : Nat)), I (cnt2 f s m (5 : Nat)), I (cnt2 f s m (6 : Nat)), I (cnt2 f s m (7 : Nat)), I (cnt2 f s m (8 : Nat)), I (cnt2 f s m (9 : Nat))]) ([]) :=
  vcP hmix [.reg 2 [(2, [.call [] [] (I (ofR s.dur)) []], none), (4, [.idx 5], none)], .reg 3 [(1, [], some true)], .reg 5 [(3, [.call [] [] (.agg (c10 (cnt2 f s m))) []], none)]] [] [
      Contract Try.prog (51 : Nat) [I (Sp.dur s)] [] (I (ofR (Sp.dur s))) [],
      ofR (Sp.dur s) = (5 : Int),
      Sp.err s = true,
      Contract Try.prog (14 : Nat) [V.agg [I (f (0 : Nat)), I (f (1 : Nat)), I (f (2 : Nat)), I (f (3 : Nat)), I (f (4 : Nat)), I (f (5 : Nat)), I (f (6 : Nat)), I (f (7 : Nat)), I (f (8 : Nat)), I (f (9 : Nat))], V.agg [I (1 : Int), I (1 : Int), I (0 : Int), I (0 : Int), I (0 : Int), I (0 : Int), I (0 : Int), I (1 : Int), I (0 : Int), I (0 : Int)], I m] [] (V.agg [I (cnt2 f s m (0 : Nat)), I (cnt2 f s m (1 : Nat)), I (cnt2 f s m (2 : Nat)), I (cnt2 f s m (3 : Nat)), I (cnt2 f s m (4 : Nat)), I (cnt2 f s m (5 : Nat)), I (cnt2 f s m (6 : Nat)), I (cnt2 f s m (7 : Nat)), I (cnt2 f s m (8 : Nat)), I (cnt2 f s m (9 : Nat))]) []] (by kernel_rfl)
    (by
      have d0 := tq0
      try simp only [Int.ofNat_eq_natCast, List.length_map, Bool.not_eq_true', Bool.not_eq_false', decide_eq_true_eq, decide_eq_false_iff_not] at d0
      simp only [allP]
      and_intros <;> first
        | omega
        | exact cOfR _
        | (have e : cnt2 f s m = sumF f (oneF 5 true) m := (by unfold cnt2; rw [hk, d0]); rw [e]; exact cJoin f (oneF 5 true) m))

theorem addc5_1 (f : Nat → Int) (s : Sp) (m : Int) (hk : ofR s.dur = 5) (tq0 : (Sp.err s) = false) : Contract Try.prog 34 [.agg (c10 f), s.v, I m] [] (V.agg [I (cnt2 f s m (0 : Nat)), I (cnt2 f s m (1 : Nat)), I (cnt2 f s m (2 : Nat)), I (cnt2 f s m (3 : Nat)), I (cnt2 f s m (4 : Nat)), I (cnt2 f s m (5 : Nat)), I (cnt2 f s m (6 : Nat)), I (cnt2 f s m (7 : Nat)), I (cnt2 f s m (8 : Nat)), I (cnt2 f s m (9 : Nat))]) ([]) :=
  vcP hmix [.reg 2 [(2, [.call [] [] (I (ofR s.dur)) []], none), (4, [.idx 5], none)], .reg 3 [(1, [], some false)], .reg 5 [(3, [.call [] [] (.agg (c10 (cnt2 f s m))) []], none)]] [] [
      Contract Try.prog (51 : Nat) [I (Sp.dur s)] [] (I (ofR (Sp.dur s))) [],
      ofR (Sp.dur s) = (5 : Int),
      Sp.err s = false,
      Contract Try.prog (14 : Nat) [V.agg [I (f (0 : Nat)), I (f (1 : Nat)), I (f (2 : Nat)), I (f (3 : Nat)), I (f (4 : Nat)), I (f (5 : Nat)), I (f (6 : Nat)), I (f (7 : Nat)), I (f (8 : Nat)), I (f (9 : Nat))], V.agg [I (1 : Int), I (0 : Int), I (0 : Int), I (0 : Int), I (0 : Int), I (0 : Int), I (0 : Int), I (1 : Int), I (0 : Int), I (0 : Int)], I m] [] (V.agg [I (cnt2 f s m (0 : Nat)), I (cnt2 f s m (1 : Nat)), I (cnt2 f s m (2 : Nat)), I (cnt2 f s m (3 : Nat)), I (cnt2 f s m (4 : Nat)), I (cnt2 f s m (5 : Nat)), I (cnt2 f s m (6 : Nat)), I (cnt2 f s m (7 : Nat)), I (cnt2 f s m (8 : Nat)), I (cnt2 f s m (9 : Nat))]) []] (by kernel_rfl)
    (by
      have d0 := tq0
      try simp only [Int.ofNat_eq_natCast, List.length_map, Bool.not_eq_true', Bool.not_eq_false', decide_eq_true_eq, decide_eq_false_iff_not] at d0
      simp only [allP]
      and_intros <;> first
        | omega
        | exact cOfR _
        | (have e : cnt2 f s m = sumF f (oneF 5 false) m := (by unfold cnt2; rw [hk, d0]); rw [e]; exact cJoin f (oneF 5 false) m))

theorem addc5 (f : Nat → Int) (s : Sp) (m : Int) (hk : ofR s.dur = 5) : Contract Try.prog 34 [.agg (c10 f), s.v, I m] [] (.agg (c10 (cnt2 f s m))) [] := by
  rcases tf (Sp.err s) with tq0 | tq0
  · exact Contract.cast (by
      first
        | rfl) (by
      first
        | rfl) (addc5_0 f s m hk tq0)
  · exact Contract.cast (by
      first
        | rfl) (by
      first
        | rfl) (addc5_1 f s m hk tq0)

theorem addc6_0 (f : Nat → Int) (s : Sp) (m : Int) (hk : ofR s.dur = 6) (tq0 : (Sp.err s) = true) : Contract Try.prog 34 [.agg (c10 f), s.v, I m] [] (V.agg [I (cnt2 f s m (0 : Nat)), I (cnt2 f s m (1 : Nat)), I (cnt2 f s m (2 : Nat)), I (cnt2 f s m (3 : Nat)), I (cnt2 f s m (4 : Nat)), I (cnt2 f s m (5 : Nat)), I (cnt2 f s m (6 : Nat)), I (cnt2 f s m (7 : Nat)), I (cnt2 f s m (8 : Nat)), I (cnt2 f s m (9 : Nat))]) ([]) :=
  vcP hmix [.reg 2 [(2, [.call [] [] (I (ofR s.dur)) []], none), (4, [.idx 6], none)], .reg 3 [(1, [], some true)], .reg 5 [(3, [.call [] [] (.agg (c10 (cnt2 f s m))) []], none)]] [] [
      Contract Try.prog (51 : Nat) [I (Sp.dur s)] [] (I (ofR (Sp.dur s))) [],
      ofR (Sp.dur s) = (6 : Int),
      Sp.err s = true,
      Contract Try.prog (14 : Nat) [V.agg [I (f (0 : Nat)), I (f (1 : Nat)), I (f (2 : Nat)), I (f (3 : Nat)), I (f (4 : Nat)), I (f (5 : Nat)), I (f (6 : Nat)), I (f (7 : Nat)), I (f (8 : Nat)), I (f (9 : Nat))], V.agg [I (1 : Int), I (1 : Int), I (0 : Int), I (0 : Int), I (0 : Int), I (0 : Int), I (0 : Int), I (0 : Int), I (1 : Int), I (0 : Int)], I m] [] (V.agg [I (cnt2 f s m (0 : Nat)), I (cnt2 f s m (1 : Nat)), I (cnt2 f s m (2 : Nat)), I (cnt2 f s m (3 : Nat)), I (cnt2 f s m (4 : Nat)), I (cnt2 f s m (5 : Nat)), I (cnt2 f s m (6 : Nat)), I (cnt2 f s m (7 : Nat)), I (cnt2 f s m (8 : Nat)), I (cnt2 f s m (9 : Nat))]) []] (by kernel_rfl)
    (by
      have d0 := tq0
      try simp only [Int.ofNat_eq_natCast, List.length_map, Bool.not_eq_true', Bool.not_eq_false', decide_eq_true_eq, decide_eq_false_iff_not] at d0
      simp only [allP]
      and_intros <;> first
        | omega
        | exact cOfR _
        | (have e : cnt2 f s m = sumF f (oneF 6 true) m := (by unfold cnt2; rw [hk, d0]); rw [e]; exact cJoin f (oneF 6 true) m))

theorem addc6_1 (f : Nat → Int) (s : Sp) (m : Int) (hk : ofR s.dur = 6) (tq0 : (Sp.err s) = false) : Contract Try.prog 34 [.agg (c10 f), s.v, I m] [] (V.agg [I (cnt2 f s m (0 : Nat)), I (cnt2 f s m (1 : Nat)), I (cnt2 f s m (2 : Nat)), I (cnt2 f s m (3 : Nat)), I (cnt2 f s m (4 : Nat)), I (cnt2 f s m (5 : Nat)), I (cnt2 f s m (6 : Nat)), I (cnt2 f s m (7 : Nat)), I (cnt2 f s m (8 : Nat)), I (cnt2 f s m (9 : Nat))]) ([]) :=
  vcP hmix [.reg 2 [(2, [.call [] [] (I (ofR s.dur)) []], none), (4, [.idx 6], none)], .reg 3 [(1, [], some false)], .reg 5 [(3, [.call [] [] (.agg (c10 (cnt2 f s m))) []], none)]] [] [
      Contract Try.prog (51 : Nat) [I (Sp.dur s)] [] (I (ofR (Sp.dur s))) [],
      ofR (Sp.dur s) = (6 : Int),
      Sp.err s = false,
      Contract Try.prog (14 : Nat) [V.agg [I (f (0 : Nat)), I (f (1 : Nat)), I (f (2 : Nat)), I (f (3 : Nat)), I (f (4 : Nat)), I (f (5 : Nat)), I (f (6 : Nat)), I (f (7 : Nat)), I (f (8 : Nat)), I (f (9 : Nat))], V.agg [I (1 : Int), I (0 : Int), I (0 : Int), I (0 : Int), I (0 : Int), I (0 : Int), I (0 : Int), I (0 : Int), I (1 : Int), I (0 : Int)], I m] [] (V.agg [I (cnt2 f s m (0 : Nat)), I (cnt2 f s m (1 : Nat)), I (cnt2 f s m (2 : Nat)), I (cnt2 f s m (3 : Nat)), I (cnt2 f s m (4 : Nat)), I (cnt2 f s m (5 : Nat)), I (cnt2 f s m (6 : Nat)), I (cnt2 f s m (7 : Nat)), I (cnt2 f s m (8 : Nat)), I (cnt2 f s m (9 : Nat))]) []] (by kernel_rfl)
    (by
      have d0 := tq0
      try simp only [Int.ofNat_eq_natCast, List.length_map, Bool.not_eq_true', Bool.not_eq_false', decide_eq_true_eq, decide_eq_false_iff_not] at d0
      simp only [allP]
      and_intros <;> first
        | omega
        | exact cOfR _
        | (have e : cnt2 f s m = sumF f (oneF 6 false) m := (by unfold cnt2; rw [hk, d0]); rw [e]; exact cJoin f (oneF 6 false) m))

theorem addc6 (f : Nat → Int) (s : Sp) (m : Int) (hk : ofR s.dur = 6) : Contract Try.prog 34 [.agg (c10 f), s.v, I m] [] (.agg (c10 (cnt2 f s m))) [] := by
  rcases tf (Sp.err s) with tq0 | tq0
  · exact Contract.cast (by
      first
        | rfl) (by
      first
        | rfl) (addc6_0 f s m hk tq0)
  · exact Contract.cast (by
      first
        | rfl) (by
      first
        | rfl) (addc6_1 f s m hk tq0)

theorem addc7_0 (f : Nat → Int) (s : Sp) (m : Int) (hk : ofR s.dur = 7) (tq0 : (Sp.err s) = true) : Contract Try.prog 34 [.agg (c10 f), s.v, I m] [] (V.agg [I (cnt2 f s m (0 : Nat)), I (cnt2 f s m (1 : Nat)), I (cnt2 f s m (2 : Nat)), I (cnt2 f s m (3 : Nat)), I (cnt2 f s m (4 : Nat)), I (cnt2 f s m (5 : Nat)), I (cnt2 f s m (6 : Nat)), I (cnt2 f s m (7 : Nat)), I (cnt2 f s m (8 : Nat)), I (cnt2 f s m (9 : Nat))]) ([]) :=
  vcP hmix [.reg 2 [(2, [.call [] [] (I (ofR s.dur)) []], none), (4, [.idx 7], none)], .reg 3 [(1, [], some true)], .reg 5 [(3, [.call [] [] (.agg (c10 (cnt2 f s m))) []], none)]] [] [
      Contract Try.prog (51 : Nat) [I (Sp.dur s)] [] (I (ofR (Sp.dur s))) [],
      ofR (Sp.dur s) = (7 : Int),
      Sp.err s = true,
      Contract Try.prog (14 : Nat) [V.agg [I (f (0 : Nat)), I (f (1 : Nat)), I (f (2 : Nat)), I (f (3 : Nat)), I (f (4 : Nat)), I (f (5 : Nat)), I (f (6 : Nat)), I (f (7 : Nat)), I (f (8 : Nat)), I (f (9 : Nat))], V.agg [I (1 : Int), I (1 : Int), I (0 : Int), I (0 : Int), I (0 : Int), I (0 : Int), I (0 : Int), I (0 : Int), I (0 : Int), I (1 : Int)], I m] [] (V.agg [I (cnt2 f s m (0 : Nat)), I (cnt2 f s m (1 : Nat)), I (cnt2 f s m (2 : Nat)), I (cnt2 f s m (3 : Nat)), I (cnt2 f s m (4 : Nat)), I (cnt2 f s m (5 : Nat)), I (cnt2 f s m (6 : Nat)), I (cnt2 f s m (7 : Nat)), I (cnt2 f s m (8 : Nat)), I (cnt2 f s m (9 : Nat))]) []] (by kernel_rfl)
    (by
      have d0 := tq0
      try simp only [Int.ofNat_eq_natCast, List.length_map, Bool.not_eq_true', Bool.not_eq_false', decide_eq_true_eq, decide_eq_false_iff_not] at d0
      simp only [allP]
      and_intros <;> first
        | omega
        | exact cOfR _
        | (have e : cnt2 f s m = sumF f (oneF 7 true) m := (by unfold cnt2; rw [hk, d0]); rw [e]; exact cJoin f (oneF 7 true) m))

theorem addc7_1 (f : Nat → Int) (s : Sp) (m : Int) (hk : ofR s.dur = 7) (tq0 : (Sp.err s) = false) : Contract Try.prog 34 [.agg (c10 f), s.v, I m] [] (V.agg [I (cnt2 f s m (0 : Nat)), I (cnt2 f s m (1 : Nat)), I (cnt2 f s m (2 : Nat)), I (cnt2 f s m (3 : Nat)), I (cnt2 f s m (4 : Nat)), I (cnt2 f s m (5 : Nat)), I (cnt2 f s m (6 : Nat)), I (cnt2 f s m (7 : Nat)), I (cnt2 f s m (8 : Nat)), I (cnt2 f s m (9 : Nat))]) ([]) :=
  vcP hmix [.reg 2 [(2, [.call [] [] (I (ofR s.dur)) []], none), (4, [.idx 7], none)], .reg 3 [(1, [], some false)], .reg 5 [(3, [.call [] [] (.agg (c10 (cnt2 f s m))) []], none)]] [] [
      Contract Try.prog (51 : Nat) [I (Sp.dur s)] [] (I (ofR (Sp.dur s))) [],
      ofR (Sp.dur s) = (7 : Int),
      Sp.err s = false,
      Contract Try.prog (14 : Nat) [V.agg [I (f (0 : Nat)), I (f (1 : Nat)), I (f (2 : Nat)), I (f (3 : Nat)), I (f (4 : Nat)), I (f (5 : Nat)), I (f (6 : Nat)), I (f (7 : Nat)), I (f (8 : Nat)), I (f (9 : Nat))], V.agg [I (1 : Int), I (0 : Int), I (0 : Int), I (0 : Int), I (0 : Int), I (0 : Int), I (0 : Int), I (0 : Int), I (0 : Int), I (1 : Int)], I m] [] (V.agg [I (cnt2 f s m (0 : Nat)), I (cnt2 f s m (1 : Nat)), I (cnt2 f s m (2 : Nat)), I (cnt2 f s m (3 : Nat)), I (cnt2 f s m (4 : Nat)), I (cnt2 f s m (5 : Nat)), I (cnt2 f s m (6 : Nat)), I (cnt2 f s m (7 : Nat)), I (cnt2 f s m (8 : Nat)), I (cnt2 f s m (9 : Nat))]) []] (by kernel_rfl)
    (by
      have d0 := tq0
      try simp only [Int.ofNat_eq_natCast, List.length_map, Bool.not_eq_true', Bool.not_eq_false', decide_eq_true_eq, decide_eq_false_iff_not] at d0
      simp only [allP]
      and_intros <;> first
        | omega
        | exact cOfR _
        | (have e : cnt2 f s m = sumF f (oneF 7 false) m := (by unfold cnt2; rw [hk, d0]); rw [e]; exact cJoin f (oneF 7 false) m))

theorem addc7 (f : Nat → Int) (s : Sp) (m : Int) (hk : ofR s.dur = 7) : Contract Try.prog 34 [.agg (c10 f), s.v, I m] [] (.agg (c10 (cnt2 f s m))) [] := by
  rcases tf (Sp.err s) with tq0 | tq0
  · exact Contract.cast (by
      first
        | rfl) (by
      first
        | rfl) (addc7_0 f s m hk tq0)
  · exact Contract.cast (by
      first
        | rfl) (by
      first
        | rfl) (addc7_1 f s m hk tq0)

theorem cAddC (f : Nat → Int) (s : Sp) (m : Int) : Contract Try.prog 34 [.agg (c10 f), s.v, I m] [] (.agg (c10 (cnt2 f s m))) [] := by
  have h := ofR_range s.dur
  have : ofR s.dur = 0 ∨ ofR s.dur = 1 ∨ ofR s.dur = 2 ∨ ofR s.dur = 3 ∨ ofR s.dur = 4 ∨ ofR s.dur = 5 ∨ ofR s.dur = 6 ∨ ofR s.dur = 7 := by omega
  rcases this with h | h | h | h | h | h | h | h
  · exact addc0 f s m h
  · exact addc1 f s m h
  · exact addc2 f s m h
  · exact addc3 f s m h
  · exact addc4 f s m h
  · exact addc5 f s m h
  · exact addc6 f s m h
  · exact addc7 f s m h
theorem ari_0 (l : List Rw) (s : Sp) (m : Int) (v : Nat) (key : Rw) (i : Nat) (y : Rw) (hi : i < l.length) (hy : l[i]? = some y) (hs : l.length ≤ 1000000) (hb : lessR y key = true) : CodeC Try.prog 0 89 ariB (arI l s m v key i) (Ex.normal) ({ env := [((0 : Nat), V.sl (14 : Nat) (List.map Rw.row l)), ((2 : Nat), I m), ((4 : Nat), V.ptr (900 : Nat) (0 : Nat) (0 : Nat) (0 : Nat)), ((7 : Nat), I (Int.ofNat v)), ((8 : Nat), V.ptr (901 : Nat) (0 : Nat) (0 : Nat) (0 : Nat)), ((9 : Nat), I (Int.ofNat (i + (1 : Nat))))], st := [((900 : Nat), Obj.box [V.val (Value.int IntKind.u64 (Sp.hi s)), V.val (Value.int IntKind.u64 (Sp.lo s)), V.val (Value.int IntKind.u64 (Sp.id s)), V.val (Value.int IntKind.u64 (Sp.par s)), Sg (Sp.svc s), Sg (Sp.op s), I (Sp.start s), I (Sp.dur s), Bo (Sp.err s), V.sl (2 : Nat) (List.map At.row (Sp.attrs s))]), ((901 : Nat), Obj.box [I (Rw.lev key), I (Rw.win key), Sg (Rw.svc key), Sg (Rw.op key), I (Rw.c key (0 : Nat)), I (Rw.c key (1 : Nat)), I (Rw.c key (2 : Nat)), I (Rw.c key (3 : Nat)), I (Rw.c key (4 : Nat)), I (Rw.c key (5 : Nat)), I (Rw.c key (6 : Nat)), I (Rw.c key (7 : Nat)), I (Rw.c key (8 : Nat)), I (Rw.c key (9 : Nat))])], ids := [(900 : Nat), (901 : Nat)] }) :=
  runP hmix [.reg 8 [(4, [], some true), (8, [.row (Rw.row y)], none), (10, [.call [] [] (Bo (lessR y key)) []], none), (11, [], some true)], .reg 9 [(1, [.be (I ((i + 1 : Nat) : Int))], none)]] ⟨[0, 2, 4, 7, 8, 9], [(900, 900), (901, 901)], []⟩ [
      decide (Int.ofNat i < Int.ofNat (List.length (List.map Rw.row l))) = true,
      (0 : Int) ≤ Int.ofNat i,
      Int.ofNat i < Int.ofNat (List.length (List.map Rw.row l)),
      (List.map Rw.row l)[i]? = some (Rw.row y),
      Contract Try.prog (26 : Nat) [V.agg [I (Rw.lev y), I (Rw.win y), Sg (Rw.svc y), Sg (Rw.op y), I (Rw.c y (0 : Nat)), I (Rw.c y (1 : Nat)), I (Rw.c y (2 : Nat)), I (Rw.c y (3 : Nat)), I (Rw.c y (4 : Nat)), I (Rw.c y (5 : Nat)), I (Rw.c y (6 : Nat)), I (Rw.c y (7 : Nat)), I (Rw.c y (8 : Nat)), I (Rw.c y (9 : Nat))], V.agg [I (Rw.lev key), I (Rw.win key), Sg (Rw.svc key), Sg (Rw.op key), I (Rw.c key (0 : Nat)), I (Rw.c key (1 : Nat)), I (Rw.c key (2 : Nat)), I (Rw.c key (3 : Nat)), I (Rw.c key (4 : Nat)), I (Rw.c key (5 : Nat)), I (Rw.c key (6 : Nat)), I (Rw.c key (7 : Nat)), I (Rw.c key (8 : Nat)), I (Rw.c key (9 : Nat))]] [] (Bo (lessR y key)) [],
      lessR y key = true,
      IntKind.wrap IntKind.i64 (Int.ofNat (i + (1 : Nat))) = Int.ofNat (i + (1 : Nat))] (by kernel_rfl)
    (by
      simp only [allP]
      and_intros <;> first
        | omega
        | (simp; omega)
        | (simp [hy]; done)
        | exact cLess _ _
        | exact i64_small (by simp; omega))

theorem ari (l : List Rw) (s : Sp) (m : Int) (v : Nat) (key : Rw) (i : Nat) (y : Rw) (hi : i < l.length) (hy : l[i]? = some y) (hs : l.length ≤ 1000000) (hb : lessR y key = true)  : CodeC Try.prog 0 89 ariB (arI l s m v key i) .normal (arI l s m v key (i + 1)) := by
  exact CodeC.cast (by
    first
      | rfl) (ari_0 l s m v key i y hi hy hs hb )

theorem ariS_0 (l : List Rw) (s : Sp) (m : Int) (v : Nat) (key : Rw) (i : Nat) (y : Rw) (hi : i < l.length) (hy : l[i]? = some y) (hb : lessR y key = false) : CodeC Try.prog 0 89 ariB (arI l s m v key i) (Ex.exit (2 : Nat)) ({ env := [((0 : Nat), V.sl (14 : Nat) (List.map Rw.row l)), ((2 : Nat), I m), ((4 : Nat), V.ptr (900 : Nat) (0 : Nat) (0 : Nat) (0 : Nat)), ((7 : Nat), I (Int.ofNat v)), ((8 : Nat), V.ptr (901 : Nat) (0 : Nat) (0 : Nat) (0 : Nat)), ((9 : Nat), I (Int.ofNat i))], st := [((900 : Nat), Obj.box [V.val (Value.int IntKind.u64 (Sp.hi s)), V.val (Value.int IntKind.u64 (Sp.lo s)), V.val (Value.int IntKind.u64 (Sp.id s)), V.val (Value.int IntKind.u64 (Sp.par s)), Sg (Sp.svc s), Sg (Sp.op s), I (Sp.start s), I (Sp.dur s), Bo (Sp.err s), V.sl (2 : Nat) (List.map At.row (Sp.attrs s))]), ((901 : Nat), Obj.box [I (Rw.lev key), I (Rw.win key), Sg (Rw.svc key), Sg (Rw.op key), I (Rw.c key (0 : Nat)), I (Rw.c key (1 : Nat)), I (Rw.c key (2 : Nat)), I (Rw.c key (3 : Nat)), I (Rw.c key (4 : Nat)), I (Rw.c key (5 : Nat)), I (Rw.c key (6 : Nat)), I (Rw.c key (7 : Nat)), I (Rw.c key (8 : Nat)), I (Rw.c key (9 : Nat))])], ids := [(900 : Nat), (901 : Nat)] }) :=
  runP hmix [.reg 8 [(4, [], some true), (8, [.row (Rw.row y)], none), (10, [.call [] [] (Bo (lessR y key)) []], none), (11, [], some false)]] ⟨[0, 2, 4, 7, 8, 9], [(900, 900), (901, 901)], []⟩ [
      decide (Int.ofNat i < Int.ofNat (List.length (List.map Rw.row l))) = true,
      (0 : Int) ≤ Int.ofNat i,
      Int.ofNat i < Int.ofNat (List.length (List.map Rw.row l)),
      (List.map Rw.row l)[i]? = some (Rw.row y),
      Contract Try.prog (26 : Nat) [V.agg [I (Rw.lev y), I (Rw.win y), Sg (Rw.svc y), Sg (Rw.op y), I (Rw.c y (0 : Nat)), I (Rw.c y (1 : Nat)), I (Rw.c y (2 : Nat)), I (Rw.c y (3 : Nat)), I (Rw.c y (4 : Nat)), I (Rw.c y (5 : Nat)), I (Rw.c y (6 : Nat)), I (Rw.c y (7 : Nat)), I (Rw.c y (8 : Nat)), I (Rw.c y (9 : Nat))], V.agg [I (Rw.lev key), I (Rw.win key), Sg (Rw.svc key), Sg (Rw.op key), I (Rw.c key (0 : Nat)), I (Rw.c key (1 : Nat)), I (Rw.c key (2 : Nat)), I (Rw.c key (3 : Nat)), I (Rw.c key (4 : Nat)), I (Rw.c key (5 : Nat)), I (Rw.c key (6 : Nat)), I (Rw.c key (7 : Nat)), I (Rw.c key (8 : Nat)), I (Rw.c key (9 : Nat))]] [] (Bo (lessR y key)) [],
      lessR y key = false] (by kernel_rfl)
    (by
      simp only [allP]
      and_intros <;> first
        | omega
        | (simp; omega)
        | (simp [hy]; done)
        | exact cLess _ _)

theorem ariS (l : List Rw) (s : Sp) (m : Int) (v : Nat) (key : Rw) (i : Nat) (y : Rw) (hi : i < l.length) (hy : l[i]? = some y) (hb : lessR y key = false)  : CodeC Try.prog 0 89 ariB (arI l s m v key i) (.exit 2) (arI l s m v key i) := by
  exact CodeC.cast (by
    first
      | rfl) (ariS_0 l s m v key i y hi hy hb )

theorem ariE_0 (l : List Rw) (s : Sp) (m : Int) (v : Nat) (key : Rw) (i : Nat) (hi : l.length ≤ i) : CodeC Try.prog 0 89 ariB (arI l s m v key i) (Ex.exit (2 : Nat)) ({ env := [((0 : Nat), V.sl (14 : Nat) (List.map Rw.row l)), ((2 : Nat), I m), ((4 : Nat), V.ptr (900 : Nat) (0 : Nat) (0 : Nat) (0 : Nat)), ((7 : Nat), I (Int.ofNat v)), ((8 : Nat), V.ptr (901 : Nat) (0 : Nat) (0 : Nat) (0 : Nat)), ((9 : Nat), I (Int.ofNat i))], st := [((900 : Nat), Obj.box [V.val (Value.int IntKind.u64 (Sp.hi s)), V.val (Value.int IntKind.u64 (Sp.lo s)), V.val (Value.int IntKind.u64 (Sp.id s)), V.val (Value.int IntKind.u64 (Sp.par s)), Sg (Sp.svc s), Sg (Sp.op s), I (Sp.start s), I (Sp.dur s), Bo (Sp.err s), V.sl (2 : Nat) (List.map At.row (Sp.attrs s))]), ((901 : Nat), Obj.box [I (Rw.lev key), I (Rw.win key), Sg (Rw.svc key), Sg (Rw.op key), I (Rw.c key (0 : Nat)), I (Rw.c key (1 : Nat)), I (Rw.c key (2 : Nat)), I (Rw.c key (3 : Nat)), I (Rw.c key (4 : Nat)), I (Rw.c key (5 : Nat)), I (Rw.c key (6 : Nat)), I (Rw.c key (7 : Nat)), I (Rw.c key (8 : Nat)), I (Rw.c key (9 : Nat))])], ids := [(900 : Nat), (901 : Nat)] }) :=
  runP hmix [.reg 8 [(4, [], some false)]] ⟨[0, 2, 4, 7, 8, 9], [(900, 900), (901, 901)], []⟩ [
      decide (Int.ofNat i < Int.ofNat (List.length (List.map Rw.row l))) = false] (by kernel_rfl)
    (by
      simp only [allP]
      and_intros <;> first
        | (simp; omega))

theorem ariE (l : List Rw) (s : Sp) (m : Int) (v : Nat) (key : Rw) (i : Nat) (hi : l.length ≤ i)  : CodeC Try.prog 0 89 ariB (arI l s m v key i) (.exit 2) (arI l s m v key i) := by
  exact CodeC.cast (by
    first
      | rfl) (ariE_0 l s m v key i hi )

theorem aroE_0 (l : List Rw) (s : Sp) (m : Int) (v i : Nat) (hv : v < 3) (hs : l.length ≤ 1000000) (hl : LoopC Try.prog 0 89 ariB (arI l s m v (keyR s (v : Int)) 0) (.exit 2) (arI l s m v (keyR s (v : Int)) i)) (hi : i = l.length) : CodeC Try.prog 0 89 aroB (arO l s m v) (Ex.normal) ({ env := [((0 : Nat), V.sl (14 : Nat) (List.map Rw.row (List.take i l) ++ [[I (Int.ofNat v), I (winW (Int.ofNat v) (Sp.start s)), Sg (Sp.svc s), Sg (Sp.op s), I (cnt2 (fun x0 => (0 : Int)) s m (0 : Nat)), I (cnt2 (fun x0 => (0 : Int)) s m (1 : Nat)), I (cnt2 (fun x0 => (0 : Int)) s m (2 : Nat)), I (cnt2 (fun x0 => (0 : Int)) s m (3 : Nat)), I (cnt2 (fun x0 => (0 : Int)) s m (4 : Nat)), I (cnt2 (fun x0 => (0 : Int)) s m (5 : Nat)), I (cnt2 (fun x0 => (0 : Int)) s m (6 : Nat)), I (cnt2 (fun x0 => (0 : Int)) s m (7 : Nat)), I (cnt2 (fun x0 => (0 : Int)) s m (8 : Nat)), I (cnt2 (fun x0 => (0 : Int)) s m (9 : Nat))]] ++ List.map Rw.row (List.drop i l))), ((2 : Nat), I m), ((4 : Nat), V.ptr (900 : Nat) (0 : Nat) (0 : Nat) (0 : Nat)), ((7 : Nat), I (Int.ofNat (v + (1 : Nat))))], st := [((900 : Nat), Obj.box [V.val (Value.int IntKind.u64 (Sp.hi s)), V.val (Value.int IntKind.u64 (Sp.lo s)), V.val (Value.int IntKind.u64 (Sp.id s)), V.val (Value.int IntKind.u64 (Sp.par s)), Sg (Sp.svc s), Sg (Sp.op s), I (Sp.start s), I (Sp.dur s), Bo (Sp.err s), V.sl (2 : Nat) (List.map At.row (Sp.attrs s))])], ids := [(900 : Nat)] }) :=
  runP hmix [.reg 4 [(1, [], some true)], .cut ⟨[0, 2, 4, 7, 8, 9], [(900, 900), (1211000, 901)], []⟩ (.exit 2) (arI l s m v (keyR s (v : Int)) i), .reg 10 [(4, [], some false)], .reg 13 [(4, [.call [] [] (.agg (c10 (cnt2 (fun _ => 0) s m))) []], none)], .reg 14 [(2, [.be (.sl 14 (((l).take i).map Rw.row))], none), (9, [.be (.sl 14 (((l).drop i).map Rw.row))], none), (11, [.idx 1], none)], .reg 5 [(1, [.be (I ((v + 1 : Nat) : Int))], none)], .tab [(16, fun _ => some (I (winW (v : Int) s.start)))]] ⟨[0, 2, 4, 7], [(900, 900)], []⟩ [
      decide (Int.ofNat v < (3 : Int)) = true,
      Contract Try.prog (16 : Nat) [I (Int.ofNat v), I (Sp.start s)] [] (I (winW (Int.ofNat v) (Sp.start s))) [],
      LoopC Try.prog (0 : Nat) (89 : Nat) ariB { env := [((0 : Nat), V.sl (14 : Nat) (List.map Rw.row l)), ((2 : Nat), I m), ((4 : Nat), V.ptr (900 : Nat) (0 : Nat) (0 : Nat) (0 : Nat)), ((7 : Nat), I (Int.ofNat v)), ((8 : Nat), V.ptr (901 : Nat) (0 : Nat) (0 : Nat) (0 : Nat)), ((9 : Nat), I (0 : Int))], st := [((900 : Nat), Obj.box [V.val (Value.int IntKind.u64 (Sp.hi s)), V.val (Value.int IntKind.u64 (Sp.lo s)), V.val (Value.int IntKind.u64 (Sp.id s)), V.val (Value.int IntKind.u64 (Sp.par s)), Sg (Sp.svc s), Sg (Sp.op s), I (Sp.start s), I (Sp.dur s), Bo (Sp.err s), V.sl (2 : Nat) (List.map At.row (Sp.attrs s))]), ((901 : Nat), Obj.box [I (Int.ofNat v), I (winW (Int.ofNat v) (Sp.start s)), Sg (Sp.svc s), Sg (Sp.op s), I (0 : Int), I (0 : Int), I (0 : Int), I (0 : Int), I (0 : Int), I (0 : Int), I (0 : Int), I (0 : Int), I (0 : Int), I (0 : Int)])], ids := [(900 : Nat), (901 : Nat)] } (Ex.exit (2 : Nat)) { env := [((0 : Nat), V.sl (14 : Nat) (List.map Rw.row l)), ((2 : Nat), I m), ((4 : Nat), V.ptr (900 : Nat) (0 : Nat) (0 : Nat) (0 : Nat)), ((7 : Nat), I (Int.ofNat v)), ((8 : Nat), V.ptr (901 : Nat) (0 : Nat) (0 : Nat) (0 : Nat)), ((9 : Nat), I (Int.ofNat i))], st := [((900 : Nat), Obj.box (Sp.row s)), ((901 : Nat), Obj.box (Rw.row { lev := Int.ofNat v, win := winW (Int.ofNat v) (Sp.start s), svc := Sp.svc s, op := Sp.op s, c := fun x0 => (0 : Int) }))], ids := [(900 : Nat), (901 : Nat)] },
      decide (Int.ofNat i < Int.ofNat (List.length (List.map Rw.row l))) = false,
      Contract Try.prog (34 : Nat) [V.agg [I (0 : Int), I (0 : Int), I (0 : Int), I (0 : Int), I (0 : Int), I (0 : Int), I (0 : Int), I (0 : Int), I (0 : Int), I (0 : Int)], V.agg [V.val (Value.int IntKind.u64 (Sp.hi s)), V.val (Value.int IntKind.u64 (Sp.lo s)), V.val (Value.int IntKind.u64 (Sp.id s)), V.val (Value.int IntKind.u64 (Sp.par s)), Sg (Sp.svc s), Sg (Sp.op s), I (Sp.start s), I (Sp.dur s), Bo (Sp.err s), V.sl (2 : Nat) (List.map At.row (Sp.attrs s))], I m] [] (V.agg [I (cnt2 (fun x0 => (0 : Int)) s m (0 : Nat)), I (cnt2 (fun x0 => (0 : Int)) s m (1 : Nat)), I (cnt2 (fun x0 => (0 : Int)) s m (2 : Nat)), I (cnt2 (fun x0 => (0 : Int)) s m (3 : Nat)), I (cnt2 (fun x0 => (0 : Int)) s m (4 : Nat)), I (cnt2 (fun x0 => (0 : Int)) s m (5 : Nat)), I (cnt2 (fun x0 => (0 : Int)) s m (6 : Nat)), I (cnt2 (fun x0 => (0 : Int)) s m (7 : Nat)), I (cnt2 (fun x0 => (0 : Int)) s m (8 : Nat)), I (cnt2 (fun x0 => (0 : Int)) s m (9 : Nat))]) [],
      (0 : Int) ≤ (0 : Int),
      (0 : Int) ≤ Int.ofNat i,
      Int.ofNat i ≤ Int.ofNat (List.length (List.map Rw.row l)),
      List.take i (List.map Rw.row l) = List.map Rw.row (List.take i l),
      List.length (List.map Rw.row (List.take i l)) * (128 : Nat) ≤ (140737488355328 : Nat),
      (List.length (List.map Rw.row (List.take i l)) + (1 : Nat)) * (128 : Nat) ≤ (140737488355328 : Nat),
      (0 : Int) ≤ Int.ofNat i,
      Int.ofNat i ≤ Int.ofNat (List.length (List.map Rw.row l)),
      Int.ofNat (List.length (List.map Rw.row l)) ≤ Int.ofNat (List.length (List.map Rw.row l)),
      List.drop i (List.take (List.length (List.map Rw.row l)) (List.map Rw.row l)) = List.map Rw.row (List.drop i l),
      (List.length (List.map Rw.row (List.take i l) ++ [[I (Int.ofNat v), I (winW (Int.ofNat v) (Sp.start s)), Sg (Sp.svc s), Sg (Sp.op s), I (cnt2 (fun x0 => (0 : Int)) s m (0 : Nat)), I (cnt2 (fun x0 => (0 : Int)) s m (1 : Nat)), I (cnt2 (fun x0 => (0 : Int)) s m (2 : Nat)), I (cnt2 (fun x0 => (0 : Int)) s m (3 : Nat)), I (cnt2 (fun x0 => (0 : Int)) s m (4 : Nat)), I (cnt2 (fun x0 => (0 : Int)) s m (5 : Nat)), I (cnt2 (fun x0 => (0 : Int)) s m (6 : Nat)), I (cnt2 (fun x0 => (0 : Int)) s m (7 : Nat)), I (cnt2 (fun x0 => (0 : Int)) s m (8 : Nat)), I (cnt2 (fun x0 => (0 : Int)) s m (9 : Nat))]]) + List.length (List.map Rw.row (List.drop i l))) * (128 : Nat) ≤ (140737488355328 : Nat),
      IntKind.wrap IntKind.i64 (Int.ofNat (v + (1 : Nat))) = Int.ofNat (v + (1 : Nat))] (by kernel_rfl)
    (by
      simp only [allP]
      and_intros <;> first
        | omega
        | (simp; omega)
        | exact cAddC (fun _ => 0) s m
        | (rw [List.take_length, List.map_drop]; done)
        | exact cWinR _ _
        | exact i64_small (by simp; omega)
        | exact hl
        | (simp [List.map_take]; done))

theorem aroE (l : List Rw) (s : Sp) (m : Int) (v i : Nat) (hv : v < 3) (hs : l.length ≤ 1000000) (hl : LoopC Try.prog 0 89 ariB (arI l s m v (keyR s (v : Int)) 0) (.exit 2) (arI l s m v (keyR s (v : Int)) i)) (hi : i = l.length)  : CodeC Try.prog 0 89 aroB (arO l s m v) .normal (arO (putR (l) i (cntRw (keyR s (v : Int)) (fun _ => 0) s m)) s m (v + 1)) := by
  exact CodeC.cast (by
    first
      | (simp only [putR, cntRw, arO, List.map_append, List.map_cons, List.map_nil, cond_true, cond_false]; rfl)) (aroE_0 l s m v i hv hs hl hi )

theorem aroN_0 (l : List Rw) (s : Sp) (m : Int) (v i : Nat) (y : Rw) (hv : v < 3) (hs : l.length ≤ 1000000) (hl : LoopC Try.prog 0 89 ariB (arI l s m v (keyR s (v : Int)) 0) (.exit 2) (arI l s m v (keyR s (v : Int)) i)) (hi : i < l.length) (hy : l[i]? = some y) (hb : lessR (keyR s (v : Int)) y = true) : CodeC Try.prog 0 89 aroB (arO l s m v) (Ex.normal) ({ env := [((0 : Nat), V.sl (14 : Nat) (List.map Rw.row (List.take i l) ++ [[I (Int.ofNat v), I (winW (Int.ofNat v) (Sp.start s)), Sg (Sp.svc s), Sg (Sp.op s), I (cnt2 (fun x0 => (0 : Int)) s m (0 : Nat)), I (cnt2 (fun x0 => (0 : Int)) s m (1 : Nat)), I (cnt2 (fun x0 => (0 : Int)) s m (2 : Nat)), I (cnt2 (fun x0 => (0 : Int)) s m (3 : Nat)), I (cnt2 (fun x0 => (0 : Int)) s m (4 : Nat)), I (cnt2 (fun x0 => (0 : Int)) s m (5 : Nat)), I (cnt2 (fun x0 => (0 : Int)) s m (6 : Nat)), I (cnt2 (fun x0 => (0 : Int)) s m (7 : Nat)), I (cnt2 (fun x0 => (0 : Int)) s m (8 : Nat)), I (cnt2 (fun x0 => (0 : Int)) s m (9 : Nat))]] ++ List.map Rw.row (List.drop i l))), ((2 : Nat), I m), ((4 : Nat), V.ptr (900 : Nat) (0 : Nat) (0 : Nat) (0 : Nat)), ((7 : Nat), I (Int.ofNat (v + (1 : Nat))))], st := [((900 : Nat), Obj.box [V.val (Value.int IntKind.u64 (Sp.hi s)), V.val (Value.int IntKind.u64 (Sp.lo s)), V.val (Value.int IntKind.u64 (Sp.id s)), V.val (Value.int IntKind.u64 (Sp.par s)), Sg (Sp.svc s), Sg (Sp.op s), I (Sp.start s), I (Sp.dur s), Bo (Sp.err s), V.sl (2 : Nat) (List.map At.row (Sp.attrs s))])], ids := [(900 : Nat)] }) :=
  runP hmix [.reg 4 [(1, [], some true)], .cut ⟨[0, 2, 4, 7, 8, 9], [(900, 900), (1211000, 901)], []⟩ (.exit 2) (arI l s m v (keyR s (v : Int)) i), .reg 10 [(4, [], some true), (9, [.row (Rw.row y)], none), (10, [.call [] [] (Bo (lessR (keyR s (v : Int)) y)) []], none), (12, [], some false)], .reg 13 [(4, [.call [] [] (.agg (c10 (cnt2 (fun _ => 0) s m))) []], none)], .reg 14 [(2, [.be (.sl 14 (((l).take i).map Rw.row))], none), (9, [.be (.sl 14 (((l).drop i).map Rw.row))], none), (11, [.idx 1], none)], .reg 5 [(1, [.be (I ((v + 1 : Nat) : Int))], none)], .tab [(16, fun _ => some (I (winW (v : Int) s.start)))]] ⟨[0, 2, 4, 7], [(900, 900)], []⟩ [
      decide (Int.ofNat v < (3 : Int)) = true,
      Contract Try.prog (16 : Nat) [I (Int.ofNat v), I (Sp.start s)] [] (I (winW (Int.ofNat v) (Sp.start s))) [],
      LoopC Try.prog (0 : Nat) (89 : Nat) ariB { env := [((0 : Nat), V.sl (14 : Nat) (List.map Rw.row l)), ((2 : Nat), I m), ((4 : Nat), V.ptr (900 : Nat) (0 : Nat) (0 : Nat) (0 : Nat)), ((7 : Nat), I (Int.ofNat v)), ((8 : Nat), V.ptr (901 : Nat) (0 : Nat) (0 : Nat) (0 : Nat)), ((9 : Nat), I (0 : Int))], st := [((900 : Nat), Obj.box [V.val (Value.int IntKind.u64 (Sp.hi s)), V.val (Value.int IntKind.u64 (Sp.lo s)), V.val (Value.int IntKind.u64 (Sp.id s)), V.val (Value.int IntKind.u64 (Sp.par s)), Sg (Sp.svc s), Sg (Sp.op s), I (Sp.start s), I (Sp.dur s), Bo (Sp.err s), V.sl (2 : Nat) (List.map At.row (Sp.attrs s))]), ((901 : Nat), Obj.box [I (Int.ofNat v), I (winW (Int.ofNat v) (Sp.start s)), Sg (Sp.svc s), Sg (Sp.op s), I (0 : Int), I (0 : Int), I (0 : Int), I (0 : Int), I (0 : Int), I (0 : Int), I (0 : Int), I (0 : Int), I (0 : Int), I (0 : Int)])], ids := [(900 : Nat), (901 : Nat)] } (Ex.exit (2 : Nat)) { env := [((0 : Nat), V.sl (14 : Nat) (List.map Rw.row l)), ((2 : Nat), I m), ((4 : Nat), V.ptr (900 : Nat) (0 : Nat) (0 : Nat) (0 : Nat)), ((7 : Nat), I (Int.ofNat v)), ((8 : Nat), V.ptr (901 : Nat) (0 : Nat) (0 : Nat) (0 : Nat)), ((9 : Nat), I (Int.ofNat i))], st := [((900 : Nat), Obj.box (Sp.row s)), ((901 : Nat), Obj.box (Rw.row { lev := Int.ofNat v, win := winW (Int.ofNat v) (Sp.start s), svc := Sp.svc s, op := Sp.op s, c := fun x0 => (0 : Int) }))], ids := [(900 : Nat), (901 : Nat)] },
      decide (Int.ofNat i < Int.ofNat (List.length (List.map Rw.row l))) = true,
      (0 : Int) ≤ Int.ofNat i,
      Int.ofNat i < Int.ofNat (List.length (List.map Rw.row l)),
      (List.map Rw.row l)[i]? = some (Rw.row y),
      Contract Try.prog (26 : Nat) [V.agg [I (Int.ofNat v), I (winW (Int.ofNat v) (Sp.start s)), Sg (Sp.svc s), Sg (Sp.op s), I (0 : Int), I (0 : Int), I (0 : Int), I (0 : Int), I (0 : Int), I (0 : Int), I (0 : Int), I (0 : Int), I (0 : Int), I (0 : Int)], V.agg [I (Rw.lev y), I (Rw.win y), Sg (Rw.svc y), Sg (Rw.op y), I (Rw.c y (0 : Nat)), I (Rw.c y (1 : Nat)), I (Rw.c y (2 : Nat)), I (Rw.c y (3 : Nat)), I (Rw.c y (4 : Nat)), I (Rw.c y (5 : Nat)), I (Rw.c y (6 : Nat)), I (Rw.c y (7 : Nat)), I (Rw.c y (8 : Nat)), I (Rw.c y (9 : Nat))]] [] (Bo (lessR { lev := Int.ofNat v, win := winW (Int.ofNat v) (Sp.start s), svc := Sp.svc s, op := Sp.op s, c := fun x0 => (0 : Int) } y)) [],
      (!lessR { lev := Int.ofNat v, win := winW (Int.ofNat v) (Sp.start s), svc := Sp.svc s, op := Sp.op s, c := fun x0 => (0 : Int) } y) = false,
      Contract Try.prog (34 : Nat) [V.agg [I (0 : Int), I (0 : Int), I (0 : Int), I (0 : Int), I (0 : Int), I (0 : Int), I (0 : Int), I (0 : Int), I (0 : Int), I (0 : Int)], V.agg [V.val (Value.int IntKind.u64 (Sp.hi s)), V.val (Value.int IntKind.u64 (Sp.lo s)), V.val (Value.int IntKind.u64 (Sp.id s)), V.val (Value.int IntKind.u64 (Sp.par s)), Sg (Sp.svc s), Sg (Sp.op s), I (Sp.start s), I (Sp.dur s), Bo (Sp.err s), V.sl (2 : Nat) (List.map At.row (Sp.attrs s))], I m] [] (V.agg [I (cnt2 (fun x0 => (0 : Int)) s m (0 : Nat)), I (cnt2 (fun x0 => (0 : Int)) s m (1 : Nat)), I (cnt2 (fun x0 => (0 : Int)) s m (2 : Nat)), I (cnt2 (fun x0 => (0 : Int)) s m (3 : Nat)), I (cnt2 (fun x0 => (0 : Int)) s m (4 : Nat)), I (cnt2 (fun x0 => (0 : Int)) s m (5 : Nat)), I (cnt2 (fun x0 => (0 : Int)) s m (6 : Nat)), I (cnt2 (fun x0 => (0 : Int)) s m (7 : Nat)), I (cnt2 (fun x0 => (0 : Int)) s m (8 : Nat)), I (cnt2 (fun x0 => (0 : Int)) s m (9 : Nat))]) [],
      (0 : Int) ≤ (0 : Int),
      (0 : Int) ≤ Int.ofNat i,
      Int.ofNat i ≤ Int.ofNat (List.length (List.map Rw.row l)),
      List.take i (List.map Rw.row l) = List.map Rw.row (List.take i l),
      List.length (List.map Rw.row (List.take i l)) * (128 : Nat) ≤ (140737488355328 : Nat),
      (List.length (List.map Rw.row (List.take i l)) + (1 : Nat)) * (128 : Nat) ≤ (140737488355328 : Nat),
      (0 : Int) ≤ Int.ofNat i,
      Int.ofNat i ≤ Int.ofNat (List.length (List.map Rw.row l)),
      Int.ofNat (List.length (List.map Rw.row l)) ≤ Int.ofNat (List.length (List.map Rw.row l)),
      List.drop i (List.take (List.length (List.map Rw.row l)) (List.map Rw.row l)) = List.map Rw.row (List.drop i l),
      (List.length (List.map Rw.row (List.take i l) ++ [[I (Int.ofNat v), I (winW (Int.ofNat v) (Sp.start s)), Sg (Sp.svc s), Sg (Sp.op s), I (cnt2 (fun x0 => (0 : Int)) s m (0 : Nat)), I (cnt2 (fun x0 => (0 : Int)) s m (1 : Nat)), I (cnt2 (fun x0 => (0 : Int)) s m (2 : Nat)), I (cnt2 (fun x0 => (0 : Int)) s m (3 : Nat)), I (cnt2 (fun x0 => (0 : Int)) s m (4 : Nat)), I (cnt2 (fun x0 => (0 : Int)) s m (5 : Nat)), I (cnt2 (fun x0 => (0 : Int)) s m (6 : Nat)), I (cnt2 (fun x0 => (0 : Int)) s m (7 : Nat)), I (cnt2 (fun x0 => (0 : Int)) s m (8 : Nat)), I (cnt2 (fun x0 => (0 : Int)) s m (9 : Nat))]]) + List.length (List.map Rw.row (List.drop i l))) * (128 : Nat) ≤ (140737488355328 : Nat),
      IntKind.wrap IntKind.i64 (Int.ofNat (v + (1 : Nat))) = Int.ofNat (v + (1 : Nat))] (by kernel_rfl)
    (by
      simp only [allP]
      and_intros <;> first
        | omega
        | (simp; omega)
        | (simp [hy]; done)
        | exact cLess (keyR s (v : Int)) y
        | (show (!lessR (keyR s (v : Int)) y) = _; rw [hb]; rfl)
        | exact cAddC (fun _ => 0) s m
        | (rw [List.take_length, List.map_drop]; done)
        | exact cWinR _ _
        | exact i64_small (by simp; omega)
        | exact hl)

theorem aroN (l : List Rw) (s : Sp) (m : Int) (v i : Nat) (y : Rw) (hv : v < 3) (hs : l.length ≤ 1000000) (hl : LoopC Try.prog 0 89 ariB (arI l s m v (keyR s (v : Int)) 0) (.exit 2) (arI l s m v (keyR s (v : Int)) i)) (hi : i < l.length) (hy : l[i]? = some y) (hb : lessR (keyR s (v : Int)) y = true)  : CodeC Try.prog 0 89 aroB (arO l s m v) .normal (arO (putR (l) i (cntRw (keyR s (v : Int)) (fun _ => 0) s m)) s m (v + 1)) := by
  exact CodeC.cast (by
    first
      | (simp only [putR, cntRw, arO, List.map_append, List.map_cons, List.map_nil, cond_true, cond_false]; rfl)) (aroN_0 l s m v i y hv hs hl hi hy hb )

theorem aroF_0 (l : List Rw) (s : Sp) (m : Int) (v i : Nat) (y : Rw) (hv : v < 3) (hs : l.length ≤ 1000000) (hl : LoopC Try.prog 0 89 ariB (arI l s m v (keyR s (v : Int)) 0) (.exit 2) (arI l s m v (keyR s (v : Int)) i)) (hi : i < l.length) (hy : l[i]? = some y) (hb : lessR (keyR s (v : Int)) y = false) : CodeC Try.prog 0 89 aroB (arO l s m v) (Ex.normal) ({ env := [((0 : Nat), V.sl (14 : Nat) (List.map Rw.row (List.take i (List.take i l ++ List.drop (i + (1 : Nat)) l)) ++ [[I (Int.ofNat v), I (winW (Int.ofNat v) (Sp.start s)), Sg (Sp.svc s), Sg (Sp.op s), I (cnt2 (Rw.c y) s m (0 : Nat)), I (cnt2 (Rw.c y) s m (1 : Nat)), I (cnt2 (Rw.c y) s m (2 : Nat)), I (cnt2 (Rw.c y) s m (3 : Nat)), I (cnt2 (Rw.c y) s m (4 : Nat)), I (cnt2 (Rw.c y) s m (5 : Nat)), I (cnt2 (Rw.c y) s m (6 : Nat)), I (cnt2 (Rw.c y) s m (7 : Nat)), I (cnt2 (Rw.c y) s m (8 : Nat)), I (cnt2 (Rw.c y) s m (9 : Nat))]] ++ List.map Rw.row (List.drop i (List.take i l ++ List.drop (i + (1 : Nat)) l)))), ((2 : Nat), I m), ((4 : Nat), V.ptr (900 : Nat) (0 : Nat) (0 : Nat) (0 : Nat)), ((7 : Nat), I (Int.ofNat (v + (1 : Nat))))], st := [((900 : Nat), Obj.box [V.val (Value.int IntKind.u64 (Sp.hi s)), V.val (Value.int IntKind.u64 (Sp.lo s)), V.val (Value.int IntKind.u64 (Sp.id s)), V.val (Value.int IntKind.u64 (Sp.par s)), Sg (Sp.svc s), Sg (Sp.op s), I (Sp.start s), I (Sp.dur s), Bo (Sp.err s), V.sl (2 : Nat) (List.map At.row (Sp.attrs s))])], ids := [(900 : Nat)] }) :=
  runP hmix [.reg 4 [(1, [], some true)], .cut ⟨[0, 2, 4, 7, 8, 9], [(900, 900), (1211000, 901)], []⟩ (.exit 2) (arI l s m v (keyR s (v : Int)) i), .reg 10 [(4, [], some true), (9, [.row (Rw.row y)], none), (10, [.call [] [] (Bo (lessR (keyR s (v : Int)) y)) []], none), (12, [], some true)], .reg 11 [(4, [.row (Rw.row y)], none)], .reg 12 [(2, [.be (.sl 14 ((l.take i).map Rw.row))], none), (6, [.be (I ((i + 1 : Nat) : Int))], none), (7, [.be (.sl 14 ((l.drop (i + 1)).map Rw.row))], none), (9, [.idx 1, .be (.sl 14 ((l.take i ++ l.drop (i + 1)).map Rw.row))], none)], .reg 13 [(4, [.call [] [] (.agg (c10 (cnt2 y.c s m))) []], none)], .reg 14 [(2, [.be (.sl 14 ((((l.take i ++ l.drop (i + 1))).take i).map Rw.row))], none), (9, [.be (.sl 14 ((((l.take i ++ l.drop (i + 1))).drop i).map Rw.row))], none), (11, [.idx 1], none)], .reg 5 [(1, [.be (I ((v + 1 : Nat) : Int))], none)], .tab [(16, fun _ => some (I (winW (v : Int) s.start)))]] ⟨[0, 2, 4, 7], [(900, 900)], []⟩ [
      decide (Int.ofNat v < (3 : Int)) = true,
      Contract Try.prog (16 : Nat) [I (Int.ofNat v), I (Sp.start s)] [] (I (winW (Int.ofNat v) (Sp.start s))) [],
      LoopC Try.prog (0 : Nat) (89 : Nat) ariB { env := [((0 : Nat), V.sl (14 : Nat) (List.map Rw.row l)), ((2 : Nat), I m), ((4 : Nat), V.ptr (900 : Nat) (0 : Nat) (0 : Nat) (0 : Nat)), ((7 : Nat), I (Int.ofNat v)), ((8 : Nat), V.ptr (901 : Nat) (0 : Nat) (0 : Nat) (0 : Nat)), ((9 : Nat), I (0 : Int))], st := [((900 : Nat), Obj.box [V.val (Value.int IntKind.u64 (Sp.hi s)), V.val (Value.int IntKind.u64 (Sp.lo s)), V.val (Value.int IntKind.u64 (Sp.id s)), V.val (Value.int IntKind.u64 (Sp.par s)), Sg (Sp.svc s), Sg (Sp.op s), I (Sp.start s), I (Sp.dur s), Bo (Sp.err s), V.sl (2 : Nat) (List.map At.row (Sp.attrs s))]), ((901 : Nat), Obj.box [I (Int.ofNat v), I (winW (Int.ofNat v) (Sp.start s)), Sg (Sp.svc s), Sg (Sp.op s), I (0 : Int), I (0 : Int), I (0 : Int), I (0 : Int), I (0 : Int), I (0 : Int), I (0 : Int), I (0 : Int), I (0 : Int), I (0 : Int)])], ids := [(900 : Nat), (901 : Nat)] } (Ex.exit (2 : Nat)) { env := [((0 : Nat), V.sl (14 : Nat) (List.map Rw.row l)), ((2 : Nat), I m), ((4 : Nat), V.ptr (900 : Nat) (0 : Nat) (0 : Nat) (0 : Nat)), ((7 : Nat), I (Int.ofNat v)), ((8 : Nat), V.ptr (901 : Nat) (0 : Nat) (0 : Nat) (0 : Nat)), ((9 : Nat), I (Int.ofNat i))], st := [((900 : Nat), Obj.box (Sp.row s)), ((901 : Nat), Obj.box (Rw.row { lev := Int.ofNat v, win := winW (Int.ofNat v) (Sp.start s), svc := Sp.svc s, op := Sp.op s, c := fun x0 => (0 : Int) }))], ids := [(900 : Nat), (901 : Nat)] },
      decide (Int.ofNat i < Int.ofNat (List.length (List.map Rw.row l))) = true,
      (0 : Int) ≤ Int.ofNat i,
      Int.ofNat i < Int.ofNat (List.length (List.map Rw.row l)),
      (List.map Rw.row l)[i]? = some (Rw.row y),
      Contract Try.prog (26 : Nat) [V.agg [I (Int.ofNat v), I (winW (Int.ofNat v) (Sp.start s)), Sg (Sp.svc s), Sg (Sp.op s), I (0 : Int), I (0 : Int), I (0 : Int), I (0 : Int), I (0 : Int), I (0 : Int), I (0 : Int), I (0 : Int), I (0 : Int), I (0 : Int)], V.agg [I (Rw.lev y), I (Rw.win y), Sg (Rw.svc y), Sg (Rw.op y), I (Rw.c y (0 : Nat)), I (Rw.c y (1 : Nat)), I (Rw.c y (2 : Nat)), I (Rw.c y (3 : Nat)), I (Rw.c y (4 : Nat)), I (Rw.c y (5 : Nat)), I (Rw.c y (6 : Nat)), I (Rw.c y (7 : Nat)), I (Rw.c y (8 : Nat)), I (Rw.c y (9 : Nat))]] [] (Bo (lessR { lev := Int.ofNat v, win := winW (Int.ofNat v) (Sp.start s), svc := Sp.svc s, op := Sp.op s, c := fun x0 => (0 : Int) } y)) [],
      (!lessR { lev := Int.ofNat v, win := winW (Int.ofNat v) (Sp.start s), svc := Sp.svc s, op := Sp.op s, c := fun x0 => (0 : Int) } y) = true,
      (0 : Int) ≤ Int.ofNat i,
      Int.ofNat i < Int.ofNat (List.length (List.map Rw.row l)),
      (List.map Rw.row l)[i]? = some (Rw.row y),
      (0 : Int) ≤ (0 : Int),
      (0 : Int) ≤ Int.ofNat i,
      Int.ofNat i ≤ Int.ofNat (List.length (List.map Rw.row l)),
      List.take i (List.map Rw.row l) = List.map Rw.row (List.take i l),
      List.length (List.map Rw.row (List.take i l)) * (128 : Nat) ≤ (140737488355328 : Nat),
      IntKind.wrap IntKind.i64 (Int.ofNat (i + (1 : Nat))) = Int.ofNat (i + (1 : Nat)),
      (0 : Int) ≤ Int.ofNat (i + (1 : Nat)),
      Int.ofNat (i + (1 : Nat)) ≤ Int.ofNat (List.length (List.map Rw.row l)),
      Int.ofNat (List.length (List.map Rw.row l)) ≤ Int.ofNat (List.length (List.map Rw.row l)),
      List.drop (Int.toNat (Int.ofNat (i + (1 : Nat)))) (List.take (List.length (List.map Rw.row l)) (List.map Rw.row l)) = List.map Rw.row (List.drop (i + (1 : Nat)) l),
      (List.length (List.map Rw.row (List.take i l)) + List.length (List.map Rw.row (List.drop (i + (1 : Nat)) l))) * (128 : Nat) ≤ (140737488355328 : Nat),
      List.map Rw.row (List.take i l) ++ List.map Rw.row (List.drop (i + (1 : Nat)) l) = List.map Rw.row (List.take i l ++ List.drop (i + (1 : Nat)) l),
      Contract Try.prog (34 : Nat) [V.agg [I (Rw.c y (0 : Nat)), I (Rw.c y (1 : Nat)), I (Rw.c y (2 : Nat)), I (Rw.c y (3 : Nat)), I (Rw.c y (4 : Nat)), I (Rw.c y (5 : Nat)), I (Rw.c y (6 : Nat)), I (Rw.c y (7 : Nat)), I (Rw.c y (8 : Nat)), I (Rw.c y (9 : Nat))], V.agg [V.val (Value.int IntKind.u64 (Sp.hi s)), V.val (Value.int IntKind.u64 (Sp.lo s)), V.val (Value.int IntKind.u64 (Sp.id s)), V.val (Value.int IntKind.u64 (Sp.par s)), Sg (Sp.svc s), Sg (Sp.op s), I (Sp.start s), I (Sp.dur s), Bo (Sp.err s), V.sl (2 : Nat) (List.map At.row (Sp.attrs s))], I m] [] (V.agg [I (cnt2 (Rw.c y) s m (0 : Nat)), I (cnt2 (Rw.c y) s m (1 : Nat)), I (cnt2 (Rw.c y) s m (2 : Nat)), I (cnt2 (Rw.c y) s m (3 : Nat)), I (cnt2 (Rw.c y) s m (4 : Nat)), I (cnt2 (Rw.c y) s m (5 : Nat)), I (cnt2 (Rw.c y) s m (6 : Nat)), I (cnt2 (Rw.c y) s m (7 : Nat)), I (cnt2 (Rw.c y) s m (8 : Nat)), I (cnt2 (Rw.c y) s m (9 : Nat))]) [],
      (0 : Int) ≤ (0 : Int),
      (0 : Int) ≤ Int.ofNat i,
      Int.ofNat i ≤ Int.ofNat (List.length (List.map Rw.row (List.take i l ++ List.drop (i + (1 : Nat)) l))),
      List.take i (List.map Rw.row (List.take i l ++ List.drop (i + (1 : Nat)) l)) = List.map Rw.row (List.take i (List.take i l ++ List.drop (i + (1 : Nat)) l)),
      List.length (List.map Rw.row (List.take i (List.take i l ++ List.drop (i + (1 : Nat)) l))) * (128 : Nat) ≤ (140737488355328 : Nat),
      (List.length (List.map Rw.row (List.take i (List.take i l ++ List.drop (i + (1 : Nat)) l))) + (1 : Nat)) * (128 : Nat) ≤ (140737488355328 : Nat),
      (0 : Int) ≤ Int.ofNat i,
      Int.ofNat i ≤ Int.ofNat (List.length (List.map Rw.row (List.take i l ++ List.drop (i + (1 : Nat)) l))),
      Int.ofNat (List.length (List.map Rw.row (List.take i l ++ List.drop (i + (1 : Nat)) l))) ≤ Int.ofNat (List.length (List.map Rw.row (List.take i l ++ List.drop (i + (1 : Nat)) l))),
      List.drop i (List.take (List.length (List.map Rw.row (List.take i l ++ List.drop (i + (1 : Nat)) l))) (List.map Rw.row (List.take i l ++ List.drop (i + (1 : Nat)) l))) = List.map Rw.row (List.drop i (List.take i l ++ List.drop (i + (1 : Nat)) l)),
      (List.length (List.map Rw.row (List.take i (List.take i l ++ List.drop (i + (1 : Nat)) l)) ++ [[I (Int.ofNat v), I (winW (Int.ofNat v) (Sp.start s)), Sg (Sp.svc s), Sg (Sp.op s), I (cnt2 (Rw.c y) s m (0 : Nat)), I (cnt2 (Rw.c y) s m (1 : Nat)), I (cnt2 (Rw.c y) s m (2 : Nat)), I (cnt2 (Rw.c y) s m (3 : Nat)), I (cnt2 (Rw.c y) s m (4 : Nat)), I (cnt2 (Rw.c y) s m (5 : Nat)), I (cnt2 (Rw.c y) s m (6 : Nat)), I (cnt2 (Rw.c y) s m (7 : Nat)), I (cnt2 (Rw.c y) s m (8 : Nat)), I (cnt2 (Rw.c y) s m (9 : Nat))]]) + List.length (List.map Rw.row (List.drop i (List.take i l ++ List.drop (i + (1 : Nat)) l)))) * (128 : Nat) ≤ (140737488355328 : Nat),
      IntKind.wrap IntKind.i64 (Int.ofNat (v + (1 : Nat))) = Int.ofNat (v + (1 : Nat))] (by kernel_rfl)
    (by
      simp only [allP]
      and_intros <;> first
        | omega
        | (simp; omega)
        | (simp [hy]; done)
        | exact cLess (keyR s (v : Int)) y
        | (show (!lessR (keyR s (v : Int)) y) = _; rw [hb]; rfl)
        | exact cAddC y.c s m
        | (rw [List.take_length, List.map_drop]; done)
        | (rw [List.take_length, ← List.map_drop]; rfl)
        | exact cWinR _ _
        | exact i64_small (by simp; omega)
        | exact hl)

theorem aroF (l : List Rw) (s : Sp) (m : Int) (v i : Nat) (y : Rw) (hv : v < 3) (hs : l.length ≤ 1000000) (hl : LoopC Try.prog 0 89 ariB (arI l s m v (keyR s (v : Int)) 0) (.exit 2) (arI l s m v (keyR s (v : Int)) i)) (hi : i < l.length) (hy : l[i]? = some y) (hb : lessR (keyR s (v : Int)) y = false)  : CodeC Try.prog 0 89 aroB (arO l s m v) .normal (arO (putR ((l.take i ++ l.drop (i + 1))) i (cntRw (keyR s (v : Int)) y.c s m)) s m (v + 1)) := by
  exact CodeC.cast (by
    first
      | (simp only [putR, cntRw, arO, List.map_append, List.map_cons, List.map_nil, cond_true, cond_false]; rfl)) (aroF_0 l s m v i y hv hs hl hi hy hb )

theorem aroZ_0 (l : List Rw) (s : Sp) (m : Int)  : CodeC Try.prog 0 89 aroB (arO l s m 3) (Ex.exit (0 : Nat)) ({ env := [((0 : Nat), V.sl (14 : Nat) (List.map Rw.row l)), ((2 : Nat), I m), ((4 : Nat), V.ptr (900 : Nat) (0 : Nat) (0 : Nat) (0 : Nat)), ((7 : Nat), I (3 : Int))], st := [((900 : Nat), Obj.box [V.val (Value.int IntKind.u64 (Sp.hi s)), V.val (Value.int IntKind.u64 (Sp.lo s)), V.val (Value.int IntKind.u64 (Sp.id s)), V.val (Value.int IntKind.u64 (Sp.par s)), Sg (Sp.svc s), Sg (Sp.op s), I (Sp.start s), I (Sp.dur s), Bo (Sp.err s), V.sl (2 : Nat) (List.map At.row (Sp.attrs s))])], ids := [(900 : Nat)] }) :=
  runP hmix [] ⟨[0, 2, 4, 7], [(900, 900)], []⟩ [
      ] (by kernel_rfl)
    trivial

theorem aroZ (l : List Rw) (s : Sp) (m : Int)   : CodeC Try.prog 0 89 aroB (arO l s m 3) (.exit 0) (arO l s m 3) := by
  exact CodeC.cast (by
    first
      | rfl) (aroZ_0 l s m  )

theorem addRN_0 (l : List Rw) (s : Sp) (m : Int) (hs : l.length ≤ 1000000) (hr : rightS s = false) : Contract Try.prog 20 [.sl 14 (l.map Rw.row), s.v, I m] [] (V.own (0 : Nat)) ([some (Obj.arr (14 : Nat) (List.map Rw.row l))]) :=
  vcP hmix [.reg 1 [(1, [.call [] [] (Bo (rightS s)) []], none), (2, [], some true)]] [402000] [
      Contract Try.prog (15 : Nat) [V.agg [V.val (Value.int IntKind.u64 (Sp.hi s)), V.val (Value.int IntKind.u64 (Sp.lo s)), V.val (Value.int IntKind.u64 (Sp.id s)), V.val (Value.int IntKind.u64 (Sp.par s)), Sg (Sp.svc s), Sg (Sp.op s), I (Sp.start s), I (Sp.dur s), Bo (Sp.err s), V.sl (2 : Nat) (List.map At.row (Sp.attrs s))]] [] (Bo (rightS s)) [],
      (!rightS s) = true,
      List.length (List.map Rw.row l) * (128 : Nat) ≤ (140737488355328 : Nat)] (by kernel_rfl)
    (by
      simp only [allP]
      and_intros <;> first
        | exact cRightR s
        | (simp [hr]; done)
        | (simp; omega))

theorem addRN (l : List Rw) (s : Sp) (m : Int) (hs : l.length ≤ 1000000) (hr : rightS s = false) : Contract Try.prog 20 [.sl 14 (l.map Rw.row), s.v, I m] [] (.own 0) [some (.arr 14 (l.map Rw.row))] := by
  exact Contract.cast (by
    first
      | rfl) (by
    first
      | rfl) (addRN_0 l s m hs hr )

theorem addRY_0 (l K : List Rw) (s : Sp) (m : Int) (hr : rightS s = true) (hl : LoopC Try.prog 0 89 aroB (arO l s m 0) (.exit 0) (arO K s m 3)) : Contract Try.prog 20 [.sl 14 (l.map Rw.row), s.v, I m] [] (V.sl (14 : Nat) (List.map Rw.row K)) ([]) :=
  vcP hmix [.reg 1 [(1, [.call [] [] (Bo (rightS s)) []], none), (2, [], some false)], .cut ⟨[0, 2, 4, 7], [(1000, 900)], []⟩ (.exit 0) (arO K s m 3)] [] [
      Contract Try.prog (15 : Nat) [V.agg [V.val (Value.int IntKind.u64 (Sp.hi s)), V.val (Value.int IntKind.u64 (Sp.lo s)), V.val (Value.int IntKind.u64 (Sp.id s)), V.val (Value.int IntKind.u64 (Sp.par s)), Sg (Sp.svc s), Sg (Sp.op s), I (Sp.start s), I (Sp.dur s), Bo (Sp.err s), V.sl (2 : Nat) (List.map At.row (Sp.attrs s))]] [] (Bo (rightS s)) [],
      (!rightS s) = false,
      LoopC Try.prog (0 : Nat) (89 : Nat) aroB { env := [((0 : Nat), V.sl (14 : Nat) (List.map Rw.row l)), ((2 : Nat), I m), ((4 : Nat), V.ptr (900 : Nat) (0 : Nat) (0 : Nat) (0 : Nat)), ((7 : Nat), I (0 : Int))], st := [((900 : Nat), Obj.box [V.val (Value.int IntKind.u64 (Sp.hi s)), V.val (Value.int IntKind.u64 (Sp.lo s)), V.val (Value.int IntKind.u64 (Sp.id s)), V.val (Value.int IntKind.u64 (Sp.par s)), Sg (Sp.svc s), Sg (Sp.op s), I (Sp.start s), I (Sp.dur s), Bo (Sp.err s), V.sl (2 : Nat) (List.map At.row (Sp.attrs s))])], ids := [(900 : Nat)] } (Ex.exit (0 : Nat)) { env := [((0 : Nat), V.sl (14 : Nat) (List.map Rw.row K)), ((2 : Nat), I m), ((4 : Nat), V.ptr (900 : Nat) (0 : Nat) (0 : Nat) (0 : Nat)), ((7 : Nat), I (3 : Int))], st := [((900 : Nat), Obj.box (Sp.row s))], ids := [(900 : Nat)] }] (by kernel_rfl)
    (by
      simp only [allP]
      and_intros <;> first
        | exact cRightR s
        | (simp [hr]; done)
        | exact hl)

theorem addRY (l K : List Rw) (s : Sp) (m : Int) (hr : rightS s = true) (hl : LoopC Try.prog 0 89 aroB (arO l s m 0) (.exit 0) (arO K s m 3)) : Contract Try.prog 20 [.sl 14 (l.map Rw.row), s.v, I m] [] (.sl 14 (K.map Rw.row)) [] := by
  exact Contract.cast (by
    first
      | rfl) (by
    first
      | rfl) (addRY_0 l K s m hr hl )

end Go.Proofs.Ytigakemkanobaaa
