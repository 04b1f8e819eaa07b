/- rollup: which rows are behind. -/
import Derived.Test.YtigakemkanobaaaRwQ
import Derived.Test.YtigakemkanobaaaRwF
namespace Go.Proofs.Ytigakemkanobaaa
open E
set_option maxRecDepth 100000
set_option linter.unusedVariables false
set_option linter.unusedSimpArgs false


/-- A number less another one, none too great. -/
def lessC (a b : Int) : Int := bif decide (b > 0) && decide (IntKind.i64.wrap (a + -b) > a) then -9223372036854775808 else bif decide (b < 0) && decide (IntKind.i64.wrap (a + -b) < a) then 9223372036854775807 else IntKind.i64.wrap (a + -b)
def h3 (hz : Nat → Int) : List V := [I (hz 0), I (hz 1), I (hz 2)]
/-- Whether a row is behind. -/
def goneB (sec : Int) (hz : Nat → Int) (r : Rw) : Bool := bif goodW r.lev r.win then decide ((r.win + 1) * lenW r.lev ≤ lessC sec (hz r.lev.toNat)) else true
def FLessC : List V → Option V
  | [.val (.int _ a), .val (.int _ b)] => some (I (lessC a b))
  | _ => none
theorem cLessC_0 (a b : Int)  (tq0 : (decide (b > (0 : Int))) = true) (tq1 : (decide (IntKind.wrap IntKind.i64 (a + -b) > a)) = true) : Contract Try.prog 38 [I a, I b] [] (I (-9223372036854775808 : Int)) ([]) :=
  vcP hmix [.reg 2 [(2, [], some true), (7, [], some true)]] [] [
      decide (b > (0 : Int)) = true,
      decide (IntKind.wrap IntKind.i64 (a + -b) > a) = true] (by kernel_rfl)
    (by
      have d0 := tq0
      have d1 := tq1
      try simp only [Int.ofNat_eq_natCast, List.length_map, Bool.not_eq_true', Bool.not_eq_false', decide_eq_true_eq, decide_eq_false_iff_not] at d0 d1
      simp only [allP]
      and_intros <;> first
        | omega)

theorem cLessC_1 (a b : Int)  (tq0 : (decide (b > (0 : Int))) = true) (tq1 : (decide (IntKind.wrap IntKind.i64 (a + -b) > a)) = false) (tq2 : (decide (b < (0 : Int))) = true) (tq3 : (decide (IntKind.wrap IntKind.i64 (a + -b) < a)) = true) : Contract Try.prog 38 [I a, I b] [] (I (9223372036854775807 : Int)) ([]) :=
  vcP hmix [.reg 2 [(2, [], some true), (7, [], some false)], .reg 4 [(2, [], some true), (7, [], some true)]] [] [
      decide (b > (0 : Int)) = true,
      decide (IntKind.wrap IntKind.i64 (a + -b) > a) = false,
      decide (b < (0 : Int)) = true,
      decide (IntKind.wrap IntKind.i64 (a + -b) < a) = true] (by kernel_rfl)
    (by
      have d0 := tq0
      have d1 := tq1
      have d2 := tq2
      have d3 := tq3
      try simp only [Int.ofNat_eq_natCast, List.length_map, Bool.not_eq_true', Bool.not_eq_false', decide_eq_true_eq, decide_eq_false_iff_not] at d0 d1 d2 d3
      simp only [allP]
      and_intros <;> first
        | omega)

theorem cLessC_2 (a b : Int)  (tq0 : (decide (b > (0 : Int))) = true) (tq1 : (decide (IntKind.wrap IntKind.i64 (a + -b) > a)) = false) (tq2 : (decide (b < (0 : Int))) = true) (tq3 : (decide (IntKind.wrap IntKind.i64 (a + -b) < a)) = false) : Contract Try.prog 38 [I a, I b] [] (I (IntKind.wrap IntKind.i64 (a + -b))) ([]) :=
  vcP hmix [.reg 2 [(2, [], some true), (7, [], some false)], .reg 4 [(2, [], some true), (7, [], some false)]] [] [
      decide (b > (0 : Int)) = true,
      decide (IntKind.wrap IntKind.i64 (a + -b) > a) = false,
      decide (b < (0 : Int)) = true,
      decide (IntKind.wrap IntKind.i64 (a + -b) < a) = false] (by kernel_rfl)
    (by
      have d0 := tq0
      have d1 := tq1
      have d2 := tq2
      have d3 := tq3
      try simp only [Int.ofNat_eq_natCast, List.length_map, Bool.not_eq_true', Bool.not_eq_false', decide_eq_true_eq, decide_eq_false_iff_not] at d0 d1 d2 d3
      simp only [allP]
      and_intros <;> first
        | omega)

theorem cLessC_3 (a b : Int)  (tq0 : (decide (b > (0 : Int))) = true) (tq1 : (decide (IntKind.wrap IntKind.i64 (a + -b) > a)) = false) (tq2 : (decide (b < (0 : Int))) = false) : Contract Try.prog 38 [I a, I b] [] (I (IntKind.wrap IntKind.i64 (a + -b))) ([]) :=
  vcP hmix [.reg 2 [(2, [], some true), (7, [], some false)], .reg 4 [(2, [], some false)]] [] [
      decide (b > (0 : Int)) = true,
      decide (IntKind.wrap IntKind.i64 (a + -b) > a) = false,
      decide (b < (0 : Int)) = false] (by kernel_rfl)
    (by
      have d0 := tq0
      have d1 := tq1
      have d2 := tq2
      try simp only [Int.ofNat_eq_natCast, List.length_map, Bool.not_eq_true', Bool.not_eq_false', decide_eq_true_eq, decide_eq_false_iff_not] at d0 d1 d2
      simp only [allP]
      and_intros <;> first
        | omega)

theorem cLessC_4 (a b : Int)  (tq0 : (decide (b > (0 : Int))) = false) (tq1 : (decide (b < (0 : Int))) = true) (tq2 : (decide (IntKind.wrap IntKind.i64 (a + -b) < a)) = true) : Contract Try.prog 38 [I a, I b] [] (I (9223372036854775807 : Int)) ([]) :=
  vcP hmix [.reg 2 [(2, [], some false)], .reg 4 [(2, [], some true), (7, [], some true)]] [] [
      decide (b > (0 : Int)) = false,
      decide (b < (0 : Int)) = true,
      decide (IntKind.wrap IntKind.i64 (a + -b) < a) = true] (by kernel_rfl)
    (by
      have d0 := tq0
      have d1 := tq1
      have d2 := tq2
      try simp only [Int.ofNat_eq_natCast, List.length_map, Bool.not_eq_true', Bool.not_eq_false', decide_eq_true_eq, decide_eq_false_iff_not] at d0 d1 d2
      simp only [allP]
      and_intros <;> first
        | omega)

theorem cLessC_5 (a b : Int)  (tq0 : (decide (b > (0 : Int))) = false) (tq1 : (decide (b < (0 : Int))) = true) (tq2 : (decide (IntKind.wrap IntKind.i64 (a + -b) < a)) = false) : Contract Try.prog 38 [I a, I b] [] (I (IntKind.wrap IntKind.i64 (a + -b))) ([]) :=
  vcP hmix [.reg 2 [(2, [], some false)], .reg 4 [(2, [], some true), (7, [], some false)]] [] [
      decide (b > (0 : Int)) = false,
      decide (b < (0 : Int)) = true,
      decide (IntKind.wrap IntKind.i64 (a + -b) < a) = false] (by kernel_rfl)
    (by
      have d0 := tq0
      have d1 := tq1
      have d2 := tq2
      try simp only [Int.ofNat_eq_natCast, List.length_map, Bool.not_eq_true', Bool.not_eq_false', decide_eq_true_eq, decide_eq_false_iff_not] at d0 d1 d2
      simp only [allP]
      and_intros <;> first
        | omega)

theorem cLessC_6 (a b : Int)  (tq0 : (decide (b > (0 : Int))) = false) (tq1 : (decide (b < (0 : Int))) = false) : Contract Try.prog 38 [I a, I b] [] (I (IntKind.wrap IntKind.i64 (a + -b))) ([]) :=
  vcP hmix [.reg 2 [(2, [], some false)], .reg 4 [(2, [], some false)]] [] [
      decide (b > (0 : Int)) = false,
      decide (b < (0 : Int)) = false] (by kernel_rfl)
    (by
      have d0 := tq0
      have d1 := tq1
      try simp only [Int.ofNat_eq_natCast, List.length_map, Bool.not_eq_true', Bool.not_eq_false', decide_eq_true_eq, decide_eq_false_iff_not] at d0 d1
      simp only [allP]
      and_intros <;> first
        | omega)

theorem cLessC (a b : Int)  : Contract Try.prog 38 [I a, I b] [] (I (lessC a b)) [] := by
  rcases tf (decide (b > (0 : Int))) with tq0 | tq0
  · rcases tf (decide (IntKind.wrap IntKind.i64 (a + -b) > a)) with tq1 | tq1
    · exact Contract.cast (by
        first
          | (simp only [lessC, tq0, tq1, cond_true, cond_false]; rfl)) (by
        first
          | rfl) (cLessC_0 a b  tq0 tq1)
    · rcases tf (decide (b < (0 : Int))) with tq2 | tq2
      · rcases tf (decide (IntKind.wrap IntKind.i64 (a + -b) < a)) with tq3 | tq3
        · exact Contract.cast (by
            first
              | (simp only [lessC, tq0, tq1, tq2, tq3, cond_true, cond_false]; rfl)) (by
            first
              | rfl) (cLessC_1 a b  tq0 tq1 tq2 tq3)
        · exact Contract.cast (by
            first
              | (simp only [lessC, tq0, tq1, tq2, tq3, cond_true, cond_false]; rfl)) (by
            first
              | rfl) (cLessC_2 a b  tq0 tq1 tq2 tq3)
      · exact Contract.cast (by
          first
            | (simp only [lessC, tq0, tq1, tq2, cond_true, cond_false]; rfl)) (by
          first
            | rfl) (cLessC_3 a b  tq0 tq1 tq2)
  · rcases tf (decide (b < (0 : Int))) with tq1 | tq1
    · rcases tf (decide (IntKind.wrap IntKind.i64 (a + -b) < a)) with tq2 | tq2
      · exact Contract.cast (by
          first
            | (simp only [lessC, tq0, tq1, tq2, cond_true, cond_false]; rfl)) (by
          first
            | rfl) (cLessC_4 a b  tq0 tq1 tq2)
      · exact Contract.cast (by
          first
            | (simp only [lessC, tq0, tq1, tq2, cond_true, cond_false]; rfl)) (by
          first
            | rfl) (cLessC_5 a b  tq0 tq1 tq2)
    · exact Contract.cast (by
        first
          | (simp only [lessC, tq0, tq1, cond_true, cond_false]; rfl)) (by
        first
          | rfl) (cLessC_6 a b  tq0 tq1)

theorem gone0_0 (x : Rw) (sec : Int) (hz : Nat → Int) (hg : goodW x.lev x.win = true) (hv : x.lev = 0) : Contract Try.prog 36 [x.v, .ptr 0 0 0 0, .ptr 1 0 0 0] [.box [I sec], .box (h3 hz)] (Bo (decide ((Rw.win x + (1 : Int)) * lenW (Rw.lev x) ≤ lessC sec (hz (0 : Nat))))) ([some (Obj.box [I sec]), some (Obj.box [I (hz (0 : Nat)), I (hz (1 : Nat)), I (hz (2 : Nat))])]) :=
  vcP hmix [.reg 1 [(4, [.call [] [] (.tup [I (x.win * lenW x.lev), I ((x.win + 1) * lenW x.lev), Bo true]) []], none)], .reg 2 [(7, [.idx 0], none)], .tab [(38, FLessC)]] [] [
      Contract Try.prog (37 : Nat) [I (Rw.lev x), I (Rw.win x)] [] (V.tup [I (Rw.win x * lenW (Rw.lev x)), I ((Rw.win x + (1 : Int)) * lenW (Rw.lev x)), Bo true]) [],
      Rw.lev x = (0 : Int),
      Contract Try.prog (38 : Nat) [I sec, I (hz (0 : Nat))] [] (I (lessC sec (hz (0 : Nat)))) []] (by kernel_rfl)
    (by
      simp only [allP]
      and_intros <;> first
        | omega
        | (have h := cSpan x.lev x.win; unfold spanV at h; rw [hg] at h; exact h)
        | exact cLessC _ _)

theorem gone0 (x : Rw) (sec : Int) (hz : Nat → Int) (hg : goodW x.lev x.win = true) (hv : x.lev = 0) : Contract Try.prog 36 [x.v, .ptr 0 0 0 0, .ptr 1 0 0 0] [.box [I sec], .box (h3 hz)] (Bo (goneB sec hz x)) [some (.box [I sec]), some (.box (h3 hz))] := by
  exact Contract.cast (by
    first
      | (simp only [goneB, hg, hv, Bool.cond_eq_ite, Bool.and_eq_true, Bool.or_eq_true, Bool.not_eq_true', decide_eq_true_eq, beq_iff_eq, beq_eq_false_iff_ne, ne_eq]; (repeat' split) <;> first | rfl | (exfalso; omega) | omega | (simp_all; done) | (exfalso; simp_all; omega))) (by
    first
      | rfl) (gone0_0 x sec hz hg hv )

theorem gone1_0 (x : Rw) (sec : Int) (hz : Nat → Int) (hg : goodW x.lev x.win = true) (hv : x.lev = 1) : Contract Try.prog 36 [x.v, .ptr 0 0 0 0, .ptr 1 0 0 0] [.box [I sec], .box (h3 hz)] (Bo (decide ((Rw.win x + (1 : Int)) * lenW (Rw.lev x) ≤ lessC sec (hz (1 : Nat))))) ([some (Obj.box [I sec]), some (Obj.box [I (hz (0 : Nat)), I (hz (1 : Nat)), I (hz (2 : Nat))])]) :=
  vcP hmix [.reg 1 [(4, [.call [] [] (.tup [I (x.win * lenW x.lev), I ((x.win + 1) * lenW x.lev), Bo true]) []], none)], .reg 2 [(7, [.idx 1], none)], .tab [(38, FLessC)]] [] [
      Contract Try.prog (37 : Nat) [I (Rw.lev x), I (Rw.win x)] [] (V.tup [I (Rw.win x * lenW (Rw.lev x)), I ((Rw.win x + (1 : Int)) * lenW (Rw.lev x)), Bo true]) [],
      Rw.lev x = (1 : Int),
      Contract Try.prog (38 : Nat) [I sec, I (hz (1 : Nat))] [] (I (lessC sec (hz (1 : Nat)))) []] (by kernel_rfl)
    (by
      simp only [allP]
      and_intros <;> first
        | omega
        | (have h := cSpan x.lev x.win; unfold spanV at h; rw [hg] at h; exact h)
        | exact cLessC _ _)

theorem gone1 (x : Rw) (sec : Int) (hz : Nat → Int) (hg : goodW x.lev x.win = true) (hv : x.lev = 1) : Contract Try.prog 36 [x.v, .ptr 0 0 0 0, .ptr 1 0 0 0] [.box [I sec], .box (h3 hz)] (Bo (goneB sec hz x)) [some (.box [I sec]), some (.box (h3 hz))] := by
  exact Contract.cast (by
    first
      | (simp only [goneB, hg, hv, Bool.cond_eq_ite, Bool.and_eq_true, Bool.or_eq_true, Bool.not_eq_true', decide_eq_true_eq, beq_iff_eq, beq_eq_false_iff_ne, ne_eq]; (repeat' split) <;> first | rfl | (exfalso; omega) | omega | (simp_all; done) | (exfalso; simp_all; omega))) (by
    first
      | rfl) (gone1_0 x sec hz hg hv )

theorem gone2_0 (x : Rw) (sec : Int) (hz : Nat → Int) (hg : goodW x.lev x.win = true) (hv : x.lev = 2) : Contract Try.prog 36 [x.v, .ptr 0 0 0 0, .ptr 1 0 0 0] [.box [I sec], .box (h3 hz)] (Bo (decide ((Rw.win x + (1 : Int)) * lenW (Rw.lev x) ≤ lessC sec (hz (2 : Nat))))) ([some (Obj.box [I sec]), some (Obj.box [I (hz (0 : Nat)), I (hz (1 : Nat)), I (hz (2 : Nat))])]) :=
  vcP hmix [.reg 1 [(4, [.call [] [] (.tup [I (x.win * lenW x.lev), I ((x.win + 1) * lenW x.lev), Bo true]) []], none)], .reg 2 [(7, [.idx 2], none)], .tab [(38, FLessC)]] [] [
      Contract Try.prog (37 : Nat) [I (Rw.lev x), I (Rw.win x)] [] (V.tup [I (Rw.win x * lenW (Rw.lev x)), I ((Rw.win x + (1 : Int)) * lenW (Rw.lev x)), Bo true]) [],
      Rw.lev x = (2 : Int),
      Contract Try.prog (38 : Nat) [I sec, I (hz (2 : Nat))] [] (I (lessC sec (hz (2 : Nat)))) []] (by kernel_rfl)
    (by
      simp only [allP]
      and_intros <;> first
        | omega
        | (have h := cSpan x.lev x.win; unfold spanV at h; rw [hg] at h; exact h)
        | exact cLessC _ _)

theorem gone2 (x : Rw) (sec : Int) (hz : Nat → Int) (hg : goodW x.lev x.win = true) (hv : x.lev = 2) : Contract Try.prog 36 [x.v, .ptr 0 0 0 0, .ptr 1 0 0 0] [.box [I sec], .box (h3 hz)] (Bo (goneB sec hz x)) [some (.box [I sec]), some (.box (h3 hz))] := by
  exact Contract.cast (by
    first
      | (simp only [goneB, hg, hv, Bool.cond_eq_ite, Bool.and_eq_true, Bool.or_eq_true, Bool.not_eq_true', decide_eq_true_eq, beq_iff_eq, beq_eq_false_iff_ne, ne_eq]; (repeat' split) <;> first | rfl | (exfalso; omega) | omega | (simp_all; done) | (exfalso; simp_all; omega))) (by
    first
      | rfl) (gone2_0 x sec hz hg hv )

theorem goneN_0 (x : Rw) (sec : Int) (hz : Nat → Int) (hg : goodW x.lev x.win = false) : Contract Try.prog 36 [x.v, .ptr 0 0 0 0, .ptr 1 0 0 0] [.box [I sec], .box (h3 hz)] (Bo true) ([some (Obj.box [I sec]), some (Obj.box [I (hz (0 : Nat)), I (hz (1 : Nat)), I (hz (2 : Nat))])]) :=
  vcP hmix [.reg 1 [(4, [.call [] [] (.tup [I 0, I 0, Bo false]) []], none)]] [] [
      Contract Try.prog (37 : Nat) [I (Rw.lev x), I (Rw.win x)] [] (V.tup [I (0 : Int), I (0 : Int), Bo false]) []] (by kernel_rfl)
    (by
      simp only [allP]
      and_intros <;> first
        | (have h := cSpan x.lev x.win; unfold spanV at h; rw [hg] at h; exact h))

theorem goneN (x : Rw) (sec : Int) (hz : Nat → Int) (hg : goodW x.lev x.win = false) : Contract Try.prog 36 [x.v, .ptr 0 0 0 0, .ptr 1 0 0 0] [.box [I sec], .box (h3 hz)] (Bo (goneB sec hz x)) [some (.box [I sec]), some (.box (h3 hz))] := by
  exact Contract.cast (by
    first
      | (simp only [goneB, hg, cond_true, cond_false]; done)) (by
    first
      | rfl) (goneN_0 x sec hz hg )

theorem cGone (x : Rw) (sec : Int) (hz : Nat → Int) : Contract Try.prog 36 [x.v, .ptr 0 0 0 0, .ptr 1 0 0 0] [.box [I sec], .box (h3 hz)] (Bo (goneB sec hz x)) [some (.box [I sec]), some (.box (h3 hz))] := by
  rcases tf (goodW x.lev x.win) with hg | hg
  · rcases lenW_cases x.lev with ⟨e, _⟩ | ⟨e, _⟩ | ⟨e, _⟩ | ⟨_, e⟩
    · exact gone0 x sec hz hg e
    · exact gone1 x sec hz hg e
    · exact gone2 x sec hz hg e
    · exfalso
      unfold goodW at hg
      rw [e] at hg
      simp at hg
  · exact goneN x sec hz hg

def ixXS (l : List Rw) (sec : Int) (hz : Nat → Int) (i : Nat) (r : Int) : SL := ⟨[(0, .sl 14 (l.map Rw.row)), (1, .clo (.func 36) [] [.ptr 0 0 0 0, .ptr 1 0 0 0]), (4, I r), (7, I (l.length : Int)), (8, I (i : Int))], [(0, .box [I sec]), (1, .box (h3 hz))], [0, 1, 0, 1]⟩
noncomputable def ixXB : Code := codeAt Try.prog 42 [true, false, true, false, false]

theorem ixXNo (l : List Rw) (sec : Int) (hz : Nat → Int) (x : Rw) (i : Nat) (h : i < l.length) (hx : l[i]? = some x) (hs : l.length ≤ 1000000000000000) (hp : (goneB sec hz) x = false) : CodeC Try.prog 2 19 ixXB (ixXS l sec hz i 0) .normal (ixXS l sec hz (i + 1) 0) :=
  runP hmix [.reg 2 [(0, [], some true)], .reg 4 [(4, [.row (Rw.row x)], none), (5, [.call [0, 1] [] (Bo ((goneB sec hz) x)) [some (.box [I sec]), some (.box (h3 hz))]], some false)], .reg 6 [(0, [.be (I ((i + 1 : Nat) : Int))], none)]] ⟨[0, 1, 4, 7, 8], [(0, 0), (1, 1)], []⟩ [
      decide (Int.ofNat i < Int.ofNat (List.length l)) = true,
      (0 : Int) ≤ Int.ofNat i,
      Int.ofNat i < Int.ofNat (List.length (List.map Rw.row l)),
      (List.map Rw.row l)[i]? = some (Rw.row x),
      Contract Try.prog (36 : Nat) [V.agg [I (Rw.lev x), I (Rw.win x), Sg (Rw.svc x), Sg (Rw.op x), I (Rw.c x (0 : Nat)), I (Rw.c x (1 : Nat)), I (Rw.c x (2 : Nat)), I (Rw.c x (3 : Nat)), I (Rw.c x (4 : Nat)), I (Rw.c x (5 : Nat)), I (Rw.c x (6 : Nat)), I (Rw.c x (7 : Nat)), I (Rw.c x (8 : Nat)), I (Rw.c x (9 : Nat))], V.ptr (0 : Nat) (0 : Nat) (0 : Nat) (0 : Nat), V.ptr (1 : Nat) (0 : Nat) (0 : Nat) (0 : Nat)] [Obj.box [I sec], Obj.box [I (hz (0 : Nat)), I (hz (1 : Nat)), I (hz (2 : Nat))]] (Bo (goneB sec hz x)) [some (Obj.box [I sec]), some (Obj.box [I (hz (0 : Nat)), I (hz (1 : Nat)), I (hz (2 : Nat))])],
      goneB sec hz x = false,
      IntKind.wrap IntKind.i64 (Int.ofNat (i + (1 : Nat))) = Int.ofNat (i + (1 : Nat))] (by kernel_rfl)
    (by
      simp only [allP]
      and_intros <;> first
        | omega
        | exact cGone x sec hz
        | (simp; omega)
        | (simp [hx]; done)
        | exact i64_small (by simp; omega))

theorem ixXYes (l : List Rw) (sec : Int) (hz : Nat → Int) (x : Rw) (i : Nat) (h : i < l.length) (hx : l[i]? = some x) (hs : l.length ≤ 1000000000000000) (hp : (goneB sec hz) x = true) : CodeC Try.prog 2 19 ixXB (ixXS l sec hz i 0) .ret (ixXS l sec hz i (i : Int)) :=
  runP hmix [.reg 2 [(0, [], some true)], .reg 4 [(4, [.row (Rw.row x)], none), (5, [.call [0, 1] [] (Bo ((goneB sec hz) x)) [some (.box [I sec]), some (.box (h3 hz))]], some true)]] ⟨[0, 1, 4, 7, 8], [(0, 0), (1, 1)], []⟩ [
      decide (Int.ofNat i < Int.ofNat (List.length l)) = true,
      (0 : Int) ≤ Int.ofNat i,
      Int.ofNat i < Int.ofNat (List.length (List.map Rw.row l)),
      (List.map Rw.row l)[i]? = some (Rw.row x),
      Contract Try.prog (36 : Nat) [V.agg [I (Rw.lev x), I (Rw.win x), Sg (Rw.svc x), Sg (Rw.op x), I (Rw.c x (0 : Nat)), I (Rw.c x (1 : Nat)), I (Rw.c x (2 : Nat)), I (Rw.c x (3 : Nat)), I (Rw.c x (4 : Nat)), I (Rw.c x (5 : Nat)), I (Rw.c x (6 : Nat)), I (Rw.c x (7 : Nat)), I (Rw.c x (8 : Nat)), I (Rw.c x (9 : Nat))], V.ptr (0 : Nat) (0 : Nat) (0 : Nat) (0 : Nat), V.ptr (1 : Nat) (0 : Nat) (0 : Nat) (0 : Nat)] [Obj.box [I sec], Obj.box [I (hz (0 : Nat)), I (hz (1 : Nat)), I (hz (2 : Nat))]] (Bo (goneB sec hz x)) [some (Obj.box [I sec]), some (Obj.box [I (hz (0 : Nat)), I (hz (1 : Nat)), I (hz (2 : Nat))])],
      goneB sec hz x = true] (by kernel_rfl)
    (by
      simp only [allP]
      and_intros <;> first
        | omega
        | exact cGone x sec hz
        | (simp; omega)
        | (simp [hx]; done))

theorem ixXEnd (l : List Rw) (sec : Int) (hz : Nat → Int) (i : Nat) (h : l.length ≤ i) : CodeC Try.prog 2 19 ixXB (ixXS l sec hz i 0) (.exit 0) (ixXS l sec hz i 0) :=
  runP hmix [.reg 2 [(0, [], some false)]] ⟨[0, 1, 4, 7, 8], [(0, 0), (1, 1)], []⟩ [
      decide (Int.ofNat i < Int.ofNat (List.length l)) = false] (by kernel_rfl)
    (by
      simp only [allP]
      and_intros <;> first
        | (simp; omega))

theorem ixXLoop (l : List Rw) (sec : Int) (hz : Nat → Int) (hs : l.length ≤ 1000000000000000) : ∀ (n i : Nat), i + n = l.length →
    match (l.drop i).findIdx? (goneB sec hz) with
    | some j => LoopC Try.prog 2 19 ixXB (ixXS l sec hz i 0) .ret (ixXS l sec hz (i + j) ((i + j : Nat) : Int))
    | none => LoopC Try.prog 2 19 ixXB (ixXS l sec hz i 0) (.exit 0) (ixXS l sec hz l.length 0)
  | 0, i, hi => by
    rw [List.drop_of_length_le (by omega)]
    have : i = l.length := by omega
    subst this
    exact LoopC.last (ixXEnd l sec hz _ (by omega)) (by simp)
  | n + 1, i, hi => by
    have hlt : i < l.length := by omega
    have hx : l[i]? = some l[i] := by simp [hlt]
    have ih := ixXLoop l sec hz hs n (i + 1) (by omega)
    rw [List.drop_eq_getElem_cons hlt, List.findIdx?_cons]
    cases hp : (goneB sec hz) l[i] with
    | true =>
      simp only [if_true, Nat.add_zero]
      exact LoopC.last (ixXYes l sec hz l[i] i hlt hx hs hp) (by simp)
    | false =>
      have r := ixXNo l sec hz l[i] i hlt hx hs hp
      simp only [Bool.false_eq_true, if_false]
      cases hf : (l.drop (i + 1)).findIdx? (goneB sec hz) with
      | none => rw [hf] at ih; exact LoopC.next r ih
      | some j =>
        rw [hf] at ih
        simp only [Option.map_some]
        rw [show i + (j + 1) = i + 1 + j by omega]
        exact LoopC.next r ih

theorem ixXSome (l : List Rw) (sec : Int) (hz : Nat → Int) (j : Nat) (hs : l.length ≤ 1000000000000000) (h : l.findIdx? (goneB sec hz) = some j) : Contract Try.prog 42 [.sl 14 (l.map Rw.row), .clo (.func 36) [] [.ptr 0 0 0 0, .ptr 1 0 0 0]] [.box [I sec], .box (h3 hz)] (I (j : Int)) [some (.box [I sec]), some (.box (h3 hz))] :=
  have hl := ixXLoop l sec hz hs l.length 0 (by omega)
  have hl : LoopC Try.prog 2 19 ixXB (ixXS l sec hz 0 0) .ret (ixXS l sec hz j ((j : Nat) : Int)) := by rw [List.drop_zero, h] at hl; simpa using hl
  vcP hmix [.reg 1 [(1, [.be (I (l.length : Int))], none)], .cut ⟨[0, 1, 4, 7, 8], [(0, 0), (1, 1)], []⟩ .ret (ixXS l sec hz j (j : Int))] [] [(((l.map Rw.row).length : Nat) : Int) = (l.length : Int), LoopC Try.prog 2 19 ixXB (ixXS l sec hz 0 0) .ret (ixXS l sec hz j ((j : Nat) : Int))] (by kernel_rfl) ⟨by simp, hl⟩

theorem ixXNone (l : List Rw) (sec : Int) (hz : Nat → Int) (hs : l.length ≤ 1000000000000000) (h : l.findIdx? (goneB sec hz) = none) : Contract Try.prog 42 [.sl 14 (l.map Rw.row), .clo (.func 36) [] [.ptr 0 0 0 0, .ptr 1 0 0 0]] [.box [I sec], .box (h3 hz)] (I (-1)) [some (.box [I sec]), some (.box (h3 hz))] :=
  have hl := ixXLoop l sec hz hs l.length 0 (by omega)
  have hl : LoopC Try.prog 2 19 ixXB (ixXS l sec hz 0 0) (.exit 0) (ixXS l sec hz l.length 0) := by rw [List.drop_zero, h] at hl; exact hl
  vcP hmix [.reg 1 [(1, [.be (I (l.length : Int))], none)], .cut ⟨[0, 1, 4, 7, 8], [(0, 0), (1, 1)], []⟩ (.exit 0) (ixXS l sec hz l.length 0)] [] [(((l.map Rw.row).length : Nat) : Int) = (l.length : Int), LoopC Try.prog 2 19 ixXB (ixXS l sec hz 0 0) (.exit 0) (ixXS l sec hz l.length 0)] (by kernel_rfl) ⟨by simp, hl⟩

theorem ixX (l : List Rw) (sec : Int) (hz : Nat → Int) (hs : l.length ≤ 1000000000000000) : Contract Try.prog 42 [.sl 14 (l.map Rw.row), .clo (.func 36) [] [.ptr 0 0 0 0, .ptr 1 0 0 0]] [.box [I sec], .box (h3 hz)] (I (idxI (goneB sec hz) l)) [some (.box [I sec]), some (.box (h3 hz))] := by
  unfold idxI
  cases h : l.findIdx? (goneB sec hz) with
  | none => exact ixXNone l sec hz hs h
  | some j => exact ixXSome l sec hz j hs h

end Go.Proofs.Ytigakemkanobaaa
