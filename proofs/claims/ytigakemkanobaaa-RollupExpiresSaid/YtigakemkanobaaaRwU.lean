/- rollup: just those rows go whose window is over so long: the walk. -/
import Derived.Test.YtigakemkanobaaaRwY
import Derived.Test.YtigakemkanobaaaRwS
namespace Go.Proofs.Ytigakemkanobaaa
open E
set_option maxRecDepth 100000
set_option linter.unusedVariables false
set_option linter.unusedSimpArgs false


def exS (sec later : Int) (hz : Nat → Int) (x a : List Rw) (k i : Nat) : SL := ⟨[(1, I sec), (2, I later), (7, .ptr 900 0 0 0), (11, .sl 14 (x.map Rw.row)), (12, .sl 14 (a.map Rw.row)), (13, I (k : Int)), (14, I (i : Int))], [(900, .box (h3 hz))], [900]⟩
def FAlive5 : List V → Option V := fun _ => some (Bo true)
noncomputable def exB : Code := codeAt Try.prog 7 [true, true, true, true, true, true, true, false, true, false, false]

theorem exG0_0 (sec later : Int) (hz : Nat → Int) (x a : List Rw) (k i : Nat) (r : Rw) (hi : i < x.length) (hy : x[i]? = some r) (hs : x.length ≤ 1000) (hg : goodW r.lev r.win = true) (hv : r.lev = 0) (h0 : 0 ≤ sec ∧ sec ≤ 1099511627776) (h1 : 0 ≤ hz 0 ∧ hz 0 ≤ 1099511627776) (hb : decide ((r.win + 1) * lenW r.lev ≤ sec - hz 0) = true) : CodeC Try.prog 0 132 exB (exS sec later hz x a k i) (Ex.normal) ({ env := [((1 : Nat), I sec), ((2 : Nat), I later), ((7 : Nat), V.ptr (900 : Nat) (0 : Nat) (0 : Nat) (0 : Nat)), ((11 : Nat), V.sl (14 : Nat) (List.map Rw.row x)), ((12 : Nat), V.sl (14 : Nat) (List.map Rw.row a)), ((13 : Nat), I (Int.ofNat k)), ((14 : Nat), I (Int.ofNat (i + (1 : Nat))))], st := [((900 : Nat), Obj.box [I (hz (0 : Nat)), I (hz (1 : Nat)), I (hz (2 : Nat))])], ids := [(900 : Nat)] }) :=
  runP hmix [.reg 13 [(3, [], some true)], .reg 15 [(4, [.row (Rw.row r)], none), (9, [.row (Rw.row r)], none), (10, [.call [] [] (.tup [I (r.win * lenW r.lev), I ((r.win + 1) * lenW r.lev), Bo true]) []], none)], .reg 16 [(6, [.row (Rw.row r)], none), (7, [.idx 0], none), (9, [.be (I (sec - hz 0))], none), (10, [], some true)], .reg 14 [(1, [.be (I ((i + 1 : Nat) : Int))], none)]] ⟨[1, 2, 7, 11, 12, 13, 14], [(900, 900)], []⟩ [
      decide (Int.ofNat i < Int.ofNat (List.length (List.map Rw.row x))) = true,
      (0 : Int) ≤ Int.ofNat i,
      Int.ofNat i < Int.ofNat (List.length (List.map Rw.row x)),
      (List.map Rw.row x)[i]? = some (Rw.row r),
      (0 : Int) ≤ Int.ofNat i,
      Int.ofNat i < Int.ofNat (List.length (List.map Rw.row x)),
      (List.map Rw.row x)[i]? = some (Rw.row r),
      Contract Try.prog (25 : Nat) [I (Rw.lev r), I (Rw.win r)] [] (V.tup [I (Rw.win r * lenW (Rw.lev r)), I ((Rw.win r + (1 : Int)) * lenW (Rw.lev r)), Bo true]) [],
      (0 : Int) ≤ Int.ofNat i,
      Int.ofNat i < Int.ofNat (List.length (List.map Rw.row x)),
      (List.map Rw.row x)[i]? = some (Rw.row r),
      Rw.lev r = (0 : Int),
      IntKind.wrap IntKind.i64 (sec + -hz (0 : Nat)) = sec + -hz (0 : Nat),
      decide ((Rw.win r + (1 : Int)) * lenW (Rw.lev r) ≤ sec + -hz (0 : Nat)) = true,
      IntKind.wrap IntKind.i64 (Int.ofNat (i + (1 : Nat))) = Int.ofNat (i + (1 : Nat))] (by kernel_rfl)
    (by
      simp only [allP]
      and_intros <;> first
        | omega
        | with_reducible assumption
        | (simp; omega)
        | (simp [hy]; done)
        | (simp [hk]; done)
        | exact hv
        | exact hb
        | (have h := cSpanR r.lev r.win; unfold spanV at h; rw [hg] at h; exact h)
        | (simp [ba_refl]; done)
        | (rw [← Int.sub_eq_add_neg]; exact i64_small (by omega))
        | exact i64_small (by omega)
        | exact i64_small (by simp; omega)
        | (simp; done)
        | decide)

theorem exG0 (sec later : Int) (hz : Nat → Int) (x a : List Rw) (k i : Nat) (r : Rw) (hi : i < x.length) (hy : x[i]? = some r) (hs : x.length ≤ 1000) (hg : goodW r.lev r.win = true) (hv : r.lev = 0) (h0 : 0 ≤ sec ∧ sec ≤ 1099511627776) (h1 : 0 ≤ hz 0 ∧ hz 0 ≤ 1099511627776) (hb : decide ((r.win + 1) * lenW r.lev ≤ sec - hz 0) = true)  : CodeC Try.prog 0 132 exB (exS sec later hz x a k i) .normal (exS sec later hz x a k (i + 1)) := by
  exact CodeC.cast (by first | rfl | (simp only [cond_true, cond_false]; done) | (simp []; done) | (first | (simp []; done) | (refine congrArg _ ?_; simp []; done) | (refine congrArg _ ?_; simp []; omega) | (simp only [Bool.cond_eq_ite, Bool.and_eq_true, Bool.or_eq_true, Bool.not_eq_true', decide_eq_true_eq, beq_iff_eq, beq_eq_false_iff_ne, ne_eq]; (repeat' split) <;> first | rfl | (exfalso; omega) | omega | (simp_all; done) | (exfalso; simp_all; omega)))) (exG0_0 sec later hz x a k i r hi hy hs hg hv h0 h1 hb )

theorem exK0_0 (sec later : Int) (hz : Nat → Int) (x a : List Rw) (k i : Nat) (r : Rw) (hi : i < x.length) (hy : x[i]? = some r) (hs : x.length ≤ 1000) (hg : goodW r.lev r.win = true) (hv : r.lev = 0) (h0 : 0 ≤ sec ∧ sec ≤ 1099511627776) (h1 : 0 ≤ hz 0 ∧ hz 0 ≤ 1099511627776) (hb : decide ((r.win + 1) * lenW r.lev ≤ sec - hz 0) = false) (hk : a[k]? = some r) (ha : a.length ≤ 1000) : CodeC Try.prog 0 132 exB (exS sec later hz x a k i) (Ex.normal) ({ env := [((1 : Nat), I sec), ((2 : Nat), I later), ((7 : Nat), V.ptr (900 : Nat) (0 : Nat) (0 : Nat) (0 : Nat)), ((11 : Nat), V.sl (14 : Nat) (List.map Rw.row x)), ((12 : Nat), V.sl (14 : Nat) (List.map Rw.row a)), ((13 : Nat), I (Int.ofNat (k + (1 : Nat)))), ((14 : Nat), I (Int.ofNat (i + (1 : Nat))))], st := [((900 : Nat), Obj.box [I (hz (0 : Nat)), I (hz (1 : Nat)), I (hz (2 : Nat))])], ids := [(900 : Nat)] }) :=
  runP hmix [.reg 13 [(3, [], some true)], .reg 15 [(4, [.row (Rw.row r)], none), (9, [.row (Rw.row r)], none), (10, [.call [] [] (.tup [I (r.win * lenW r.lev), I ((r.win + 1) * lenW r.lev), Bo true]) []], none)], .reg 16 [(6, [.row (Rw.row r)], none), (7, [.idx 0], none), (9, [.be (I (sec - hz 0))], none), (10, [], some false)], .reg 17 [(3, [], some false), (8, [.row (Rw.row r)], none), (12, [.row (Rw.row r)], none), (13, [], some false)], .reg 19 [(1, [.be (I ((k + 1 : Nat) : Int))], none)], .reg 14 [(1, [.be (I ((i + 1 : Nat) : Int))], none)]] ⟨[1, 2, 7, 11, 12, 13, 14], [(900, 900)], []⟩ [
      decide (Int.ofNat i < Int.ofNat (List.length (List.map Rw.row x))) = true,
      (0 : Int) ≤ Int.ofNat i,
      Int.ofNat i < Int.ofNat (List.length (List.map Rw.row x)),
      (List.map Rw.row x)[i]? = some (Rw.row r),
      (0 : Int) ≤ Int.ofNat i,
      Int.ofNat i < Int.ofNat (List.length (List.map Rw.row x)),
      (List.map Rw.row x)[i]? = some (Rw.row r),
      Contract Try.prog (25 : Nat) [I (Rw.lev r), I (Rw.win r)] [] (V.tup [I (Rw.win r * lenW (Rw.lev r)), I ((Rw.win r + (1 : Int)) * lenW (Rw.lev r)), Bo true]) [],
      (0 : Int) ≤ Int.ofNat i,
      Int.ofNat i < Int.ofNat (List.length (List.map Rw.row x)),
      (List.map Rw.row x)[i]? = some (Rw.row r),
      Rw.lev r = (0 : Int),
      IntKind.wrap IntKind.i64 (sec + -hz (0 : Nat)) = sec + -hz (0 : Nat),
      decide ((Rw.win r + (1 : Int)) * lenW (Rw.lev r) ≤ sec + -hz (0 : Nat)) = false,
      decide (Int.ofNat k ≥ Int.ofNat (List.length (List.map Rw.row a))) = false,
      (0 : Int) ≤ Int.ofNat k,
      Int.ofNat k < Int.ofNat (List.length (List.map Rw.row a)),
      (List.map Rw.row a)[k]? = some (Rw.row r),
      (0 : Int) ≤ Int.ofNat i,
      Int.ofNat i < Int.ofNat (List.length (List.map Rw.row x)),
      (List.map Rw.row x)[i]? = some (Rw.row r),
      (!(decide (Rw.lev r = Rw.lev r) && (decide (Rw.win r = Rw.win r) && (Rw.svc r == Rw.svc r && (Rw.op r == Rw.op r && (decide (Rw.c r (0 : Nat) = Rw.c r (0 : Nat)) && (decide (Rw.c r (1 : Nat) = Rw.c r (1 : Nat)) && (decide (Rw.c r (2 : Nat) = Rw.c r (2 : Nat)) && (decide (Rw.c r (3 : Nat) = Rw.c r (3 : Nat)) && (decide (Rw.c r (4 : Nat) = Rw.c r (4 : Nat)) && (decide (Rw.c r (5 : Nat) = Rw.c r (5 : Nat)) && (decide (Rw.c r (6 : Nat) = Rw.c r (6 : Nat)) && (decide (Rw.c r (7 : Nat) = Rw.c r (7 : Nat)) && (decide (Rw.c r (8 : Nat) = Rw.c r (8 : Nat)) && (decide (Rw.c r (9 : Nat) = Rw.c r (9 : Nat)) && true))))))) && true)) && true)))))) = false,
      IntKind.wrap IntKind.i64 (Int.ofNat (k + (1 : Nat))) = Int.ofNat (k + (1 : Nat)),
      IntKind.wrap IntKind.i64 (Int.ofNat (i + (1 : Nat))) = Int.ofNat (i + (1 : Nat))] (by kernel_rfl)
    (by
      simp only [allP]
      and_intros <;> first
        | omega
        | with_reducible assumption
        | (simp; omega)
        | (simp [hy]; done)
        | (simp [hk]; done)
        | exact hv
        | exact hb
        | (have hkl := (List.getElem?_eq_some_iff.1 hk).1; simp; omega)
        | (have hkl := (List.getElem?_eq_some_iff.1 hk).1; exact i64_small (by simp; omega))
        | (have h := cSpanR r.lev r.win; unfold spanV at h; rw [hg] at h; exact h)
        | (simp [ba_refl]; done)
        | (rw [← Int.sub_eq_add_neg]; exact i64_small (by omega))
        | exact i64_small (by omega)
        | exact i64_small (by simp; omega)
        | (simp; done)
        | decide)

theorem exK0 (sec later : Int) (hz : Nat → Int) (x a : List Rw) (k i : Nat) (r : Rw) (hi : i < x.length) (hy : x[i]? = some r) (hs : x.length ≤ 1000) (hg : goodW r.lev r.win = true) (hv : r.lev = 0) (h0 : 0 ≤ sec ∧ sec ≤ 1099511627776) (h1 : 0 ≤ hz 0 ∧ hz 0 ≤ 1099511627776) (hb : decide ((r.win + 1) * lenW r.lev ≤ sec - hz 0) = false) (hk : a[k]? = some r) (ha : a.length ≤ 1000)  : CodeC Try.prog 0 132 exB (exS sec later hz x a k i) .normal (exS sec later hz x a (k + 1) (i + 1)) := by
  exact CodeC.cast (by first | rfl | (simp only [cond_true, cond_false]; done) | (simp []; done) | (first | (simp []; done) | (refine congrArg _ ?_; simp []; done) | (refine congrArg _ ?_; simp []; omega) | (simp only [Bool.cond_eq_ite, Bool.and_eq_true, Bool.or_eq_true, Bool.not_eq_true', decide_eq_true_eq, beq_iff_eq, beq_eq_false_iff_ne, ne_eq]; (repeat' split) <;> first | rfl | (exfalso; omega) | omega | (simp_all; done) | (exfalso; simp_all; omega)))) (exK0_0 sec later hz x a k i r hi hy hs hg hv h0 h1 hb hk ha )

theorem exG1_0 (sec later : Int) (hz : Nat → Int) (x a : List Rw) (k i : Nat) (r : Rw) (hi : i < x.length) (hy : x[i]? = some r) (hs : x.length ≤ 1000) (hg : goodW r.lev r.win = true) (hv : r.lev = 1) (h0 : 0 ≤ sec ∧ sec ≤ 1099511627776) (h1 : 0 ≤ hz 1 ∧ hz 1 ≤ 1099511627776) (hb : decide ((r.win + 1) * lenW r.lev ≤ sec - hz 1) = true) : CodeC Try.prog 0 132 exB (exS sec later hz x a k i) (Ex.normal) ({ env := [((1 : Nat), I sec), ((2 : Nat), I later), ((7 : Nat), V.ptr (900 : Nat) (0 : Nat) (0 : Nat) (0 : Nat)), ((11 : Nat), V.sl (14 : Nat) (List.map Rw.row x)), ((12 : Nat), V.sl (14 : Nat) (List.map Rw.row a)), ((13 : Nat), I (Int.ofNat k)), ((14 : Nat), I (Int.ofNat (i + (1 : Nat))))], st := [((900 : Nat), Obj.box [I (hz (0 : Nat)), I (hz (1 : Nat)), I (hz (2 : Nat))])], ids := [(900 : Nat)] }) :=
  runP hmix [.reg 13 [(3, [], some true)], .reg 15 [(4, [.row (Rw.row r)], none), (9, [.row (Rw.row r)], none), (10, [.call [] [] (.tup [I (r.win * lenW r.lev), I ((r.win + 1) * lenW r.lev), Bo true]) []], none)], .reg 16 [(6, [.row (Rw.row r)], none), (7, [.idx 1], none), (9, [.be (I (sec - hz 1))], none), (10, [], some true)], .reg 14 [(1, [.be (I ((i + 1 : Nat) : Int))], none)]] ⟨[1, 2, 7, 11, 12, 13, 14], [(900, 900)], []⟩ [
      decide (Int.ofNat i < Int.ofNat (List.length (List.map Rw.row x))) = true,
      (0 : Int) ≤ Int.ofNat i,
      Int.ofNat i < Int.ofNat (List.length (List.map Rw.row x)),
      (List.map Rw.row x)[i]? = some (Rw.row r),
      (0 : Int) ≤ Int.ofNat i,
      Int.ofNat i < Int.ofNat (List.length (List.map Rw.row x)),
      (List.map Rw.row x)[i]? = some (Rw.row r),
      Contract Try.prog (25 : Nat) [I (Rw.lev r), I (Rw.win r)] [] (V.tup [I (Rw.win r * lenW (Rw.lev r)), I ((Rw.win r + (1 : Int)) * lenW (Rw.lev r)), Bo true]) [],
      (0 : Int) ≤ Int.ofNat i,
      Int.ofNat i < Int.ofNat (List.length (List.map Rw.row x)),
      (List.map Rw.row x)[i]? = some (Rw.row r),
      Rw.lev r = (1 : Int),
      IntKind.wrap IntKind.i64 (sec + -hz (1 : Nat)) = sec + -hz (1 : Nat),
      decide ((Rw.win r + (1 : Int)) * lenW (Rw.lev r) ≤ sec + -hz (1 : Nat)) = true,
      IntKind.wrap IntKind.i64 (Int.ofNat (i + (1 : Nat))) = Int.ofNat (i + (1 : Nat))] (by kernel_rfl)
    (by
      simp only [allP]
      and_intros <;> first
        | omega
        | with_reducible assumption
        | (simp; omega)
        | (simp [hy]; done)
        | (simp [hk]; done)
        | exact hv
        | exact hb
        | (have h := cSpanR r.lev r.win; unfold spanV at h; rw [hg] at h; exact h)
        | (simp [ba_refl]; done)
        | (rw [← Int.sub_eq_add_neg]; exact i64_small (by omega))
        | exact i64_small (by omega)
        | exact i64_small (by simp; omega)
        | (simp; done)
        | decide)

theorem exG1 (sec later : Int) (hz : Nat → Int) (x a : List Rw) (k i : Nat) (r : Rw) (hi : i < x.length) (hy : x[i]? = some r) (hs : x.length ≤ 1000) (hg : goodW r.lev r.win = true) (hv : r.lev = 1) (h0 : 0 ≤ sec ∧ sec ≤ 1099511627776) (h1 : 0 ≤ hz 1 ∧ hz 1 ≤ 1099511627776) (hb : decide ((r.win + 1) * lenW r.lev ≤ sec - hz 1) = true)  : CodeC Try.prog 0 132 exB (exS sec later hz x a k i) .normal (exS sec later hz x a k (i + 1)) := by
  exact CodeC.cast (by first | rfl | (simp only [cond_true, cond_false]; done) | (simp []; done) | (first | (simp []; done) | (refine congrArg _ ?_; simp []; done) | (refine congrArg _ ?_; simp []; omega) | (simp only [Bool.cond_eq_ite, Bool.and_eq_true, Bool.or_eq_true, Bool.not_eq_true', decide_eq_true_eq, beq_iff_eq, beq_eq_false_iff_ne, ne_eq]; (repeat' split) <;> first | rfl | (exfalso; omega) | omega | (simp_all; done) | (exfalso; simp_all; omega)))) (exG1_0 sec later hz x a k i r hi hy hs hg hv h0 h1 hb )

theorem exK1_0 (sec later : Int) (hz : Nat → Int) (x a : List Rw) (k i : Nat) (r : Rw) (hi : i < x.length) (hy : x[i]? = some r) (hs : x.length ≤ 1000) (hg : goodW r.lev r.win = true) (hv : r.lev = 1) (h0 : 0 ≤ sec ∧ sec ≤ 1099511627776) (h1 : 0 ≤ hz 1 ∧ hz 1 ≤ 1099511627776) (hb : decide ((r.win + 1) * lenW r.lev ≤ sec - hz 1) = false) (hk : a[k]? = some r) (ha : a.length ≤ 1000) : CodeC Try.prog 0 132 exB (exS sec later hz x a k i) (Ex.normal) ({ env := [((1 : Nat), I sec), ((2 : Nat), I later), ((7 : Nat), V.ptr (900 : Nat) (0 : Nat) (0 : Nat) (0 : Nat)), ((11 : Nat), V.sl (14 : Nat) (List.map Rw.row x)), ((12 : Nat), V.sl (14 : Nat) (List.map Rw.row a)), ((13 : Nat), I (Int.ofNat (k + (1 : Nat)))), ((14 : Nat), I (Int.ofNat (i + (1 : Nat))))], st := [((900 : Nat), Obj.box [I (hz (0 : Nat)), I (hz (1 : Nat)), I (hz (2 : Nat))])], ids := [(900 : Nat)] }) :=
  runP hmix [.reg 13 [(3, [], some true)], .reg 15 [(4, [.row (Rw.row r)], none), (9, [.row (Rw.row r)], none), (10, [.call [] [] (.tup [I (r.win * lenW r.lev), I ((r.win + 1) * lenW r.lev), Bo true]) []], none)], .reg 16 [(6, [.row (Rw.row r)], none), (7, [.idx 1], none), (9, [.be (I (sec - hz 1))], none), (10, [], some false)], .reg 17 [(3, [], some false), (8, [.row (Rw.row r)], none), (12, [.row (Rw.row r)], none), (13, [], some false)], .reg 19 [(1, [.be (I ((k + 1 : Nat) : Int))], none)], .reg 14 [(1, [.be (I ((i + 1 : Nat) : Int))], none)]] ⟨[1, 2, 7, 11, 12, 13, 14], [(900, 900)], []⟩ [
      decide (Int.ofNat i < Int.ofNat (List.length (List.map Rw.row x))) = true,
      (0 : Int) ≤ Int.ofNat i,
      Int.ofNat i < Int.ofNat (List.length (List.map Rw.row x)),
      (List.map Rw.row x)[i]? = some (Rw.row r),
      (0 : Int) ≤ Int.ofNat i,
      Int.ofNat i < Int.ofNat (List.length (List.map Rw.row x)),
      (List.map Rw.row x)[i]? = some (Rw.row r),
      Contract Try.prog (25 : Nat) [I (Rw.lev r), I (Rw.win r)] [] (V.tup [I (Rw.win r * lenW (Rw.lev r)), I ((Rw.win r + (1 : Int)) * lenW (Rw.lev r)), Bo true]) [],
      (0 : Int) ≤ Int.ofNat i,
      Int.ofNat i < Int.ofNat (List.length (List.map Rw.row x)),
      (List.map Rw.row x)[i]? = some (Rw.row r),
      Rw.lev r = (1 : Int),
      IntKind.wrap IntKind.i64 (sec + -hz (1 : Nat)) = sec + -hz (1 : Nat),
      decide ((Rw.win r + (1 : Int)) * lenW (Rw.lev r) ≤ sec + -hz (1 : Nat)) = false,
      decide (Int.ofNat k ≥ Int.ofNat (List.length (List.map Rw.row a))) = false,
      (0 : Int) ≤ Int.ofNat k,
      Int.ofNat k < Int.ofNat (List.length (List.map Rw.row a)),
      (List.map Rw.row a)[k]? = some (Rw.row r),
      (0 : Int) ≤ Int.ofNat i,
      Int.ofNat i < Int.ofNat (List.length (List.map Rw.row x)),
      (List.map Rw.row x)[i]? = some (Rw.row r),
      (!(decide (Rw.lev r = Rw.lev r) && (decide (Rw.win r = Rw.win r) && (Rw.svc r == Rw.svc r && (Rw.op r == Rw.op r && (decide (Rw.c r (0 : Nat) = Rw.c r (0 : Nat)) && (decide (Rw.c r (1 : Nat) = Rw.c r (1 : Nat)) && (decide (Rw.c r (2 : Nat) = Rw.c r (2 : Nat)) && (decide (Rw.c r (3 : Nat) = Rw.c r (3 : Nat)) && (decide (Rw.c r (4 : Nat) = Rw.c r (4 : Nat)) && (decide (Rw.c r (5 : Nat) = Rw.c r (5 : Nat)) && (decide (Rw.c r (6 : Nat) = Rw.c r (6 : Nat)) && (decide (Rw.c r (7 : Nat) = Rw.c r (7 : Nat)) && (decide (Rw.c r (8 : Nat) = Rw.c r (8 : Nat)) && (decide (Rw.c r (9 : Nat) = Rw.c r (9 : Nat)) && true))))))) && true)) && true)))))) = false,
      IntKind.wrap IntKind.i64 (Int.ofNat (k + (1 : Nat))) = Int.ofNat (k + (1 : Nat)),
      IntKind.wrap IntKind.i64 (Int.ofNat (i + (1 : Nat))) = Int.ofNat (i + (1 : Nat))] (by kernel_rfl)
    (by
      simp only [allP]
      and_intros <;> first
        | omega
        | with_reducible assumption
        | (simp; omega)
        | (simp [hy]; done)
        | (simp [hk]; done)
        | exact hv
        | exact hb
        | (have hkl := (List.getElem?_eq_some_iff.1 hk).1; simp; omega)
        | (have hkl := (List.getElem?_eq_some_iff.1 hk).1; exact i64_small (by simp; omega))
        | (have h := cSpanR r.lev r.win; unfold spanV at h; rw [hg] at h; exact h)
        | (simp [ba_refl]; done)
        | (rw [← Int.sub_eq_add_neg]; exact i64_small (by omega))
        | exact i64_small (by omega)
        | exact i64_small (by simp; omega)
        | (simp; done)
        | decide)

theorem exK1 (sec later : Int) (hz : Nat → Int) (x a : List Rw) (k i : Nat) (r : Rw) (hi : i < x.length) (hy : x[i]? = some r) (hs : x.length ≤ 1000) (hg : goodW r.lev r.win = true) (hv : r.lev = 1) (h0 : 0 ≤ sec ∧ sec ≤ 1099511627776) (h1 : 0 ≤ hz 1 ∧ hz 1 ≤ 1099511627776) (hb : decide ((r.win + 1) * lenW r.lev ≤ sec - hz 1) = false) (hk : a[k]? = some r) (ha : a.length ≤ 1000)  : CodeC Try.prog 0 132 exB (exS sec later hz x a k i) .normal (exS sec later hz x a (k + 1) (i + 1)) := by
  exact CodeC.cast (by first | rfl | (simp only [cond_true, cond_false]; done) | (simp []; done) | (first | (simp []; done) | (refine congrArg _ ?_; simp []; done) | (refine congrArg _ ?_; simp []; omega) | (simp only [Bool.cond_eq_ite, Bool.and_eq_true, Bool.or_eq_true, Bool.not_eq_true', decide_eq_true_eq, beq_iff_eq, beq_eq_false_iff_ne, ne_eq]; (repeat' split) <;> first | rfl | (exfalso; omega) | omega | (simp_all; done) | (exfalso; simp_all; omega)))) (exK1_0 sec later hz x a k i r hi hy hs hg hv h0 h1 hb hk ha )

theorem exG2_0 (sec later : Int) (hz : Nat → Int) (x a : List Rw) (k i : Nat) (r : Rw) (hi : i < x.length) (hy : x[i]? = some r) (hs : x.length ≤ 1000) (hg : goodW r.lev r.win = true) (hv : r.lev = 2) (h0 : 0 ≤ sec ∧ sec ≤ 1099511627776) (h1 : 0 ≤ hz 2 ∧ hz 2 ≤ 1099511627776) (hb : decide ((r.win + 1) * lenW r.lev ≤ sec - hz 2) = true) : CodeC Try.prog 0 132 exB (exS sec later hz x a k i) (Ex.normal) ({ env := [((1 : Nat), I sec), ((2 : Nat), I later), ((7 : Nat), V.ptr (900 : Nat) (0 : Nat) (0 : Nat) (0 : Nat)), ((11 : Nat), V.sl (14 : Nat) (List.map Rw.row x)), ((12 : Nat), V.sl (14 : Nat) (List.map Rw.row a)), ((13 : Nat), I (Int.ofNat k)), ((14 : Nat), I (Int.ofNat (i + (1 : Nat))))], st := [((900 : Nat), Obj.box [I (hz (0 : Nat)), I (hz (1 : Nat)), I (hz (2 : Nat))])], ids := [(900 : Nat)] }) :=
  runP hmix [.reg 13 [(3, [], some true)], .reg 15 [(4, [.row (Rw.row r)], none), (9, [.row (Rw.row r)], none), (10, [.call [] [] (.tup [I (r.win * lenW r.lev), I ((r.win + 1) * lenW r.lev), Bo true]) []], none)], .reg 16 [(6, [.row (Rw.row r)], none), (7, [.idx 2], none), (9, [.be (I (sec - hz 2))], none), (10, [], some true)], .reg 14 [(1, [.be (I ((i + 1 : Nat) : Int))], none)]] ⟨[1, 2, 7, 11, 12, 13, 14], [(900, 900)], []⟩ [
      decide (Int.ofNat i < Int.ofNat (List.length (List.map Rw.row x))) = true,
      (0 : Int) ≤ Int.ofNat i,
      Int.ofNat i < Int.ofNat (List.length (List.map Rw.row x)),
      (List.map Rw.row x)[i]? = some (Rw.row r),
      (0 : Int) ≤ Int.ofNat i,
      Int.ofNat i < Int.ofNat (List.length (List.map Rw.row x)),
      (List.map Rw.row x)[i]? = some (Rw.row r),
      Contract Try.prog (25 : Nat) [I (Rw.lev r), I (Rw.win r)] [] (V.tup [I (Rw.win r * lenW (Rw.lev r)), I ((Rw.win r + (1 : Int)) * lenW (Rw.lev r)), Bo true]) [],
      (0 : Int) ≤ Int.ofNat i,
      Int.ofNat i < Int.ofNat (List.length (List.map Rw.row x)),
      (List.map Rw.row x)[i]? = some (Rw.row r),
      Rw.lev r = (2 : Int),
      IntKind.wrap IntKind.i64 (sec + -hz (2 : Nat)) = sec + -hz (2 : Nat),
      decide ((Rw.win r + (1 : Int)) * lenW (Rw.lev r) ≤ sec + -hz (2 : Nat)) = true,
      IntKind.wrap IntKind.i64 (Int.ofNat (i + (1 : Nat))) = Int.ofNat (i + (1 : Nat))] (by kernel_rfl)
    (by
      simp only [allP]
      and_intros <;> first
        | omega
        | with_reducible assumption
        | (simp; omega)
        | (simp [hy]; done)
        | (simp [hk]; done)
        | exact hv
        | exact hb
        | (have h := cSpanR r.lev r.win; unfold spanV at h; rw [hg] at h; exact h)
        | (simp [ba_refl]; done)
        | (rw [← Int.sub_eq_add_neg]; exact i64_small (by omega))
        | exact i64_small (by omega)
        | exact i64_small (by simp; omega)
        | (simp; done)
        | decide)

theorem exG2 (sec later : Int) (hz : Nat → Int) (x a : List Rw) (k i : Nat) (r : Rw) (hi : i < x.length) (hy : x[i]? = some r) (hs : x.length ≤ 1000) (hg : goodW r.lev r.win = true) (hv : r.lev = 2) (h0 : 0 ≤ sec ∧ sec ≤ 1099511627776) (h1 : 0 ≤ hz 2 ∧ hz 2 ≤ 1099511627776) (hb : decide ((r.win + 1) * lenW r.lev ≤ sec - hz 2) = true)  : CodeC Try.prog 0 132 exB (exS sec later hz x a k i) .normal (exS sec later hz x a k (i + 1)) := by
  exact CodeC.cast (by first | rfl | (simp only [cond_true, cond_false]; done) | (simp []; done) | (first | (simp []; done) | (refine congrArg _ ?_; simp []; done) | (refine congrArg _ ?_; simp []; omega) | (simp only [Bool.cond_eq_ite, Bool.and_eq_true, Bool.or_eq_true, Bool.not_eq_true', decide_eq_true_eq, beq_iff_eq, beq_eq_false_iff_ne, ne_eq]; (repeat' split) <;> first | rfl | (exfalso; omega) | omega | (simp_all; done) | (exfalso; simp_all; omega)))) (exG2_0 sec later hz x a k i r hi hy hs hg hv h0 h1 hb )

theorem exK2_0 (sec later : Int) (hz : Nat → Int) (x a : List Rw) (k i : Nat) (r : Rw) (hi : i < x.length) (hy : x[i]? = some r) (hs : x.length ≤ 1000) (hg : goodW r.lev r.win = true) (hv : r.lev = 2) (h0 : 0 ≤ sec ∧ sec ≤ 1099511627776) (h1 : 0 ≤ hz 2 ∧ hz 2 ≤ 1099511627776) (hb : decide ((r.win + 1) * lenW r.lev ≤ sec - hz 2) = false) (hk : a[k]? = some r) (ha : a.length ≤ 1000) : CodeC Try.prog 0 132 exB (exS sec later hz x a k i) (Ex.normal) ({ env := [((1 : Nat), I sec), ((2 : Nat), I later), ((7 : Nat), V.ptr (900 : Nat) (0 : Nat) (0 : Nat) (0 : Nat)), ((11 : Nat), V.sl (14 : Nat) (List.map Rw.row x)), ((12 : Nat), V.sl (14 : Nat) (List.map Rw.row a)), ((13 : Nat), I (Int.ofNat (k + (1 : Nat)))), ((14 : Nat), I (Int.ofNat (i + (1 : Nat))))], st := [((900 : Nat), Obj.box [I (hz (0 : Nat)), I (hz (1 : Nat)), I (hz (2 : Nat))])], ids := [(900 : Nat)] }) :=
  runP hmix [.reg 13 [(3, [], some true)], .reg 15 [(4, [.row (Rw.row r)], none), (9, [.row (Rw.row r)], none), (10, [.call [] [] (.tup [I (r.win * lenW r.lev), I ((r.win + 1) * lenW r.lev), Bo true]) []], none)], .reg 16 [(6, [.row (Rw.row r)], none), (7, [.idx 2], none), (9, [.be (I (sec - hz 2))], none), (10, [], some false)], .reg 17 [(3, [], some false), (8, [.row (Rw.row r)], none), (12, [.row (Rw.row r)], none), (13, [], some false)], .reg 19 [(1, [.be (I ((k + 1 : Nat) : Int))], none)], .reg 14 [(1, [.be (I ((i + 1 : Nat) : Int))], none)]] ⟨[1, 2, 7, 11, 12, 13, 14], [(900, 900)], []⟩ [
      decide (Int.ofNat i < Int.ofNat (List.length (List.map Rw.row x))) = true,
      (0 : Int) ≤ Int.ofNat i,
      Int.ofNat i < Int.ofNat (List.length (List.map Rw.row x)),
      (List.map Rw.row x)[i]? = some (Rw.row r),
      (0 : Int) ≤ Int.ofNat i,
      Int.ofNat i < Int.ofNat (List.length (List.map Rw.row x)),
      (List.map Rw.row x)[i]? = some (Rw.row r),
      Contract Try.prog (25 : Nat) [I (Rw.lev r), I (Rw.win r)] [] (V.tup [I (Rw.win r * lenW (Rw.lev r)), I ((Rw.win r + (1 : Int)) * lenW (Rw.lev r)), Bo true]) [],
      (0 : Int) ≤ Int.ofNat i,
      Int.ofNat i < Int.ofNat (List.length (List.map Rw.row x)),
      (List.map Rw.row x)[i]? = some (Rw.row r),
      Rw.lev r = (2 : Int),
      IntKind.wrap IntKind.i64 (sec + -hz (2 : Nat)) = sec + -hz (2 : Nat),
      decide ((Rw.win r + (1 : Int)) * lenW (Rw.lev r) ≤ sec + -hz (2 : Nat)) = false,
      decide (Int.ofNat k ≥ Int.ofNat (List.length (List.map Rw.row a))) = false,
      (0 : Int) ≤ Int.ofNat k,
      Int.ofNat k < Int.ofNat (List.length (List.map Rw.row a)),
      (List.map Rw.row a)[k]? = some (Rw.row r),
      (0 : Int) ≤ Int.ofNat i,
      Int.ofNat i < Int.ofNat (List.length (List.map Rw.row x)),
      (List.map Rw.row x)[i]? = some (Rw.row r),
      (!(decide (Rw.lev r = Rw.lev r) && (decide (Rw.win r = Rw.win r) && (Rw.svc r == Rw.svc r && (Rw.op r == Rw.op r && (decide (Rw.c r (0 : Nat) = Rw.c r (0 : Nat)) && (decide (Rw.c r (1 : Nat) = Rw.c r (1 : Nat)) && (decide (Rw.c r (2 : Nat) = Rw.c r (2 : Nat)) && (decide (Rw.c r (3 : Nat) = Rw.c r (3 : Nat)) && (decide (Rw.c r (4 : Nat) = Rw.c r (4 : Nat)) && (decide (Rw.c r (5 : Nat) = Rw.c r (5 : Nat)) && (decide (Rw.c r (6 : Nat) = Rw.c r (6 : Nat)) && (decide (Rw.c r (7 : Nat) = Rw.c r (7 : Nat)) && (decide (Rw.c r (8 : Nat) = Rw.c r (8 : Nat)) && (decide (Rw.c r (9 : Nat) = Rw.c r (9 : Nat)) && true))))))) && true)) && true)))))) = false,
      IntKind.wrap IntKind.i64 (Int.ofNat (k + (1 : Nat))) = Int.ofNat (k + (1 : Nat)),
      IntKind.wrap IntKind.i64 (Int.ofNat (i + (1 : Nat))) = Int.ofNat (i + (1 : Nat))] (by kernel_rfl)
    (by
      simp only [allP]
      and_intros <;> first
        | omega
        | with_reducible assumption
        | (simp; omega)
        | (simp [hy]; done)
        | (simp [hk]; done)
        | exact hv
        | exact hb
        | (have hkl := (List.getElem?_eq_some_iff.1 hk).1; simp; omega)
        | (have hkl := (List.getElem?_eq_some_iff.1 hk).1; exact i64_small (by simp; omega))
        | (have h := cSpanR r.lev r.win; unfold spanV at h; rw [hg] at h; exact h)
        | (simp [ba_refl]; done)
        | (rw [← Int.sub_eq_add_neg]; exact i64_small (by omega))
        | exact i64_small (by omega)
        | exact i64_small (by simp; omega)
        | (simp; done)
        | decide)

theorem exK2 (sec later : Int) (hz : Nat → Int) (x a : List Rw) (k i : Nat) (r : Rw) (hi : i < x.length) (hy : x[i]? = some r) (hs : x.length ≤ 1000) (hg : goodW r.lev r.win = true) (hv : r.lev = 2) (h0 : 0 ≤ sec ∧ sec ≤ 1099511627776) (h1 : 0 ≤ hz 2 ∧ hz 2 ≤ 1099511627776) (hb : decide ((r.win + 1) * lenW r.lev ≤ sec - hz 2) = false) (hk : a[k]? = some r) (ha : a.length ≤ 1000)  : CodeC Try.prog 0 132 exB (exS sec later hz x a k i) .normal (exS sec later hz x a (k + 1) (i + 1)) := by
  exact CodeC.cast (by first | rfl | (simp only [cond_true, cond_false]; done) | (simp []; done) | (first | (simp []; done) | (refine congrArg _ ?_; simp []; done) | (refine congrArg _ ?_; simp []; omega) | (simp only [Bool.cond_eq_ite, Bool.and_eq_true, Bool.or_eq_true, Bool.not_eq_true', decide_eq_true_eq, beq_iff_eq, beq_eq_false_iff_ne, ne_eq]; (repeat' split) <;> first | rfl | (exfalso; omega) | omega | (simp_all; done) | (exfalso; simp_all; omega)))) (exK2_0 sec later hz x a k i r hi hy hs hg hv h0 h1 hb hk ha )

theorem exE_0 (sec later : Int) (hz : Nat → Int) (x a : List Rw) (k i : Nat) (h : x.length ≤ i) : CodeC Try.prog 0 132 exB (exS sec later hz x a k i) (Ex.exit (2 : Nat)) ({ env := [((1 : Nat), I sec), ((2 : Nat), I later), ((7 : Nat), V.ptr (900 : Nat) (0 : Nat) (0 : Nat) (0 : Nat)), ((11 : Nat), V.sl (14 : Nat) (List.map Rw.row x)), ((12 : Nat), V.sl (14 : Nat) (List.map Rw.row a)), ((13 : Nat), I (Int.ofNat k)), ((14 : Nat), I (Int.ofNat i))], st := [((900 : Nat), Obj.box [I (hz (0 : Nat)), I (hz (1 : Nat)), I (hz (2 : Nat))])], ids := [(900 : Nat)] }) :=
  runP hmix [.reg 13 [(3, [], some false)]] ⟨[1, 2, 7, 11, 12, 13, 14], [(900, 900)], []⟩ [
      decide (Int.ofNat i < Int.ofNat (List.length (List.map Rw.row x))) = false] (by kernel_rfl)
    (by
      simp only [allP]
      and_intros <;> first
        | omega
        | with_reducible assumption
        | (simp; omega)
        | (simp; done)
        | decide)

theorem exE (sec later : Int) (hz : Nat → Int) (x a : List Rw) (k i : Nat) (h : x.length ≤ i)  : CodeC Try.prog 0 132 exB (exS sec later hz x a k i) (.exit 2) (exS sec later hz x a k i) := by
  exact CodeC.cast (by first | rfl | (simp only [cond_true, cond_false]; done) | (simp []; done) | (first | (simp []; done) | (refine congrArg _ ?_; simp []; done) | (refine congrArg _ ?_; simp []; omega) | (simp only [Bool.cond_eq_ite, Bool.and_eq_true, Bool.or_eq_true, Bool.not_eq_true', decide_eq_true_eq, beq_iff_eq, beq_eq_false_iff_ne, ne_eq]; (repeat' split) <;> first | rfl | (exfalso; omega) | omega | (simp_all; done) | (exfalso; simp_all; omega)))) (exE_0 sec later hz x a k i h )

theorem exsA_0 (l : List Sp) (sec later : Int) (hz : Nat → Int) (h1 : fewAll l = false) : Contract Try.prog 7 [.sl 10 (l.map Sp.row), I sec, I later, .agg (h3 hz)] [] (Bo true) ([]) :=
  vcP hmix [.reg 2 [(4, [.call [] [] (Bo (fewAll l)) []], none), (6, [], some true)], .tab [(8, FAlive5)]] [] [
      Contract Try.prog (8 : Nat) [] [] (Bo true) [],
      Contract Try.prog (9 : Nat) [V.sl (10 : Nat) (List.map Sp.row l)] [] (Bo (fewAll l)) [],
      (!fewAll l) = true] (by kernel_rfl)
    (by
      simp only [allP]
      and_intros <;> first
        | omega
        | with_reducible assumption
        | exact cAlive
        | exact cFewAll _
        | (simp [h1]; done)
        | (simp; omega)
        | (simp; done)
        | decide)

theorem exsA (l : List Sp) (sec later : Int) (hz : Nat → Int) (h1 : fewAll l = false) : Contract Try.prog 7 [.sl 10 (l.map Sp.row), I sec, I later, .agg (h3 hz)] [] (Bo true) [] := by
  exact Contract.cast (by first | rfl | (simp only [cond_true, cond_false]; done) | (simp []; done) | (first | (simp []; done) | (refine congrArg _ ?_; simp []; done) | (refine congrArg _ ?_; simp []; omega) | (simp only [Bool.cond_eq_ite, Bool.and_eq_true, Bool.or_eq_true, Bool.not_eq_true', decide_eq_true_eq, beq_iff_eq, beq_eq_false_iff_ne, ne_eq]; (repeat' split) <;> first | rfl | (exfalso; omega) | omega | (simp_all; done) | (exfalso; simp_all; omega)))) (by first | rfl | (simp only [cond_true, cond_false]; done) | (simp []; done) | (first | (simp []; done) | (refine congrArg _ ?_; simp []; done) | (refine congrArg _ ?_; simp []; omega) | (simp only [Bool.cond_eq_ite, Bool.and_eq_true, Bool.or_eq_true, Bool.not_eq_true', decide_eq_true_eq, beq_iff_eq, beq_eq_false_iff_ne, ne_eq]; (repeat' split) <;> first | rfl | (exfalso; omega) | omega | (simp_all; done) | (exfalso; simp_all; omega)))) (exsA_0 l sec later hz h1 )

theorem exsB_0 (l : List Sp) (sec later : Int) (hz : Nat → Int) (h1 : fewAll l = true) (h2 : sec < 0) : Contract Try.prog 7 [.sl 10 (l.map Sp.row), I sec, I later, .agg (h3 hz)] [] (Bo true) ([]) :=
  vcP hmix [.reg 2 [(4, [.call [] [] (Bo (fewAll l)) []], none), (6, [], some false), (10, [], some true)], .tab [(8, FAlive5)]] [] [
      Contract Try.prog (8 : Nat) [] [] (Bo true) [],
      Contract Try.prog (9 : Nat) [V.sl (10 : Nat) (List.map Sp.row l)] [] (Bo (fewAll l)) [],
      (!fewAll l) = false,
      decide (sec < (0 : Int)) = true] (by kernel_rfl)
    (by
      simp only [allP]
      and_intros <;> first
        | omega
        | with_reducible assumption
        | exact cAlive
        | exact cFewAll _
        | (simp [h1]; done)
        | (simp; omega)
        | (simp; done)
        | decide)

theorem exsB (l : List Sp) (sec later : Int) (hz : Nat → Int) (h1 : fewAll l = true) (h2 : sec < 0) : Contract Try.prog 7 [.sl 10 (l.map Sp.row), I sec, I later, .agg (h3 hz)] [] (Bo true) [] := by
  exact Contract.cast (by first | rfl | (simp only [cond_true, cond_false]; done) | (simp []; done) | (first | (simp []; done) | (refine congrArg _ ?_; simp []; done) | (refine congrArg _ ?_; simp []; omega) | (simp only [Bool.cond_eq_ite, Bool.and_eq_true, Bool.or_eq_true, Bool.not_eq_true', decide_eq_true_eq, beq_iff_eq, beq_eq_false_iff_ne, ne_eq]; (repeat' split) <;> first | rfl | (exfalso; omega) | omega | (simp_all; done) | (exfalso; simp_all; omega)))) (by first | rfl | (simp only [cond_true, cond_false]; done) | (simp []; done) | (first | (simp []; done) | (refine congrArg _ ?_; simp []; done) | (refine congrArg _ ?_; simp []; omega) | (simp only [Bool.cond_eq_ite, Bool.and_eq_true, Bool.or_eq_true, Bool.not_eq_true', decide_eq_true_eq, beq_iff_eq, beq_eq_false_iff_ne, ne_eq]; (repeat' split) <;> first | rfl | (exfalso; omega) | omega | (simp_all; done) | (exfalso; simp_all; omega)))) (exsB_0 l sec later hz h1 h2 )

theorem exsC_0 (l : List Sp) (sec later : Int) (hz : Nat → Int) (h1 : fewAll l = true) (h2 : 0 ≤ sec) (hc : sec > later) : Contract Try.prog 7 [.sl 10 (l.map Sp.row), I sec, I later, .agg (h3 hz)] [] (Bo true) ([]) :=
  vcP hmix [.reg 2 [(4, [.call [] [] (Bo (fewAll l)) []], none), (6, [], some false), (10, [], some false), (15, [], some true)], .tab [(8, FAlive5)]] [] [
      Contract Try.prog (8 : Nat) [] [] (Bo true) [],
      Contract Try.prog (9 : Nat) [V.sl (10 : Nat) (List.map Sp.row l)] [] (Bo (fewAll l)) [],
      (!fewAll l) = false,
      decide (sec < (0 : Int)) = false,
      decide (sec > later) = true] (by kernel_rfl)
    (by
      simp only [allP]
      and_intros <;> first
        | omega
        | with_reducible assumption
        | exact cAlive
        | exact cFewAll _
        | (simp [h1]; done)
        | (simp; omega)
        | (simp; done)
        | decide)

theorem exsC (l : List Sp) (sec later : Int) (hz : Nat → Int) (h1 : fewAll l = true) (h2 : 0 ≤ sec) (hc : sec > later) : Contract Try.prog 7 [.sl 10 (l.map Sp.row), I sec, I later, .agg (h3 hz)] [] (Bo true) [] := by
  exact Contract.cast (by first | rfl | (simp only [cond_true, cond_false]; done) | (simp []; done) | (first | (simp []; done) | (refine congrArg _ ?_; simp []; done) | (refine congrArg _ ?_; simp []; omega) | (simp only [Bool.cond_eq_ite, Bool.and_eq_true, Bool.or_eq_true, Bool.not_eq_true', decide_eq_true_eq, beq_iff_eq, beq_eq_false_iff_ne, ne_eq]; (repeat' split) <;> first | rfl | (exfalso; omega) | omega | (simp_all; done) | (exfalso; simp_all; omega)))) (by first | rfl | (simp only [cond_true, cond_false]; done) | (simp []; done) | (first | (simp []; done) | (refine congrArg _ ?_; simp []; done) | (refine congrArg _ ?_; simp []; omega) | (simp only [Bool.cond_eq_ite, Bool.and_eq_true, Bool.or_eq_true, Bool.not_eq_true', decide_eq_true_eq, beq_iff_eq, beq_eq_false_iff_ne, ne_eq]; (repeat' split) <;> first | rfl | (exfalso; omega) | omega | (simp_all; done) | (exfalso; simp_all; omega)))) (exsC_0 l sec later hz h1 h2 hc )

theorem exsD_0 (l : List Sp) (sec later : Int) (hz : Nat → Int) (h1 : fewAll l = true) (h2 : 0 ≤ sec) (hc : sec ≤ later) (h4 : later > 1099511627776) : Contract Try.prog 7 [.sl 10 (l.map Sp.row), I sec, I later, .agg (h3 hz)] [] (Bo true) ([]) :=
  vcP hmix [.reg 2 [(4, [.call [] [] (Bo (fewAll l)) []], none), (6, [], some false), (10, [], some false), (15, [], some false), (19, [], some true)], .tab [(8, FAlive5)]] [] [
      Contract Try.prog (8 : Nat) [] [] (Bo true) [],
      Contract Try.prog (9 : Nat) [V.sl (10 : Nat) (List.map Sp.row l)] [] (Bo (fewAll l)) [],
      (!fewAll l) = false,
      decide (sec < (0 : Int)) = false,
      decide (sec > later) = false,
      decide (later > (1099511627776 : Int)) = true] (by kernel_rfl)
    (by
      simp only [allP]
      and_intros <;> first
        | omega
        | with_reducible assumption
        | exact cAlive
        | exact cFewAll _
        | (simp [h1]; done)
        | (simp; omega)
        | (simp; done)
        | decide)

theorem exsD (l : List Sp) (sec later : Int) (hz : Nat → Int) (h1 : fewAll l = true) (h2 : 0 ≤ sec) (hc : sec ≤ later) (h4 : later > 1099511627776) : Contract Try.prog 7 [.sl 10 (l.map Sp.row), I sec, I later, .agg (h3 hz)] [] (Bo true) [] := by
  exact Contract.cast (by first | rfl | (simp only [cond_true, cond_false]; done) | (simp []; done) | (first | (simp []; done) | (refine congrArg _ ?_; simp []; done) | (refine congrArg _ ?_; simp []; omega) | (simp only [Bool.cond_eq_ite, Bool.and_eq_true, Bool.or_eq_true, Bool.not_eq_true', decide_eq_true_eq, beq_iff_eq, beq_eq_false_iff_ne, ne_eq]; (repeat' split) <;> first | rfl | (exfalso; omega) | omega | (simp_all; done) | (exfalso; simp_all; omega)))) (by first | rfl | (simp only [cond_true, cond_false]; done) | (simp []; done) | (first | (simp []; done) | (refine congrArg _ ?_; simp []; done) | (refine congrArg _ ?_; simp []; omega) | (simp only [Bool.cond_eq_ite, Bool.and_eq_true, Bool.or_eq_true, Bool.not_eq_true', decide_eq_true_eq, beq_iff_eq, beq_eq_false_iff_ne, ne_eq]; (repeat' split) <;> first | rfl | (exfalso; omega) | omega | (simp_all; done) | (exfalso; simp_all; omega)))) (exsD_0 l sec later hz h1 h2 hc h4 )

theorem exsH0_0 (l : List Sp) (sec later : Int) (hz : Nat → Int) (h1 : fewAll l = true) (h2 : 0 ≤ sec) (hc : sec ≤ later) (h4 : later ≤ 1099511627776)  (gb : hz 0 < 0 ∨ hz 0 > 1099511627776) (tq0 : (decide (hz (0 : Nat) < (0 : Int))) = true) : Contract Try.prog 7 [.sl 10 (l.map Sp.row), I sec, I later, .agg (h3 hz)] [] (Bo true) ([]) :=
  vcP hmix [.reg 2 [(4, [.call [] [] (Bo (fewAll l)) []], none), (6, [], some false), (10, [], some false), (15, [], some false), (19, [], some false)], .unroll 5, .reg 7 [(4, [], some true), (9, [], some true)], .tab [(8, FAlive5)]] [] [
      Contract Try.prog (8 : Nat) [] [] (Bo true) [],
      Contract Try.prog (9 : Nat) [V.sl (10 : Nat) (List.map Sp.row l)] [] (Bo (fewAll l)) [],
      (!fewAll l) = false,
      decide (sec < (0 : Int)) = false,
      decide (sec > later) = false,
      decide (later > (1099511627776 : Int)) = false,
      decide (hz (0 : Nat) < (0 : Int)) = true,
      true = true] (by kernel_rfl)
    (by
      have d0 := tq0
      try simp only [Int.ofNat_eq_natCast, List.length_map, Bool.not_eq_true', Bool.not_eq_false', decide_eq_true_eq, decide_eq_false_iff_not] at d0
      simp only [allP]
      and_intros <;> first
        | omega
        | with_reducible assumption
        | exact cAlive
        | exact cFewAll _
        | (simp [h1]; done)
        | (simp; omega)
        | (simp; done)
        | decide)

theorem exsH0_1 (l : List Sp) (sec later : Int) (hz : Nat → Int) (h1 : fewAll l = true) (h2 : 0 ≤ sec) (hc : sec ≤ later) (h4 : later ≤ 1099511627776)  (gb : hz 0 < 0 ∨ hz 0 > 1099511627776) (tq0 : (decide (hz (0 : Nat) < (0 : Int))) = false) : Contract Try.prog 7 [.sl 10 (l.map Sp.row), I sec, I later, .agg (h3 hz)] [] (Bo true) ([]) :=
  vcP hmix [.reg 2 [(4, [.call [] [] (Bo (fewAll l)) []], none), (6, [], some false), (10, [], some false), (15, [], some false), (19, [], some false)], .unroll 5, .reg 7 [(4, [], some false), (9, [], some true)], .tab [(8, FAlive5)]] [] [
      Contract Try.prog (8 : Nat) [] [] (Bo true) [],
      Contract Try.prog (9 : Nat) [V.sl (10 : Nat) (List.map Sp.row l)] [] (Bo (fewAll l)) [],
      (!fewAll l) = false,
      decide (sec < (0 : Int)) = false,
      decide (sec > later) = false,
      decide (later > (1099511627776 : Int)) = false,
      decide (hz (0 : Nat) < (0 : Int)) = false,
      decide (hz (0 : Nat) > (1099511627776 : Int)) = true] (by kernel_rfl)
    (by
      have d0 := tq0
      try simp only [Int.ofNat_eq_natCast, List.length_map, Bool.not_eq_true', Bool.not_eq_false', decide_eq_true_eq, decide_eq_false_iff_not] at d0
      simp only [allP]
      and_intros <;> first
        | omega
        | with_reducible assumption
        | exact cAlive
        | exact cFewAll _
        | (simp [h1]; done)
        | (simp; omega)
        | (simp; done)
        | decide)

theorem exsH0 (l : List Sp) (sec later : Int) (hz : Nat → Int) (h1 : fewAll l = true) (h2 : 0 ≤ sec) (hc : sec ≤ later) (h4 : later ≤ 1099511627776)  (gb : hz 0 < 0 ∨ hz 0 > 1099511627776) : Contract Try.prog 7 [.sl 10 (l.map Sp.row), I sec, I later, .agg (h3 hz)] [] (Bo true) [] := by
  rcases tf (decide (hz (0 : Nat) < (0 : Int))) with tq0 | tq0
  · exact Contract.cast (by first | rfl | (simp only [tq0, cond_true, cond_false]; done) | (simp [tq0]; done) | ((try simp only [Int.ofNat_eq_natCast, List.length_map, Bool.not_eq_true', Bool.not_eq_false', decide_eq_true_eq, decide_eq_false_iff_not] at tq0); first | (simp [tq0]; done) | (refine congrArg _ ?_; simp [tq0]; done) | (refine congrArg _ ?_; simp [tq0]; omega) | (simp only [Bool.cond_eq_ite, Bool.and_eq_true, Bool.or_eq_true, Bool.not_eq_true', decide_eq_true_eq, beq_iff_eq, beq_eq_false_iff_ne, ne_eq]; (repeat' split) <;> first | rfl | (exfalso; omega) | omega | (simp_all; done) | (exfalso; simp_all; omega)))) (by first | rfl | (simp only [tq0, cond_true, cond_false]; done) | (simp [tq0]; done) | ((try simp only [Int.ofNat_eq_natCast, List.length_map, Bool.not_eq_true', Bool.not_eq_false', decide_eq_true_eq, decide_eq_false_iff_not] at tq0); first | (simp [tq0]; done) | (refine congrArg _ ?_; simp [tq0]; done) | (refine congrArg _ ?_; simp [tq0]; omega) | (simp only [Bool.cond_eq_ite, Bool.and_eq_true, Bool.or_eq_true, Bool.not_eq_true', decide_eq_true_eq, beq_iff_eq, beq_eq_false_iff_ne, ne_eq]; (repeat' split) <;> first | rfl | (exfalso; omega) | omega | (simp_all; done) | (exfalso; simp_all; omega)))) (exsH0_0 l sec later hz h1 h2 hc h4 gb tq0)
  · exact Contract.cast (by first | rfl | (simp only [tq0, cond_true, cond_false]; done) | (simp [tq0]; done) | ((try simp only [Int.ofNat_eq_natCast, List.length_map, Bool.not_eq_true', Bool.not_eq_false', decide_eq_true_eq, decide_eq_false_iff_not] at tq0); first | (simp [tq0]; done) | (refine congrArg _ ?_; simp [tq0]; done) | (refine congrArg _ ?_; simp [tq0]; omega) | (simp only [Bool.cond_eq_ite, Bool.and_eq_true, Bool.or_eq_true, Bool.not_eq_true', decide_eq_true_eq, beq_iff_eq, beq_eq_false_iff_ne, ne_eq]; (repeat' split) <;> first | rfl | (exfalso; omega) | omega | (simp_all; done) | (exfalso; simp_all; omega)))) (by first | rfl | (simp only [tq0, cond_true, cond_false]; done) | (simp [tq0]; done) | ((try simp only [Int.ofNat_eq_natCast, List.length_map, Bool.not_eq_true', Bool.not_eq_false', decide_eq_true_eq, decide_eq_false_iff_not] at tq0); first | (simp [tq0]; done) | (refine congrArg _ ?_; simp [tq0]; done) | (refine congrArg _ ?_; simp [tq0]; omega) | (simp only [Bool.cond_eq_ite, Bool.and_eq_true, Bool.or_eq_true, Bool.not_eq_true', decide_eq_true_eq, beq_iff_eq, beq_eq_false_iff_ne, ne_eq]; (repeat' split) <;> first | rfl | (exfalso; omega) | omega | (simp_all; done) | (exfalso; simp_all; omega)))) (exsH0_1 l sec later hz h1 h2 hc h4 gb tq0)

theorem exsH1_0 (l : List Sp) (sec later : Int) (hz : Nat → Int) (h1 : fewAll l = true) (h2 : 0 ≤ sec) (hc : sec ≤ later) (h4 : later ≤ 1099511627776) (g0 : 0 ≤ hz 0 ∧ hz 0 ≤ 1099511627776) (gb : hz 1 < 0 ∨ hz 1 > 1099511627776) (tq0 : (decide (hz (1 : Nat) < (0 : Int))) = true) : Contract Try.prog 7 [.sl 10 (l.map Sp.row), I sec, I later, .agg (h3 hz)] [] (Bo true) ([]) :=
  vcP hmix [.reg 2 [(4, [.call [] [] (Bo (fewAll l)) []], none), (6, [], some false), (10, [], some false), (15, [], some false), (19, [], some false)], .unroll 5, .reg 7 [(4, [], some false), (9, [], some false)], .reg 7 [(4, [], some true), (9, [], some true)], .tab [(8, FAlive5)]] [] [
      Contract Try.prog (8 : Nat) [] [] (Bo true) [],
      Contract Try.prog (9 : Nat) [V.sl (10 : Nat) (List.map Sp.row l)] [] (Bo (fewAll l)) [],
      (!fewAll l) = false,
      decide (sec < (0 : Int)) = false,
      decide (sec > later) = false,
      decide (later > (1099511627776 : Int)) = false,
      decide (hz (0 : Nat) < (0 : Int)) = false,
      decide (hz (0 : Nat) > (1099511627776 : Int)) = false,
      decide (hz (1 : Nat) < (0 : Int)) = true,
      true = true] (by kernel_rfl)
    (by
      have d0 := tq0
      try simp only [Int.ofNat_eq_natCast, List.length_map, Bool.not_eq_true', Bool.not_eq_false', decide_eq_true_eq, decide_eq_false_iff_not] at d0
      simp only [allP]
      and_intros <;> first
        | omega
        | with_reducible assumption
        | exact cAlive
        | exact cFewAll _
        | (simp [h1]; done)
        | (simp; omega)
        | (simp; done)
        | decide)

theorem exsH1_1 (l : List Sp) (sec later : Int) (hz : Nat → Int) (h1 : fewAll l = true) (h2 : 0 ≤ sec) (hc : sec ≤ later) (h4 : later ≤ 1099511627776) (g0 : 0 ≤ hz 0 ∧ hz 0 ≤ 1099511627776) (gb : hz 1 < 0 ∨ hz 1 > 1099511627776) (tq0 : (decide (hz (1 : Nat) < (0 : Int))) = false) : Contract Try.prog 7 [.sl 10 (l.map Sp.row), I sec, I later, .agg (h3 hz)] [] (Bo true) ([]) :=
  vcP hmix [.reg 2 [(4, [.call [] [] (Bo (fewAll l)) []], none), (6, [], some false), (10, [], some false), (15, [], some false), (19, [], some false)], .unroll 5, .reg 7 [(4, [], some false), (9, [], some false)], .reg 7 [(4, [], some false), (9, [], some true)], .tab [(8, FAlive5)]] [] [
      Contract Try.prog (8 : Nat) [] [] (Bo true) [],
      Contract Try.prog (9 : Nat) [V.sl (10 : Nat) (List.map Sp.row l)] [] (Bo (fewAll l)) [],
      (!fewAll l) = false,
      decide (sec < (0 : Int)) = false,
      decide (sec > later) = false,
      decide (later > (1099511627776 : Int)) = false,
      decide (hz (0 : Nat) < (0 : Int)) = false,
      decide (hz (0 : Nat) > (1099511627776 : Int)) = false,
      decide (hz (1 : Nat) < (0 : Int)) = false,
      decide (hz (1 : Nat) > (1099511627776 : Int)) = true] (by kernel_rfl)
    (by
      have d0 := tq0
      try simp only [Int.ofNat_eq_natCast, List.length_map, Bool.not_eq_true', Bool.not_eq_false', decide_eq_true_eq, decide_eq_false_iff_not] at d0
      simp only [allP]
      and_intros <;> first
        | omega
        | with_reducible assumption
        | exact cAlive
        | exact cFewAll _
        | (simp [h1]; done)
        | (simp; omega)
        | (simp; done)
        | decide)

theorem exsH1 (l : List Sp) (sec later : Int) (hz : Nat → Int) (h1 : fewAll l = true) (h2 : 0 ≤ sec) (hc : sec ≤ later) (h4 : later ≤ 1099511627776) (g0 : 0 ≤ hz 0 ∧ hz 0 ≤ 1099511627776) (gb : hz 1 < 0 ∨ hz 1 > 1099511627776) : Contract Try.prog 7 [.sl 10 (l.map Sp.row), I sec, I later, .agg (h3 hz)] [] (Bo true) [] := by
  rcases tf (decide (hz (1 : Nat) < (0 : Int))) with tq0 | tq0
  · exact Contract.cast (by first | rfl | (simp only [tq0, cond_true, cond_false]; done) | (simp [tq0]; done) | ((try simp only [Int.ofNat_eq_natCast, List.length_map, Bool.not_eq_true', Bool.not_eq_false', decide_eq_true_eq, decide_eq_false_iff_not] at tq0); first | (simp [tq0]; done) | (refine congrArg _ ?_; simp [tq0]; done) | (refine congrArg _ ?_; simp [tq0]; omega) | (simp only [Bool.cond_eq_ite, Bool.and_eq_true, Bool.or_eq_true, Bool.not_eq_true', decide_eq_true_eq, beq_iff_eq, beq_eq_false_iff_ne, ne_eq]; (repeat' split) <;> first | rfl | (exfalso; omega) | omega | (simp_all; done) | (exfalso; simp_all; omega)))) (by first | rfl | (simp only [tq0, cond_true, cond_false]; done) | (simp [tq0]; done) | ((try simp only [Int.ofNat_eq_natCast, List.length_map, Bool.not_eq_true', Bool.not_eq_false', decide_eq_true_eq, decide_eq_false_iff_not] at tq0); first | (simp [tq0]; done) | (refine congrArg _ ?_; simp [tq0]; done) | (refine congrArg _ ?_; simp [tq0]; omega) | (simp only [Bool.cond_eq_ite, Bool.and_eq_true, Bool.or_eq_true, Bool.not_eq_true', decide_eq_true_eq, beq_iff_eq, beq_eq_false_iff_ne, ne_eq]; (repeat' split) <;> first | rfl | (exfalso; omega) | omega | (simp_all; done) | (exfalso; simp_all; omega)))) (exsH1_0 l sec later hz h1 h2 hc h4 g0 gb tq0)
  · exact Contract.cast (by first | rfl | (simp only [tq0, cond_true, cond_false]; done) | (simp [tq0]; done) | ((try simp only [Int.ofNat_eq_natCast, List.length_map, Bool.not_eq_true', Bool.not_eq_false', decide_eq_true_eq, decide_eq_false_iff_not] at tq0); first | (simp [tq0]; done) | (refine congrArg _ ?_; simp [tq0]; done) | (refine congrArg _ ?_; simp [tq0]; omega) | (simp only [Bool.cond_eq_ite, Bool.and_eq_true, Bool.or_eq_true, Bool.not_eq_true', decide_eq_true_eq, beq_iff_eq, beq_eq_false_iff_ne, ne_eq]; (repeat' split) <;> first | rfl | (exfalso; omega) | omega | (simp_all; done) | (exfalso; simp_all; omega)))) (by first | rfl | (simp only [tq0, cond_true, cond_false]; done) | (simp [tq0]; done) | ((try simp only [Int.ofNat_eq_natCast, List.length_map, Bool.not_eq_true', Bool.not_eq_false', decide_eq_true_eq, decide_eq_false_iff_not] at tq0); first | (simp [tq0]; done) | (refine congrArg _ ?_; simp [tq0]; done) | (refine congrArg _ ?_; simp [tq0]; omega) | (simp only [Bool.cond_eq_ite, Bool.and_eq_true, Bool.or_eq_true, Bool.not_eq_true', decide_eq_true_eq, beq_iff_eq, beq_eq_false_iff_ne, ne_eq]; (repeat' split) <;> first | rfl | (exfalso; omega) | omega | (simp_all; done) | (exfalso; simp_all; omega)))) (exsH1_1 l sec later hz h1 h2 hc h4 g0 gb tq0)

theorem exsH2_0 (l : List Sp) (sec later : Int) (hz : Nat → Int) (h1 : fewAll l = true) (h2 : 0 ≤ sec) (hc : sec ≤ later) (h4 : later ≤ 1099511627776) (g0 : 0 ≤ hz 0 ∧ hz 0 ≤ 1099511627776) (g1 : 0 ≤ hz 1 ∧ hz 1 ≤ 1099511627776) (gb : hz 2 < 0 ∨ hz 2 > 1099511627776) (tq0 : (decide (hz (2 : Nat) < (0 : Int))) = true) : Contract Try.prog 7 [.sl 10 (l.map Sp.row), I sec, I later, .agg (h3 hz)] [] (Bo true) ([]) :=
  vcP hmix [.reg 2 [(4, [.call [] [] (Bo (fewAll l)) []], none), (6, [], some false), (10, [], some false), (15, [], some false), (19, [], some false)], .unroll 5, .reg 7 [(4, [], some false), (9, [], some false)], .reg 7 [(4, [], some false), (9, [], some false)], .reg 7 [(4, [], some true), (9, [], some true)], .tab [(8, FAlive5)]] [] [
      Contract Try.prog (8 : Nat) [] [] (Bo true) [],
      Contract Try.prog (9 : Nat) [V.sl (10 : Nat) (List.map Sp.row l)] [] (Bo (fewAll l)) [],
      (!fewAll l) = false,
      decide (sec < (0 : Int)) = false,
      decide (sec > later) = false,
      decide (later > (1099511627776 : Int)) = false,
      decide (hz (0 : Nat) < (0 : Int)) = false,
      decide (hz (0 : Nat) > (1099511627776 : Int)) = false,
      decide (hz (1 : Nat) < (0 : Int)) = false,
      decide (hz (1 : Nat) > (1099511627776 : Int)) = false,
      decide (hz (2 : Nat) < (0 : Int)) = true,
      true = true] (by kernel_rfl)
    (by
      have d0 := tq0
      try simp only [Int.ofNat_eq_natCast, List.length_map, Bool.not_eq_true', Bool.not_eq_false', decide_eq_true_eq, decide_eq_false_iff_not] at d0
      simp only [allP]
      and_intros <;> first
        | omega
        | with_reducible assumption
        | exact cAlive
        | exact cFewAll _
        | (simp [h1]; done)
        | (simp; omega)
        | (simp; done)
        | decide)

theorem exsH2_1 (l : List Sp) (sec later : Int) (hz : Nat → Int) (h1 : fewAll l = true) (h2 : 0 ≤ sec) (hc : sec ≤ later) (h4 : later ≤ 1099511627776) (g0 : 0 ≤ hz 0 ∧ hz 0 ≤ 1099511627776) (g1 : 0 ≤ hz 1 ∧ hz 1 ≤ 1099511627776) (gb : hz 2 < 0 ∨ hz 2 > 1099511627776) (tq0 : (decide (hz (2 : Nat) < (0 : Int))) = false) : Contract Try.prog 7 [.sl 10 (l.map Sp.row), I sec, I later, .agg (h3 hz)] [] (Bo true) ([]) :=
  vcP hmix [.reg 2 [(4, [.call [] [] (Bo (fewAll l)) []], none), (6, [], some false), (10, [], some false), (15, [], some false), (19, [], some false)], .unroll 5, .reg 7 [(4, [], some false), (9, [], some false)], .reg 7 [(4, [], some false), (9, [], some false)], .reg 7 [(4, [], some false), (9, [], some true)], .tab [(8, FAlive5)]] [] [
      Contract Try.prog (8 : Nat) [] [] (Bo true) [],
      Contract Try.prog (9 : Nat) [V.sl (10 : Nat) (List.map Sp.row l)] [] (Bo (fewAll l)) [],
      (!fewAll l) = false,
      decide (sec < (0 : Int)) = false,
      decide (sec > later) = false,
      decide (later > (1099511627776 : Int)) = false,
      decide (hz (0 : Nat) < (0 : Int)) = false,
      decide (hz (0 : Nat) > (1099511627776 : Int)) = false,
      decide (hz (1 : Nat) < (0 : Int)) = false,
      decide (hz (1 : Nat) > (1099511627776 : Int)) = false,
      decide (hz (2 : Nat) < (0 : Int)) = false,
      decide (hz (2 : Nat) > (1099511627776 : Int)) = true] (by kernel_rfl)
    (by
      have d0 := tq0
      try simp only [Int.ofNat_eq_natCast, List.length_map, Bool.not_eq_true', Bool.not_eq_false', decide_eq_true_eq, decide_eq_false_iff_not] at d0
      simp only [allP]
      and_intros <;> first
        | omega
        | with_reducible assumption
        | exact cAlive
        | exact cFewAll _
        | (simp [h1]; done)
        | (simp; omega)
        | (simp; done)
        | decide)

theorem exsH2 (l : List Sp) (sec later : Int) (hz : Nat → Int) (h1 : fewAll l = true) (h2 : 0 ≤ sec) (hc : sec ≤ later) (h4 : later ≤ 1099511627776) (g0 : 0 ≤ hz 0 ∧ hz 0 ≤ 1099511627776) (g1 : 0 ≤ hz 1 ∧ hz 1 ≤ 1099511627776) (gb : hz 2 < 0 ∨ hz 2 > 1099511627776) : Contract Try.prog 7 [.sl 10 (l.map Sp.row), I sec, I later, .agg (h3 hz)] [] (Bo true) [] := by
  rcases tf (decide (hz (2 : Nat) < (0 : Int))) with tq0 | tq0
  · exact Contract.cast (by first | rfl | (simp only [tq0, cond_true, cond_false]; done) | (simp [tq0]; done) | ((try simp only [Int.ofNat_eq_natCast, List.length_map, Bool.not_eq_true', Bool.not_eq_false', decide_eq_true_eq, decide_eq_false_iff_not] at tq0); first | (simp [tq0]; done) | (refine congrArg _ ?_; simp [tq0]; done) | (refine congrArg _ ?_; simp [tq0]; omega) | (simp only [Bool.cond_eq_ite, Bool.and_eq_true, Bool.or_eq_true, Bool.not_eq_true', decide_eq_true_eq, beq_iff_eq, beq_eq_false_iff_ne, ne_eq]; (repeat' split) <;> first | rfl | (exfalso; omega) | omega | (simp_all; done) | (exfalso; simp_all; omega)))) (by first | rfl | (simp only [tq0, cond_true, cond_false]; done) | (simp [tq0]; done) | ((try simp only [Int.ofNat_eq_natCast, List.length_map, Bool.not_eq_true', Bool.not_eq_false', decide_eq_true_eq, decide_eq_false_iff_not] at tq0); first | (simp [tq0]; done) | (refine congrArg _ ?_; simp [tq0]; done) | (refine congrArg _ ?_; simp [tq0]; omega) | (simp only [Bool.cond_eq_ite, Bool.and_eq_true, Bool.or_eq_true, Bool.not_eq_true', decide_eq_true_eq, beq_iff_eq, beq_eq_false_iff_ne, ne_eq]; (repeat' split) <;> first | rfl | (exfalso; omega) | omega | (simp_all; done) | (exfalso; simp_all; omega)))) (exsH2_0 l sec later hz h1 h2 hc h4 g0 g1 gb tq0)
  · exact Contract.cast (by first | rfl | (simp only [tq0, cond_true, cond_false]; done) | (simp [tq0]; done) | ((try simp only [Int.ofNat_eq_natCast, List.length_map, Bool.not_eq_true', Bool.not_eq_false', decide_eq_true_eq, decide_eq_false_iff_not] at tq0); first | (simp [tq0]; done) | (refine congrArg _ ?_; simp [tq0]; done) | (refine congrArg _ ?_; simp [tq0]; omega) | (simp only [Bool.cond_eq_ite, Bool.and_eq_true, Bool.or_eq_true, Bool.not_eq_true', decide_eq_true_eq, beq_iff_eq, beq_eq_false_iff_ne, ne_eq]; (repeat' split) <;> first | rfl | (exfalso; omega) | omega | (simp_all; done) | (exfalso; simp_all; omega)))) (by first | rfl | (simp only [tq0, cond_true, cond_false]; done) | (simp [tq0]; done) | ((try simp only [Int.ofNat_eq_natCast, List.length_map, Bool.not_eq_true', Bool.not_eq_false', decide_eq_true_eq, decide_eq_false_iff_not] at tq0); first | (simp [tq0]; done) | (refine congrArg _ ?_; simp [tq0]; done) | (refine congrArg _ ?_; simp [tq0]; omega) | (simp only [Bool.cond_eq_ite, Bool.and_eq_true, Bool.or_eq_true, Bool.not_eq_true', decide_eq_true_eq, beq_iff_eq, beq_eq_false_iff_ne, ne_eq]; (repeat' split) <;> first | rfl | (exfalso; omega) | omega | (simp_all; done) | (exfalso; simp_all; omega)))) (exsH2_1 l sec later hz h1 h2 hc h4 g0 g1 gb tq0)

theorem exsO_0 (l : List Sp) (sec later : Int) (hz : Nat → Int) (h1 : fewAll l = true) (h2 : 0 ≤ sec) (hc : sec ≤ later) (h4 : later ≤ 1099511627776) (g0 : 0 ≤ hz 0 ∧ hz 0 ≤ 1099511627776) (g1 : 0 ≤ hz 1 ∧ hz 1 ≤ 1099511627776) (g2 : 0 ≤ hz 2 ∧ hz 2 ≤ 1099511627776) (hs : l.length ≤ 60) (hat : ∀ x ∈ l, x.attrs.length ≤ 1000000000) (hx : (rowsR l 1000).length ≤ 1000) (ha : ((rowsR l 1000).filter (fun y => !goneB sec hz y)).length ≤ 1000) (hx2 : ((rowsR l 1000).filter (fun y => !goneB later hz y)).length ≤ 1000) (e1 : ((rowsR l 1000).filter (fun y => !goneB sec hz y)).filter (fun y => !goneB later hz y) = ((rowsR l 1000).filter (fun y => !goneB later hz y))) (e2 : ((rowsR l 1000).filter (fun y => !goneB sec hz y)).filter (fun y => !goneB sec hz y) = ((rowsR l 1000).filter (fun y => !goneB sec hz y))) (hl : LoopC Try.prog 0 132 exB (exS sec later hz (rowsR l 1000) ((rowsR l 1000).filter (fun y => !goneB sec hz y)) 0 0) (.exit 2) (exS sec later hz (rowsR l 1000) ((rowsR l 1000).filter (fun y => !goneB sec hz y)) ((rowsR l 1000).filter (fun y => !goneB sec hz y)).length (rowsR l 1000).length)) : Contract Try.prog 7 [.sl 10 (l.map Sp.row), I sec, I later, .agg (h3 hz)] [] (Bo true) ([]) :=
  vcP hmix [.reg 2 [(4, [.call [] [] (Bo (fewAll l)) []], none), (6, [], some false), (10, [], some false), (15, [], some false), (19, [], some false)], .unroll 5, .reg 7 [(4, [], some false), (9, [], some false)], .reg 7 [(4, [], some false), (9, [], some false)], .reg 7 [(4, [], some false), (9, [], some false)], .reg 9 [(1, [.call [] [] (.own 0) [some (.arr 14 (((rowsR l 1000)).map Rw.row))]], none), (2, [.idx 1], none)], .reg 10 [(3, [.call [] [] (.own 0) [some (.arr 14 ((((rowsR l 1000).filter (fun y => !goneB sec hz y))).map Rw.row))]], none), (4, [.idx 1], none)], .cut ⟨[1, 2, 7, 11, 12, 13, 14], [(1000, 900)], []⟩ (.exit 2) (exS sec later hz (rowsR l 1000) ((rowsR l 1000).filter (fun y => !goneB sec hz y)) ((rowsR l 1000).filter (fun y => !goneB sec hz y)).length (rowsR l 1000).length), .reg 20 [(3, [], some true), (8, [.call [] [] (.own 0) [some (.arr 14 ((((rowsR l 1000).filter (fun y => !goneB later hz y))).map Rw.row))]], none), (12, [.call [] [] (.own 0) [some (.arr 14 ((((rowsR l 1000).filter (fun y => !goneB later hz y))).map Rw.row))]], none), (13, [.call [] [] (Bo true) []], none), (19, [.call [] [] (.own 0) [some (.arr 14 ((((rowsR l 1000).filter (fun y => !goneB sec hz y))).map Rw.row))]], none), (21, [.call [] [] (Bo true) []], none)], .tab [(8, FAlive5)]] [] [
      Contract Try.prog (8 : Nat) [] [] (Bo true) [],
      Contract Try.prog (9 : Nat) [V.sl (10 : Nat) (List.map Sp.row l)] [] (Bo (fewAll l)) [],
      (!fewAll l) = false,
      decide (sec < (0 : Int)) = false,
      decide (sec > later) = false,
      decide (later > (1099511627776 : Int)) = false,
      decide (hz (0 : Nat) < (0 : Int)) = false,
      decide (hz (0 : Nat) > (1099511627776 : Int)) = false,
      decide (hz (1 : Nat) < (0 : Int)) = false,
      decide (hz (1 : Nat) > (1099511627776 : Int)) = false,
      decide (hz (2 : Nat) < (0 : Int)) = false,
      decide (hz (2 : Nat) > (1099511627776 : Int)) = false,
      Contract Try.prog (10 : Nat) [V.sl (10 : Nat) (List.map Sp.row l), I (1000 : Int)] [] (V.own (0 : Nat)) [some (Obj.arr (14 : Nat) (List.map Rw.row (rowsR l (1000 : Int))))],
      Contract Try.prog (21 : Nat) [V.sl (14 : Nat) (List.map Rw.row (rowsR l (1000 : Int))), I sec, V.agg [I (hz (0 : Nat)), I (hz (1 : Nat)), I (hz (2 : Nat))]] [] (V.own (0 : Nat)) [some (Obj.arr (14 : Nat) (List.map Rw.row (List.filter (fun y0 => !goneB sec hz y0) (rowsR l (1000 : Int)))))],
      LoopC Try.prog (0 : Nat) (132 : Nat) exB { env := [((1 : Nat), I sec), ((2 : Nat), I later), ((7 : Nat), V.ptr (900 : Nat) (0 : Nat) (0 : Nat) (0 : Nat)), ((11 : Nat), V.sl (14 : Nat) (List.map Rw.row (rowsR l (1000 : Int)))), ((12 : Nat), V.sl (14 : Nat) (List.map Rw.row (List.filter (fun y0 => !goneB sec hz y0) (rowsR l (1000 : Int))))), ((13 : Nat), I (0 : Int)), ((14 : Nat), I (0 : Int))], st := [((900 : Nat), Obj.box [I (hz (0 : Nat)), I (hz (1 : Nat)), I (hz (2 : Nat))])], ids := [(900 : Nat)] } (Ex.exit (2 : Nat)) { env := [((1 : Nat), I sec), ((2 : Nat), I later), ((7 : Nat), V.ptr (900 : Nat) (0 : Nat) (0 : Nat) (0 : Nat)), ((11 : Nat), V.sl (14 : Nat) (List.map Rw.row (rowsR l (1000 : Int)))), ((12 : Nat), V.sl (14 : Nat) (List.map Rw.row (List.filter (fun y0 => !goneB sec hz y0) (rowsR l (1000 : Int))))), ((13 : Nat), I (Int.ofNat (List.length (List.filter (fun y0 => !goneB sec hz y0) (rowsR l (1000 : Int)))))), ((14 : Nat), I (Int.ofNat (List.length (rowsR l (1000 : Int)))))], st := [((900 : Nat), Obj.box [I (hz (0 : Nat)), I (hz (1 : Nat)), I (hz (2 : Nat))])], ids := [(900 : Nat)] },
      (Int.ofNat (List.length (List.filter (fun y0 => !goneB sec hz y0) (rowsR l (1000 : Int)))) == Int.ofNat (List.length (List.map Rw.row (List.filter (fun y0 => !goneB sec hz y0) (rowsR l (1000 : Int)))))) = true,
      Contract Try.prog (21 : Nat) [V.sl (14 : Nat) (List.map Rw.row (List.filter (fun y0 => !goneB sec hz y0) (rowsR l (1000 : Int)))), I later, V.agg [I (hz (0 : Nat)), I (hz (1 : Nat)), I (hz (2 : Nat))]] [] (V.own (0 : Nat)) [some (Obj.arr (14 : Nat) (List.map Rw.row (List.filter (fun y0 => !goneB later hz y0) (rowsR l (1000 : Int)))))],
      Contract Try.prog (21 : Nat) [V.sl (14 : Nat) (List.map Rw.row (rowsR l (1000 : Int))), I later, V.agg [I (hz (0 : Nat)), I (hz (1 : Nat)), I (hz (2 : Nat))]] [] (V.own (0 : Nat)) [some (Obj.arr (14 : Nat) (List.map Rw.row (List.filter (fun y0 => !goneB later hz y0) (rowsR l (1000 : Int)))))],
      Contract Try.prog (11 : Nat) [V.sl (14 : Nat) (List.map Rw.row (List.filter (fun y0 => !goneB later hz y0) (rowsR l (1000 : Int)))), V.sl (14 : Nat) (List.map Rw.row (List.filter (fun y0 => !goneB later hz y0) (rowsR l (1000 : Int))))] [] (Bo true) [],
      true = true,
      Contract Try.prog (21 : Nat) [V.sl (14 : Nat) (List.map Rw.row (List.filter (fun y0 => !goneB sec hz y0) (rowsR l (1000 : Int)))), I sec, V.agg [I (hz (0 : Nat)), I (hz (1 : Nat)), I (hz (2 : Nat))]] [] (V.own (0 : Nat)) [some (Obj.arr (14 : Nat) (List.map Rw.row (List.filter (fun y0 => !goneB sec hz y0) (rowsR l (1000 : Int)))))],
      Contract Try.prog (11 : Nat) [V.sl (14 : Nat) (List.map Rw.row (List.filter (fun y0 => !goneB sec hz y0) (rowsR l (1000 : Int)))), V.sl (14 : Nat) (List.map Rw.row (List.filter (fun y0 => !goneB sec hz y0) (rowsR l (1000 : Int))))] [] (Bo true) [],
      true = true] (by kernel_rfl)
    (by
      simp only [allP]
      and_intros <;> first
        | omega
        | with_reducible assumption
        | exact cAlive
        | exact cFewAll _
        | (simp [h1]; done)
        | (simp; omega)
        | exact cRows l 1000 (by omega) hat
        | exact flatRw _
        | exact hl
        | exact cExpire (rowsR l 1000) sec hz (by omega)
        | exact cExpire (rowsR l 1000) later hz (by omega)
        | (have h := cExpire ((rowsR l 1000).filter (fun y => !goneB sec hz y)) later hz (by omega); rw [e1] at h; exact h)
        | (have h := cExpire ((rowsR l 1000).filter (fun y => !goneB sec hz y)) sec hz (by omega); rw [e2] at h; exact h)
        | exact cSame _ (by omega)
        | (simp; done)
        | (simp; done)
        | decide)

theorem exsO (l : List Sp) (sec later : Int) (hz : Nat → Int) (h1 : fewAll l = true) (h2 : 0 ≤ sec) (hc : sec ≤ later) (h4 : later ≤ 1099511627776) (g0 : 0 ≤ hz 0 ∧ hz 0 ≤ 1099511627776) (g1 : 0 ≤ hz 1 ∧ hz 1 ≤ 1099511627776) (g2 : 0 ≤ hz 2 ∧ hz 2 ≤ 1099511627776) (hs : l.length ≤ 60) (hat : ∀ x ∈ l, x.attrs.length ≤ 1000000000) (hx : (rowsR l 1000).length ≤ 1000) (ha : ((rowsR l 1000).filter (fun y => !goneB sec hz y)).length ≤ 1000) (hx2 : ((rowsR l 1000).filter (fun y => !goneB later hz y)).length ≤ 1000) (e1 : ((rowsR l 1000).filter (fun y => !goneB sec hz y)).filter (fun y => !goneB later hz y) = ((rowsR l 1000).filter (fun y => !goneB later hz y))) (e2 : ((rowsR l 1000).filter (fun y => !goneB sec hz y)).filter (fun y => !goneB sec hz y) = ((rowsR l 1000).filter (fun y => !goneB sec hz y))) (hl : LoopC Try.prog 0 132 exB (exS sec later hz (rowsR l 1000) ((rowsR l 1000).filter (fun y => !goneB sec hz y)) 0 0) (.exit 2) (exS sec later hz (rowsR l 1000) ((rowsR l 1000).filter (fun y => !goneB sec hz y)) ((rowsR l 1000).filter (fun y => !goneB sec hz y)).length (rowsR l 1000).length)) : Contract Try.prog 7 [.sl 10 (l.map Sp.row), I sec, I later, .agg (h3 hz)] [] (Bo true) [] := by
  exact Contract.cast (by first | rfl | (simp only [cond_true, cond_false]; done) | (simp []; done) | (first | (simp []; done) | (refine congrArg _ ?_; simp []; done) | (refine congrArg _ ?_; simp []; omega) | (simp only [Bool.cond_eq_ite, Bool.and_eq_true, Bool.or_eq_true, Bool.not_eq_true', decide_eq_true_eq, beq_iff_eq, beq_eq_false_iff_ne, ne_eq]; (repeat' split) <;> first | rfl | (exfalso; omega) | omega | (simp_all; done) | (exfalso; simp_all; omega)))) (by first | rfl | (simp only [cond_true, cond_false]; done) | (simp []; done) | (first | (simp []; done) | (refine congrArg _ ?_; simp []; done) | (refine congrArg _ ?_; simp []; omega) | (simp only [Bool.cond_eq_ite, Bool.and_eq_true, Bool.or_eq_true, Bool.not_eq_true', decide_eq_true_eq, beq_iff_eq, beq_eq_false_iff_ne, ne_eq]; (repeat' split) <;> first | rfl | (exfalso; omega) | omega | (simp_all; done) | (exfalso; simp_all; omega)))) (exsO_0 l sec later hz h1 h2 hc h4 g0 g1 g2 hs hat hx ha hx2 e1 e2 hl )

end Go.Proofs.Ytigakemkanobaaa
