/- sorting gleaning/api.Episode: merging in place. -/
import Derived.Test.YtfpdlamjlbpmkaaSoA
namespace Go.Proofs.Ytfpdlamjlbpmkaa
open E
set_option maxRecDepth 100000
set_option linter.unusedVariables false
set_option linter.unusedSimpArgs false

def soX (l : List Ep)  (a m b i j : Nat) : SL := ⟨[(0, .own 0), (1, I (a : Int)), (2, I (m : Int)), (3, I (b : Int)), (4, .clo (.func 30) [] []), (10, I (i : Int)), (11, I (j : Int))], [(0, .arr 6 (l.map Ep.row))], [0, 0]⟩
def soK (l : List Ep)  (i k : Nat) : SL := ⟨[(0, .own 0), (10, I (i : Int)), (13, I (k : Int))], [(0, .arr 6 (l.map Ep.row))], [0, 0]⟩
def soY (l : List Ep)  (a m b i j : Nat) : SL := ⟨[(0, .own 0), (1, I (a : Int)), (2, I (m : Int)), (3, I (b : Int)), (4, .clo (.func 30) [] []), (14, I (i : Int)), (15, I (j : Int))], [(0, .arr 6 (l.map Ep.row))], [0, 0]⟩
def soH (l : List Ep)  (i k : Nat) : SL := ⟨[(0, .own 0), (14, I (i : Int)), (17, I (k : Int))], [(0, .arr 6 (l.map Ep.row))], [0, 0]⟩
def soZ (l : List Ep)  (a m b mid n i j p : Nat) : SL := ⟨[(0, .own 0), (1, I (a : Int)), (2, I (m : Int)), (3, I (b : Int)), (4, .clo (.func 30) [] []), (18, I (mid : Int)), (19, I (n : Int)), (20, I (i : Int)), (21, I (j : Int)), (22, I (p : Int))], [(0, .arr 6 (l.map Ep.row))], [0, 0]⟩
def soT (l : List Ep)  (a m b mid s e : Nat) : SL := ⟨[(0, .own 0), (1, I (a : Int)), (2, I (m : Int)), (3, I (b : Int)), (4, .clo (.func 30) [] []), (18, I (mid : Int)), (20, I (s : Int)), (24, I (e : Int))], [(0, .arr 6 (l.map Ep.row))], [0, 0]⟩
noncomputable def soXB : Code := codeAt Try.prog 42 [false, true, false, true, true, false, false, false]

noncomputable def soKB : Code := codeAt Try.prog 42 [false, true, false, true, true, true, false, true, false, false]

noncomputable def soYB : Code := codeAt Try.prog 42 [true, false, true, false, true, true, false, false, false]

noncomputable def soHB : Code := codeAt Try.prog 42 [true, false, true, false, true, true, true, false, true, false, false]

noncomputable def soZB : Code := codeAt Try.prog 42 [true, true, true, true, true, true, true, false, false, false]

noncomputable def soT1B : Code := codeAt Try.prog 42 [true, true, true, true, true, true, true, true, true]

noncomputable def soT2B : Code := codeAt Try.prog 42 [true, true, true, true, true, true, true, true, true, true]

noncomputable def soT3B : Code := codeAt Try.prog 42 [true, true, true, true, true, true, true, true, true, true, true]

theorem soXgo_0 (l : List Ep)  (a m b i j : Nat) (x y : Ep) (hij : i < j) (hs : j ≤ 1000000) (hx : l[((i + j) / 2)]? = some x) (hy : l[a]? = some y) (hb : soLt  x y = true) : CodeC Try.prog 1 220 soXB (soX (l)  a m b i j) (Ex.normal) ({ env := [((0 : Nat), V.own (0 : Nat)), ((1 : Nat), I (Int.ofNat a)), ((2 : Nat), I (Int.ofNat m)), ((3 : Nat), I (Int.ofNat b)), ((4 : Nat), V.clo (Fn.func (30 : Nat)) [] []), ((10 : Nat), I (Int.ofNat ((i + j) / (2 : Nat) + (1 : Nat)))), ((11 : Nat), I (Int.ofNat j))], st := [((0 : Nat), Obj.arr (6 : Nat) (List.map Ep.row l))], ids := [(0 : Nat), (0 : Nat)] }) :=
  runP hmix [.reg 3 [(2, [], some true)], .reg 4 [(5, [.be (I ((((i + j) / 2) : Nat) : Int))], none)], .reg 5 [(4, [.row (Ep.row x)], none), (8, [.row (Ep.row y)], none), (9, [.call [] [] (I ((cmpE) x y)) []], none), (10, [], some true)], .reg 6 [(1, [.be (I ((((i + j) / 2) + 1 : Nat) : Int))], none)]] ⟨[0, 1, 2, 3, 4, 10, 11], [(0, 0)], []⟩ [
      decide (Int.ofNat i < Int.ofNat j) = true,
      IntKind.wrap IntKind.i64 (Int.fdiv (IntKind.wrap IntKind.u64 (IntKind.wrap IntKind.i64 (Int.ofNat (i + j)))) (2 : Int)) = Int.ofNat ((i + j) / (2 : Nat)),
      (0 : Int) ≤ Int.ofNat ((i + j) / (2 : Nat)),
      Int.ofNat ((i + j) / (2 : Nat)) < Int.ofNat (List.length (List.map Ep.row l)),
      (List.map Ep.row l)[(i + j) / (2 : Nat)]? = some (Ep.row x),
      (0 : Int) ≤ Int.ofNat a,
      Int.ofNat a < Int.ofNat (List.length (List.map Ep.row l)),
      (List.map Ep.row l)[a]? = some (Ep.row y),
      Contract Try.prog (30 : Nat) [V.agg [V.val (Value.int IntKind.u64 (Ep.hi x)), V.val (Value.int IntKind.u64 (Ep.lo x)), I (Ep.first x), I (Ep.last x), Bo (Ep.sure x), V.sl (10 : Nat) (List.map Sp.row (Ep.spans x))], V.agg [V.val (Value.int IntKind.u64 (Ep.hi y)), V.val (Value.int IntKind.u64 (Ep.lo y)), I (Ep.first y), I (Ep.last y), Bo (Ep.sure y), V.sl (10 : Nat) (List.map Sp.row (Ep.spans y))]] [] (I (cmpE x y)) [],
      decide (cmpE x y < (0 : Int)) = true,
      IntKind.wrap IntKind.i64 (Int.ofNat ((i + j) / (2 : Nat) + (1 : Nat))) = Int.ofNat ((i + j) / (2 : Nat) + (1 : Nat))] (by kernel_rfl)
    (by
      simp only [allP]
      and_intros <;> first
        | (simp; omega)
        | (simp [hx]; done)
        | (simp [hy]; done)
        | exact i64_small (by simp; omega)
        | exact cCompare x y
        | exact hb
        | exact halfW (by omega)
        | (have q := (List.getElem?_eq_some_iff.1 hx).1; simp; omega)
        | (have q := (List.getElem?_eq_some_iff.1 hy).1; simp; omega))

theorem soXgo (l : List Ep)  (a m b i j : Nat) (x y : Ep) (hij : i < j) (hs : j ≤ 1000000) (hx : l[((i + j) / 2)]? = some x) (hy : l[a]? = some y) (hb : soLt  x y = true)  : CodeC Try.prog 1 220 soXB (soX (l)  a m b i j) .normal (soX (l)  a m b (((i + j) / 2) + 1) j) := by
  exact CodeC.cast (by
    first
      | rfl) (soXgo_0 l a m b i j x y hij hs hx hy hb )

theorem soXba_0 (l : List Ep)  (a m b i j : Nat) (x y : Ep) (hij : i < j) (hs : j ≤ 1000000) (hx : l[((i + j) / 2)]? = some x) (hy : l[a]? = some y) (hb : soLt  x y = false) : CodeC Try.prog 1 220 soXB (soX (l)  a m b i j) (Ex.normal) ({ env := [((0 : Nat), V.own (0 : Nat)), ((1 : Nat), I (Int.ofNat a)), ((2 : Nat), I (Int.ofNat m)), ((3 : Nat), I (Int.ofNat b)), ((4 : Nat), V.clo (Fn.func (30 : Nat)) [] []), ((10 : Nat), I (Int.ofNat i)), ((11 : Nat), I (Int.ofNat ((i + j) / (2 : Nat))))], st := [((0 : Nat), Obj.arr (6 : Nat) (List.map Ep.row l))], ids := [(0 : Nat), (0 : Nat)] }) :=
  runP hmix [.reg 3 [(2, [], some true)], .reg 4 [(5, [.be (I ((((i + j) / 2) : Nat) : Int))], none)], .reg 5 [(4, [.row (Ep.row x)], none), (8, [.row (Ep.row y)], none), (9, [.call [] [] (I ((cmpE) x y)) []], none), (10, [], some false)]] ⟨[0, 1, 2, 3, 4, 10, 11], [(0, 0)], []⟩ [
      decide (Int.ofNat i < Int.ofNat j) = true,
      IntKind.wrap IntKind.i64 (Int.fdiv (IntKind.wrap IntKind.u64 (IntKind.wrap IntKind.i64 (Int.ofNat (i + j)))) (2 : Int)) = Int.ofNat ((i + j) / (2 : Nat)),
      (0 : Int) ≤ Int.ofNat ((i + j) / (2 : Nat)),
      Int.ofNat ((i + j) / (2 : Nat)) < Int.ofNat (List.length (List.map Ep.row l)),
      (List.map Ep.row l)[(i + j) / (2 : Nat)]? = some (Ep.row x),
      (0 : Int) ≤ Int.ofNat a,
      Int.ofNat a < Int.ofNat (List.length (List.map Ep.row l)),
      (List.map Ep.row l)[a]? = some (Ep.row y),
      Contract Try.prog (30 : Nat) [V.agg [V.val (Value.int IntKind.u64 (Ep.hi x)), V.val (Value.int IntKind.u64 (Ep.lo x)), I (Ep.first x), I (Ep.last x), Bo (Ep.sure x), V.sl (10 : Nat) (List.map Sp.row (Ep.spans x))], V.agg [V.val (Value.int IntKind.u64 (Ep.hi y)), V.val (Value.int IntKind.u64 (Ep.lo y)), I (Ep.first y), I (Ep.last y), Bo (Ep.sure y), V.sl (10 : Nat) (List.map Sp.row (Ep.spans y))]] [] (I (cmpE x y)) [],
      decide (cmpE x y < (0 : Int)) = false] (by kernel_rfl)
    (by
      simp only [allP]
      and_intros <;> first
        | (simp; omega)
        | (simp [hx]; done)
        | (simp [hy]; done)
        | exact cCompare x y
        | exact hb
        | exact halfW (by omega)
        | (have q := (List.getElem?_eq_some_iff.1 hx).1; simp; omega)
        | (have q := (List.getElem?_eq_some_iff.1 hy).1; simp; omega))

theorem soXba (l : List Ep)  (a m b i j : Nat) (x y : Ep) (hij : i < j) (hs : j ≤ 1000000) (hx : l[((i + j) / 2)]? = some x) (hy : l[a]? = some y) (hb : soLt  x y = false)  : CodeC Try.prog 1 220 soXB (soX (l)  a m b i j) .normal (soX (l)  a m b i ((i + j) / 2)) := by
  exact CodeC.cast (by
    first
      | rfl) (soXba_0 l a m b i j x y hij hs hx hy hb )

theorem soXz_0 (l : List Ep)  (a m b i j : Nat) (hij : j ≤ i) : CodeC Try.prog 1 220 soXB (soX (l)  a m b i j) (Ex.exit (0 : Nat)) ({ env := [((0 : Nat), V.own (0 : Nat)), ((1 : Nat), I (Int.ofNat a)), ((2 : Nat), I (Int.ofNat m)), ((3 : Nat), I (Int.ofNat b)), ((4 : Nat), V.clo (Fn.func (30 : Nat)) [] []), ((10 : Nat), I (Int.ofNat i)), ((11 : Nat), I (Int.ofNat j))], st := [((0 : Nat), Obj.arr (6 : Nat) (List.map Ep.row l))], ids := [(0 : Nat), (0 : Nat)] }) :=
  runP hmix [.reg 3 [(2, [], some false)]] ⟨[0, 1, 2, 3, 4, 10, 11], [(0, 0)], []⟩ [
      decide (Int.ofNat i < Int.ofNat j) = false] (by kernel_rfl)
    (by
      simp only [allP]
      and_intros <;> first
        | (simp; omega))

theorem soXz (l : List Ep)  (a m b i j : Nat) (hij : j ≤ i)  : CodeC Try.prog 1 220 soXB (soX (l)  a m b i j) (.exit 0) (soX (l)  a m b i j) := by
  exact CodeC.cast (by
    first
      | rfl) (soXz_0 l a m b i j hij )

theorem soKgo_0 (A B : List Ep) (x y : Ep)  (i k : Nat) (hk : k = A.length) (hi : k + 1 < i) (hs : i ≤ 1000000) (hl : A.length + B.length ≤ 1000000) : CodeC Try.prog 1 220 soKB (soK (A ++ x :: y :: B)  i k) (Ex.normal) ({ env := [((0 : Nat), V.own (0 : Nat)), ((10 : Nat), I (Int.ofNat i)), ((13 : Nat), I (Int.ofNat (k + (1 : Nat))))], st := [((0 : Nat), Obj.arr (6 : Nat) (List.map Ep.row (A ++ y :: x :: B)))], ids := [(0 : Nat), (0 : Nat)] }) :=
  runP hmix [.reg 9 [(2, [.be (I ((i - 1 : Nat) : Int))], none), (3, [], some true)], .reg 11 [(4, [.be (I ((A.length + 1 : Nat) : Int))], none), (7, [.be (I ((A.length + 1 : Nat) : Int))], none), (9, [.row (Ep.row y)], none), (13, [.row (Ep.row x)], none), (15, [.row (Ep.row x), .beO ((A ++ y :: y :: B).map Ep.row)], none), (17, [.row (Ep.row y), .beO ((A ++ y :: x :: B).map Ep.row)], none)], .reg 10 [(1, [.be (I ((k + 1 : Nat) : Int))], none)]] ⟨[0, 10, 13], [(0, 0)], []⟩ [
      IntKind.wrap IntKind.i64 (Int.ofNat i + (-1 : Int)) = Int.ofNat (i - (1 : Nat)),
      decide (Int.ofNat k < Int.ofNat (i - (1 : Nat))) = true,
      IntKind.wrap IntKind.i64 (Int.ofNat (k + (1 : Nat))) = Int.ofNat (List.length A + (1 : Nat)),
      IntKind.wrap IntKind.i64 (Int.ofNat (k + (1 : Nat))) = Int.ofNat (List.length A + (1 : Nat)),
      (0 : Int) ≤ Int.ofNat (List.length A + (1 : Nat)),
      Int.ofNat (List.length A + (1 : Nat)) < Int.ofNat (List.length (List.map Ep.row (A ++ x :: y :: B))),
      (List.map Ep.row (A ++ x :: y :: B))[Int.toNat (Int.ofNat (List.length A + (1 : Nat)))]? = some (Ep.row y),
      (0 : Int) ≤ Int.ofNat k,
      Int.ofNat k < Int.ofNat (List.length (List.map Ep.row (A ++ x :: y :: B))),
      (List.map Ep.row (A ++ x :: y :: B))[k]? = some (Ep.row x),
      (0 : Int) ≤ Int.ofNat k,
      Int.ofNat k < Int.ofNat (List.length (List.map Ep.row (A ++ x :: y :: B))),
      (List.map Ep.row (A ++ x :: y :: B))[k]? = some (Ep.row x),
      List.set (List.map Ep.row (A ++ x :: y :: B)) k [V.val (Value.int IntKind.u64 (Ep.hi y)), V.val (Value.int IntKind.u64 (Ep.lo y)), I (Ep.first y), I (Ep.last y), Bo (Ep.sure y), V.sl (10 : Nat) (List.map Sp.row (Ep.spans y))] = List.map Ep.row (A ++ y :: y :: B),
      (0 : Int) ≤ Int.ofNat (List.length A + (1 : Nat)),
      Int.ofNat (List.length A + (1 : Nat)) < Int.ofNat (List.length (List.map Ep.row (A ++ y :: y :: B))),
      (List.map Ep.row (A ++ y :: y :: B))[Int.toNat (Int.ofNat (List.length A + (1 : Nat)))]? = some (Ep.row y),
      List.set (List.map Ep.row (A ++ y :: y :: B)) (Int.toNat (Int.ofNat (List.length A + (1 : Nat)))) [V.val (Value.int IntKind.u64 (Ep.hi x)), V.val (Value.int IntKind.u64 (Ep.lo x)), I (Ep.first x), I (Ep.last x), Bo (Ep.sure x), V.sl (10 : Nat) (List.map Sp.row (Ep.spans x))] = List.map Ep.row (A ++ y :: x :: B),
      IntKind.wrap IntKind.i64 (Int.ofNat (k + (1 : Nat))) = Int.ofNat (k + (1 : Nat))] (by kernel_rfl)
    (by
      simp only [allP]
      and_intros <;> first
        | (simp; omega)
        | exact i64_small (by simp; omega)
        | (rw [i64_small (by simp; omega)]; simp; omega)
        | exact at1 (by omega)
        | exact set1 (by omega)
        | exact set2 rfl
        | exact at2 rfl
        | (simp; done))

theorem soKgo (A B : List Ep) (x y : Ep)  (i k : Nat) (hk : k = A.length) (hi : k + 1 < i) (hs : i ≤ 1000000) (hl : A.length + B.length ≤ 1000000)  : CodeC Try.prog 1 220 soKB (soK (A ++ x :: y :: B)  i k) .normal (soK (A ++ y :: x :: B)  i (k + 1)) := by
  exact CodeC.cast (by
    first
      | rfl) (soKgo_0 A B x y i k hk hi hs hl )

theorem soKz_0 (l : List Ep)  (i k : Nat) (h1 : 1 ≤ i) (hs : i ≤ 1000000) (hi : i ≤ k + 1) : CodeC Try.prog 1 220 soKB (soK (l)  i k) (Ex.exit (2 : Nat)) ({ env := [((0 : Nat), V.own (0 : Nat)), ((10 : Nat), I (Int.ofNat i)), ((13 : Nat), I (Int.ofNat k))], st := [((0 : Nat), Obj.arr (6 : Nat) (List.map Ep.row l))], ids := [(0 : Nat), (0 : Nat)] }) :=
  runP hmix [.reg 9 [(2, [.be (I ((i - 1 : Nat) : Int))], none), (3, [], some false)]] ⟨[0, 10, 13], [(0, 0)], []⟩ [
      IntKind.wrap IntKind.i64 (Int.ofNat i + (-1 : Int)) = Int.ofNat (i - (1 : Nat)),
      decide (Int.ofNat k < Int.ofNat (i - (1 : Nat))) = false] (by kernel_rfl)
    (by
      simp only [allP]
      and_intros <;> first
        | (simp; omega)
        | (rw [i64_small (by simp; omega)]; simp; omega))

theorem soKz (l : List Ep)  (i k : Nat) (h1 : 1 ≤ i) (hs : i ≤ 1000000) (hi : i ≤ k + 1)  : CodeC Try.prog 1 220 soKB (soK (l)  i k) (.exit 2) (soK (l)  i k) := by
  exact CodeC.cast (by
    first
      | rfl) (soKz_0 l i k h1 hs hi )

theorem soYgo_0 (l : List Ep)  (a m b i j : Nat) (x y : Ep) (hij : i < j) (hs : j ≤ 1000000) (hx : l[m]? = some x) (hy : l[((i + j) / 2)]? = some y) (hb : soLt  x y = false) : CodeC Try.prog 1 220 soYB (soY (l)  a m b i j) (Ex.normal) ({ env := [((0 : Nat), V.own (0 : Nat)), ((1 : Nat), I (Int.ofNat a)), ((2 : Nat), I (Int.ofNat m)), ((3 : Nat), I (Int.ofNat b)), ((4 : Nat), V.clo (Fn.func (30 : Nat)) [] []), ((14 : Nat), I (Int.ofNat ((i + j) / (2 : Nat) + (1 : Nat)))), ((15 : Nat), I (Int.ofNat j))], st := [((0 : Nat), Obj.arr (6 : Nat) (List.map Ep.row l))], ids := [(0 : Nat), (0 : Nat)] }) :=
  runP hmix [.reg 15 [(2, [], some true)], .reg 16 [(5, [.be (I ((((i + j) / 2) : Nat) : Int))], none)], .reg 17 [(4, [.row (Ep.row x)], none), (8, [.row (Ep.row y)], none), (9, [.call [] [] (I ((cmpE) x y)) []], none), (10, [], some false)], .reg 18 [(1, [.be (I ((((i + j) / 2) + 1 : Nat) : Int))], none)]] ⟨[0, 1, 2, 3, 4, 14, 15], [(0, 0)], []⟩ [
      decide (Int.ofNat i < Int.ofNat j) = true,
      IntKind.wrap IntKind.i64 (Int.fdiv (IntKind.wrap IntKind.u64 (IntKind.wrap IntKind.i64 (Int.ofNat (i + j)))) (2 : Int)) = Int.ofNat ((i + j) / (2 : Nat)),
      (0 : Int) ≤ Int.ofNat m,
      Int.ofNat m < Int.ofNat (List.length (List.map Ep.row l)),
      (List.map Ep.row l)[m]? = some (Ep.row x),
      (0 : Int) ≤ Int.ofNat ((i + j) / (2 : Nat)),
      Int.ofNat ((i + j) / (2 : Nat)) < Int.ofNat (List.length (List.map Ep.row l)),
      (List.map Ep.row l)[(i + j) / (2 : Nat)]? = some (Ep.row y),
      Contract Try.prog (30 : Nat) [V.agg [V.val (Value.int IntKind.u64 (Ep.hi x)), V.val (Value.int IntKind.u64 (Ep.lo x)), I (Ep.first x), I (Ep.last x), Bo (Ep.sure x), V.sl (10 : Nat) (List.map Sp.row (Ep.spans x))], V.agg [V.val (Value.int IntKind.u64 (Ep.hi y)), V.val (Value.int IntKind.u64 (Ep.lo y)), I (Ep.first y), I (Ep.last y), Bo (Ep.sure y), V.sl (10 : Nat) (List.map Sp.row (Ep.spans y))]] [] (I (cmpE x y)) [],
      decide (cmpE x y < (0 : Int)) = false,
      IntKind.wrap IntKind.i64 (Int.ofNat ((i + j) / (2 : Nat) + (1 : Nat))) = Int.ofNat ((i + j) / (2 : Nat) + (1 : Nat))] (by kernel_rfl)
    (by
      simp only [allP]
      and_intros <;> first
        | (simp; omega)
        | (simp [hx]; done)
        | (simp [hy]; done)
        | exact i64_small (by simp; omega)
        | exact cCompare x y
        | exact hb
        | exact halfW (by omega)
        | (have q := (List.getElem?_eq_some_iff.1 hx).1; simp; omega)
        | (have q := (List.getElem?_eq_some_iff.1 hy).1; simp; omega))

theorem soYgo (l : List Ep)  (a m b i j : Nat) (x y : Ep) (hij : i < j) (hs : j ≤ 1000000) (hx : l[m]? = some x) (hy : l[((i + j) / 2)]? = some y) (hb : soLt  x y = false)  : CodeC Try.prog 1 220 soYB (soY (l)  a m b i j) .normal (soY (l)  a m b (((i + j) / 2) + 1) j) := by
  exact CodeC.cast (by
    first
      | rfl) (soYgo_0 l a m b i j x y hij hs hx hy hb )

theorem soYba_0 (l : List Ep)  (a m b i j : Nat) (x y : Ep) (hij : i < j) (hs : j ≤ 1000000) (hx : l[m]? = some x) (hy : l[((i + j) / 2)]? = some y) (hb : soLt  x y = true) : CodeC Try.prog 1 220 soYB (soY (l)  a m b i j) (Ex.normal) ({ env := [((0 : Nat), V.own (0 : Nat)), ((1 : Nat), I (Int.ofNat a)), ((2 : Nat), I (Int.ofNat m)), ((3 : Nat), I (Int.ofNat b)), ((4 : Nat), V.clo (Fn.func (30 : Nat)) [] []), ((14 : Nat), I (Int.ofNat i)), ((15 : Nat), I (Int.ofNat ((i + j) / (2 : Nat))))], st := [((0 : Nat), Obj.arr (6 : Nat) (List.map Ep.row l))], ids := [(0 : Nat), (0 : Nat)] }) :=
  runP hmix [.reg 15 [(2, [], some true)], .reg 16 [(5, [.be (I ((((i + j) / 2) : Nat) : Int))], none)], .reg 17 [(4, [.row (Ep.row x)], none), (8, [.row (Ep.row y)], none), (9, [.call [] [] (I ((cmpE) x y)) []], none), (10, [], some true)]] ⟨[0, 1, 2, 3, 4, 14, 15], [(0, 0)], []⟩ [
      decide (Int.ofNat i < Int.ofNat j) = true,
      IntKind.wrap IntKind.i64 (Int.fdiv (IntKind.wrap IntKind.u64 (IntKind.wrap IntKind.i64 (Int.ofNat (i + j)))) (2 : Int)) = Int.ofNat ((i + j) / (2 : Nat)),
      (0 : Int) ≤ Int.ofNat m,
      Int.ofNat m < Int.ofNat (List.length (List.map Ep.row l)),
      (List.map Ep.row l)[m]? = some (Ep.row x),
      (0 : Int) ≤ Int.ofNat ((i + j) / (2 : Nat)),
      Int.ofNat ((i + j) / (2 : Nat)) < Int.ofNat (List.length (List.map Ep.row l)),
      (List.map Ep.row l)[(i + j) / (2 : Nat)]? = some (Ep.row y),
      Contract Try.prog (30 : Nat) [V.agg [V.val (Value.int IntKind.u64 (Ep.hi x)), V.val (Value.int IntKind.u64 (Ep.lo x)), I (Ep.first x), I (Ep.last x), Bo (Ep.sure x), V.sl (10 : Nat) (List.map Sp.row (Ep.spans x))], V.agg [V.val (Value.int IntKind.u64 (Ep.hi y)), V.val (Value.int IntKind.u64 (Ep.lo y)), I (Ep.first y), I (Ep.last y), Bo (Ep.sure y), V.sl (10 : Nat) (List.map Sp.row (Ep.spans y))]] [] (I (cmpE x y)) [],
      decide (cmpE x y < (0 : Int)) = true] (by kernel_rfl)
    (by
      simp only [allP]
      and_intros <;> first
        | (simp; omega)
        | (simp [hx]; done)
        | (simp [hy]; done)
        | exact cCompare x y
        | exact hb
        | exact halfW (by omega)
        | (have q := (List.getElem?_eq_some_iff.1 hx).1; simp; omega)
        | (have q := (List.getElem?_eq_some_iff.1 hy).1; simp; omega))

theorem soYba (l : List Ep)  (a m b i j : Nat) (x y : Ep) (hij : i < j) (hs : j ≤ 1000000) (hx : l[m]? = some x) (hy : l[((i + j) / 2)]? = some y) (hb : soLt  x y = true)  : CodeC Try.prog 1 220 soYB (soY (l)  a m b i j) .normal (soY (l)  a m b i ((i + j) / 2)) := by
  exact CodeC.cast (by
    first
      | rfl) (soYba_0 l a m b i j x y hij hs hx hy hb )

theorem soYz_0 (l : List Ep)  (a m b i j : Nat) (hij : j ≤ i) : CodeC Try.prog 1 220 soYB (soY (l)  a m b i j) (Ex.exit (4 : Nat)) ({ env := [((0 : Nat), V.own (0 : Nat)), ((1 : Nat), I (Int.ofNat a)), ((2 : Nat), I (Int.ofNat m)), ((3 : Nat), I (Int.ofNat b)), ((4 : Nat), V.clo (Fn.func (30 : Nat)) [] []), ((14 : Nat), I (Int.ofNat i)), ((15 : Nat), I (Int.ofNat j))], st := [((0 : Nat), Obj.arr (6 : Nat) (List.map Ep.row l))], ids := [(0 : Nat), (0 : Nat)] }) :=
  runP hmix [.reg 15 [(2, [], some false)]] ⟨[0, 1, 2, 3, 4, 14, 15], [(0, 0)], []⟩ [
      decide (Int.ofNat i < Int.ofNat j) = false] (by kernel_rfl)
    (by
      simp only [allP]
      and_intros <;> first
        | (simp; omega))

theorem soYz (l : List Ep)  (a m b i j : Nat) (hij : j ≤ i)  : CodeC Try.prog 1 220 soYB (soY (l)  a m b i j) (.exit 4) (soY (l)  a m b i j) := by
  exact CodeC.cast (by
    first
      | rfl) (soYz_0 l a m b i j hij )

theorem soHgo_0 (A B : List Ep) (x y : Ep)  (i k : Nat) (hk : k = A.length + 1) (hi : i < k) (hl : A.length + B.length ≤ 1000000) : CodeC Try.prog 1 220 soHB (soH (A ++ y :: x :: B)  i k) (Ex.normal) ({ env := [((0 : Nat), V.own (0 : Nat)), ((14 : Nat), I (Int.ofNat i)), ((17 : Nat), I (Int.ofNat (List.length A)))], st := [((0 : Nat), Obj.arr (6 : Nat) (List.map Ep.row (A ++ x :: y :: B)))], ids := [(0 : Nat), (0 : Nat)] }) :=
  runP hmix [.reg 21 [(2, [], some true)], .reg 23 [(4, [.be (I ((A.length : Nat) : Int))], none), (7, [.be (I ((A.length : Nat) : Int))], none), (9, [.row (Ep.row y)], none), (13, [.row (Ep.row x)], none), (15, [.row (Ep.row x), .beO ((A ++ y :: y :: B).map Ep.row)], none), (17, [.row (Ep.row y), .beO ((A ++ x :: y :: B).map Ep.row)], none)], .reg 22 [(1, [.be (I ((A.length : Nat) : Int))], none)]] ⟨[0, 14, 17], [(0, 0)], []⟩ [
      decide (Int.ofNat k > Int.ofNat i) = true,
      IntKind.wrap IntKind.i64 (Int.ofNat k + (-1 : Int)) = Int.ofNat (List.length A),
      IntKind.wrap IntKind.i64 (Int.ofNat k + (-1 : Int)) = Int.ofNat (List.length A),
      (0 : Int) ≤ Int.ofNat (List.length A),
      Int.ofNat (List.length A) < Int.ofNat (List.length (List.map Ep.row (A ++ y :: x :: B))),
      (List.map Ep.row (A ++ y :: x :: B))[List.length A]? = some (Ep.row y),
      (0 : Int) ≤ Int.ofNat k,
      Int.ofNat k < Int.ofNat (List.length (List.map Ep.row (A ++ y :: x :: B))),
      (List.map Ep.row (A ++ y :: x :: B))[k]? = some (Ep.row x),
      (0 : Int) ≤ Int.ofNat k,
      Int.ofNat k < Int.ofNat (List.length (List.map Ep.row (A ++ y :: x :: B))),
      (List.map Ep.row (A ++ y :: x :: B))[k]? = some (Ep.row x),
      List.set (List.map Ep.row (A ++ y :: x :: B)) k [V.val (Value.int IntKind.u64 (Ep.hi y)), V.val (Value.int IntKind.u64 (Ep.lo y)), I (Ep.first y), I (Ep.last y), Bo (Ep.sure y), V.sl (10 : Nat) (List.map Sp.row (Ep.spans y))] = List.map Ep.row (A ++ y :: y :: B),
      (0 : Int) ≤ Int.ofNat (List.length A),
      Int.ofNat (List.length A) < Int.ofNat (List.length (List.map Ep.row (A ++ y :: y :: B))),
      (List.map Ep.row (A ++ y :: y :: B))[List.length A]? = some (Ep.row y),
      List.set (List.map Ep.row (A ++ y :: y :: B)) (List.length A) [V.val (Value.int IntKind.u64 (Ep.hi x)), V.val (Value.int IntKind.u64 (Ep.lo x)), I (Ep.first x), I (Ep.last x), Bo (Ep.sure x), V.sl (10 : Nat) (List.map Sp.row (Ep.spans x))] = List.map Ep.row (A ++ x :: y :: B),
      IntKind.wrap IntKind.i64 (Int.ofNat k + (-1 : Int)) = Int.ofNat (List.length A)] (by kernel_rfl)
    (by
      simp only [allP]
      and_intros <;> first
        | (simp; omega)
        | (rw [i64_small (by simp; omega)]; simp; omega)
        | exact at2 (by omega)
        | exact at1 (by omega)
        | exact set2 (by omega)
        | exact set1 (by omega)
        | (simp; done))

theorem soHgo (A B : List Ep) (x y : Ep)  (i k : Nat) (hk : k = A.length + 1) (hi : i < k) (hl : A.length + B.length ≤ 1000000)  : CodeC Try.prog 1 220 soHB (soH (A ++ y :: x :: B)  i k) .normal (soH (A ++ x :: y :: B)  i A.length) := by
  exact CodeC.cast (by
    first
      | rfl) (soHgo_0 A B x y i k hk hi hl )

theorem soHz_0 (l : List Ep)  (i k : Nat) (hi : k ≤ i) : CodeC Try.prog 1 220 soHB (soH (l)  i k) (Ex.exit (6 : Nat)) ({ env := [((0 : Nat), V.own (0 : Nat)), ((14 : Nat), I (Int.ofNat i)), ((17 : Nat), I (Int.ofNat k))], st := [((0 : Nat), Obj.arr (6 : Nat) (List.map Ep.row l))], ids := [(0 : Nat), (0 : Nat)] }) :=
  runP hmix [.reg 21 [(2, [], some false)]] ⟨[0, 14, 17], [(0, 0)], []⟩ [
      decide (Int.ofNat k > Int.ofNat i) = false] (by kernel_rfl)
    (by
      simp only [allP]
      and_intros <;> first
        | (simp; omega))

theorem soHz (l : List Ep)  (i k : Nat) (hi : k ≤ i)  : CodeC Try.prog 1 220 soHB (soH (l)  i k) (.exit 6) (soH (l)  i k) := by
  exact CodeC.cast (by
    first
      | rfl) (soHz_0 l i k hi )

theorem soZgo_0 (l : List Ep)  (a m b mid n i j p : Nat) (x y : Ep) (hij : i < j) (hs : j ≤ 1000000) (hp : j ≤ p + 1) (hp2 : p ≤ 1000000) (hx : l[p - ((i + j) / 2)]? = some x) (hy : l[((i + j) / 2)]? = some y) (hb : soLt  x y = false) : CodeC Try.prog 1 220 soZB (soZ (l)  a m b mid n i j p) (Ex.normal) ({ env := [((0 : Nat), V.own (0 : Nat)), ((1 : Nat), I (Int.ofNat a)), ((2 : Nat), I (Int.ofNat m)), ((3 : Nat), I (Int.ofNat b)), ((4 : Nat), V.clo (Fn.func (30 : Nat)) [] []), ((18 : Nat), I (Int.ofNat mid)), ((19 : Nat), I (Int.ofNat n)), ((20 : Nat), I (Int.ofNat ((i + j) / (2 : Nat) + (1 : Nat)))), ((21 : Nat), I (Int.ofNat j)), ((22 : Nat), I (Int.ofNat p))], st := [((0 : Nat), Obj.arr (6 : Nat) (List.map Ep.row l))], ids := [(0 : Nat), (0 : Nat)] }) :=
  runP hmix [.reg 33 [(2, [], some true)], .reg 34 [(5, [.be (I ((((i + j) / 2) : Nat) : Int))], none)], .reg 35 [(4, [.be (I ((p - ((i + j) / 2) : Nat) : Int))], none), (6, [.row (Ep.row x)], none), (10, [.row (Ep.row y)], none), (11, [.call [] [] (I ((cmpE) x y)) []], none), (12, [], some false)], .reg 36 [(1, [.be (I ((((i + j) / 2) + 1 : Nat) : Int))], none)]] ⟨[0, 1, 2, 3, 4, 18, 19, 20, 21, 22], [(0, 0)], []⟩ [
      decide (Int.ofNat i < Int.ofNat j) = true,
      IntKind.wrap IntKind.i64 (Int.fdiv (IntKind.wrap IntKind.u64 (IntKind.wrap IntKind.i64 (Int.ofNat (i + j)))) (2 : Int)) = Int.ofNat ((i + j) / (2 : Nat)),
      IntKind.wrap IntKind.i64 (Int.ofNat p + -Int.ofNat ((i + j) / (2 : Nat))) = Int.ofNat (p - (i + j) / (2 : Nat)),
      (0 : Int) ≤ Int.ofNat (p - (i + j) / (2 : Nat)),
      Int.ofNat (p - (i + j) / (2 : Nat)) < Int.ofNat (List.length (List.map Ep.row l)),
      (List.map Ep.row l)[p - (i + j) / (2 : Nat)]? = some (Ep.row x),
      (0 : Int) ≤ Int.ofNat ((i + j) / (2 : Nat)),
      Int.ofNat ((i + j) / (2 : Nat)) < Int.ofNat (List.length (List.map Ep.row l)),
      (List.map Ep.row l)[(i + j) / (2 : Nat)]? = some (Ep.row y),
      Contract Try.prog (30 : Nat) [V.agg [V.val (Value.int IntKind.u64 (Ep.hi x)), V.val (Value.int IntKind.u64 (Ep.lo x)), I (Ep.first x), I (Ep.last x), Bo (Ep.sure x), V.sl (10 : Nat) (List.map Sp.row (Ep.spans x))], V.agg [V.val (Value.int IntKind.u64 (Ep.hi y)), V.val (Value.int IntKind.u64 (Ep.lo y)), I (Ep.first y), I (Ep.last y), Bo (Ep.sure y), V.sl (10 : Nat) (List.map Sp.row (Ep.spans y))]] [] (I (cmpE x y)) [],
      decide (cmpE x y < (0 : Int)) = false,
      IntKind.wrap IntKind.i64 (Int.ofNat ((i + j) / (2 : Nat) + (1 : Nat))) = Int.ofNat ((i + j) / (2 : Nat) + (1 : Nat))] (by kernel_rfl)
    (by
      simp only [allP]
      and_intros <;> first
        | (simp; omega)
        | (simp [hx]; done)
        | (simp [hy]; done)
        | exact i64_small (by simp; omega)
        | (rw [i64_small (by simp; omega)]; simp; omega)
        | exact cCompare x y
        | exact hb
        | exact halfW (by omega)
        | (have q := (List.getElem?_eq_some_iff.1 hx).1; simp; omega)
        | (have q := (List.getElem?_eq_some_iff.1 hy).1; simp; omega))

theorem soZgo (l : List Ep)  (a m b mid n i j p : Nat) (x y : Ep) (hij : i < j) (hs : j ≤ 1000000) (hp : j ≤ p + 1) (hp2 : p ≤ 1000000) (hx : l[p - ((i + j) / 2)]? = some x) (hy : l[((i + j) / 2)]? = some y) (hb : soLt  x y = false)  : CodeC Try.prog 1 220 soZB (soZ (l)  a m b mid n i j p) .normal (soZ (l)  a m b mid n (((i + j) / 2) + 1) j p) := by
  exact CodeC.cast (by
    first
      | rfl) (soZgo_0 l a m b mid n i j p x y hij hs hp hp2 hx hy hb )

theorem soZba_0 (l : List Ep)  (a m b mid n i j p : Nat) (x y : Ep) (hij : i < j) (hs : j ≤ 1000000) (hp : j ≤ p + 1) (hp2 : p ≤ 1000000) (hx : l[p - ((i + j) / 2)]? = some x) (hy : l[((i + j) / 2)]? = some y) (hb : soLt  x y = true) : CodeC Try.prog 1 220 soZB (soZ (l)  a m b mid n i j p) (Ex.normal) ({ env := [((0 : Nat), V.own (0 : Nat)), ((1 : Nat), I (Int.ofNat a)), ((2 : Nat), I (Int.ofNat m)), ((3 : Nat), I (Int.ofNat b)), ((4 : Nat), V.clo (Fn.func (30 : Nat)) [] []), ((18 : Nat), I (Int.ofNat mid)), ((19 : Nat), I (Int.ofNat n)), ((20 : Nat), I (Int.ofNat i)), ((21 : Nat), I (Int.ofNat ((i + j) / (2 : Nat)))), ((22 : Nat), I (Int.ofNat p))], st := [((0 : Nat), Obj.arr (6 : Nat) (List.map Ep.row l))], ids := [(0 : Nat), (0 : Nat)] }) :=
  runP hmix [.reg 33 [(2, [], some true)], .reg 34 [(5, [.be (I ((((i + j) / 2) : Nat) : Int))], none)], .reg 35 [(4, [.be (I ((p - ((i + j) / 2) : Nat) : Int))], none), (6, [.row (Ep.row x)], none), (10, [.row (Ep.row y)], none), (11, [.call [] [] (I ((cmpE) x y)) []], none), (12, [], some true)]] ⟨[0, 1, 2, 3, 4, 18, 19, 20, 21, 22], [(0, 0)], []⟩ [
      decide (Int.ofNat i < Int.ofNat j) = true,
      IntKind.wrap IntKind.i64 (Int.fdiv (IntKind.wrap IntKind.u64 (IntKind.wrap IntKind.i64 (Int.ofNat (i + j)))) (2 : Int)) = Int.ofNat ((i + j) / (2 : Nat)),
      IntKind.wrap IntKind.i64 (Int.ofNat p + -Int.ofNat ((i + j) / (2 : Nat))) = Int.ofNat (p - (i + j) / (2 : Nat)),
      (0 : Int) ≤ Int.ofNat (p - (i + j) / (2 : Nat)),
      Int.ofNat (p - (i + j) / (2 : Nat)) < Int.ofNat (List.length (List.map Ep.row l)),
      (List.map Ep.row l)[p - (i + j) / (2 : Nat)]? = some (Ep.row x),
      (0 : Int) ≤ Int.ofNat ((i + j) / (2 : Nat)),
      Int.ofNat ((i + j) / (2 : Nat)) < Int.ofNat (List.length (List.map Ep.row l)),
      (List.map Ep.row l)[(i + j) / (2 : Nat)]? = some (Ep.row y),
      Contract Try.prog (30 : Nat) [V.agg [V.val (Value.int IntKind.u64 (Ep.hi x)), V.val (Value.int IntKind.u64 (Ep.lo x)), I (Ep.first x), I (Ep.last x), Bo (Ep.sure x), V.sl (10 : Nat) (List.map Sp.row (Ep.spans x))], V.agg [V.val (Value.int IntKind.u64 (Ep.hi y)), V.val (Value.int IntKind.u64 (Ep.lo y)), I (Ep.first y), I (Ep.last y), Bo (Ep.sure y), V.sl (10 : Nat) (List.map Sp.row (Ep.spans y))]] [] (I (cmpE x y)) [],
      decide (cmpE x y < (0 : Int)) = true] (by kernel_rfl)
    (by
      simp only [allP]
      and_intros <;> first
        | (simp; omega)
        | (simp [hx]; done)
        | (simp [hy]; done)
        | (rw [i64_small (by simp; omega)]; simp; omega)
        | exact cCompare x y
        | exact hb
        | exact halfW (by omega)
        | (have q := (List.getElem?_eq_some_iff.1 hx).1; simp; omega)
        | (have q := (List.getElem?_eq_some_iff.1 hy).1; simp; omega))

theorem soZba (l : List Ep)  (a m b mid n i j p : Nat) (x y : Ep) (hij : i < j) (hs : j ≤ 1000000) (hp : j ≤ p + 1) (hp2 : p ≤ 1000000) (hx : l[p - ((i + j) / 2)]? = some x) (hy : l[((i + j) / 2)]? = some y) (hb : soLt  x y = true)  : CodeC Try.prog 1 220 soZB (soZ (l)  a m b mid n i j p) .normal (soZ (l)  a m b mid n i ((i + j) / 2) p) := by
  exact CodeC.cast (by
    first
      | rfl) (soZba_0 l a m b mid n i j p x y hij hs hp hp2 hx hy hb )

theorem soZz_0 (l : List Ep)  (a m b mid n i j p : Nat) (hij : j ≤ i) : CodeC Try.prog 1 220 soZB (soZ (l)  a m b mid n i j p) (Ex.exit (8 : Nat)) ({ env := [((0 : Nat), V.own (0 : Nat)), ((1 : Nat), I (Int.ofNat a)), ((2 : Nat), I (Int.ofNat m)), ((3 : Nat), I (Int.ofNat b)), ((4 : Nat), V.clo (Fn.func (30 : Nat)) [] []), ((18 : Nat), I (Int.ofNat mid)), ((19 : Nat), I (Int.ofNat n)), ((20 : Nat), I (Int.ofNat i)), ((21 : Nat), I (Int.ofNat j)), ((22 : Nat), I (Int.ofNat p))], st := [((0 : Nat), Obj.arr (6 : Nat) (List.map Ep.row l))], ids := [(0 : Nat), (0 : Nat)] }) :=
  runP hmix [.reg 33 [(2, [], some false)]] ⟨[0, 1, 2, 3, 4, 18, 19, 20, 21, 22], [(0, 0)], []⟩ [
      decide (Int.ofNat i < Int.ofNat j) = false] (by kernel_rfl)
    (by
      simp only [allP]
      and_intros <;> first
        | (simp; omega))

theorem soZz (l : List Ep)  (a m b mid n i j p : Nat) (hij : j ≤ i)  : CodeC Try.prog 1 220 soZB (soZ (l)  a m b mid n i j p) (.exit 8) (soZ (l)  a m b mid n i j p) := by
  exact CodeC.cast (by
    first
      | rfl) (soZz_0 l a m b mid n i j p hij )

theorem soS1_0 (l l' : List Ep)  (a m b r k : Nat) (hm : m = a + 1) (hs : b ≤ 1000000) (hmb : m ≤ b) (hl : LoopC Try.prog 1 220 soXB (soX (l)  a m b m b) (.exit 0) (soX (l)  a m b r r)) (hk : LoopC Try.prog 1 220 soKB (soK (l)  r a) (.exit 2) (soK (l')  r k)) : Contract Try.prog 42 [.own 0, I (a : Int), I (m : Int), I (b : Int), .clo (.func 30) [] []] [.arr 6 ((l).map Ep.row)] (V.tup []) ([some (Obj.arr (6 : Nat) (List.map Ep.row l'))]) :=
  vcP hmix [.reg 0 [(2, [.be (I ((m - a : Nat) : Int))], none), (3, [], some true)], .cut ⟨[0, 1, 2, 3, 4, 10, 11], [(0, 0)], []⟩ (.exit 0) (soX (l)  a m b r r), .cut ⟨[0, 10, 13], [(0, 0)], []⟩ (.exit 2) (soK (l')  r k)] [] [
      IntKind.wrap IntKind.i64 (Int.ofNat m + -Int.ofNat a) = Int.ofNat (m - a),
      (Int.ofNat (m - a) == (1 : Int)) = true,
      LoopC Try.prog (1 : Nat) (220 : Nat) soXB { env := [((0 : Nat), V.own (0 : Nat)), ((1 : Nat), I (Int.ofNat a)), ((2 : Nat), I (Int.ofNat m)), ((3 : Nat), I (Int.ofNat b)), ((4 : Nat), V.clo (Fn.func (30 : Nat)) [] []), ((10 : Nat), I (Int.ofNat m)), ((11 : Nat), I (Int.ofNat b))], st := [((0 : Nat), Obj.arr (6 : Nat) (List.map Ep.row l))], ids := [(0 : Nat), (0 : Nat)] } (Ex.exit (0 : Nat)) { env := [((0 : Nat), V.own (0 : Nat)), ((1 : Nat), I (Int.ofNat a)), ((2 : Nat), I (Int.ofNat m)), ((3 : Nat), I (Int.ofNat b)), ((4 : Nat), V.clo (Fn.func (30 : Nat)) [] []), ((10 : Nat), I (Int.ofNat r)), ((11 : Nat), I (Int.ofNat r))], st := [((0 : Nat), Obj.arr (6 : Nat) (List.map Ep.row l))], ids := [(0 : Nat), (0 : Nat)] },
      LoopC Try.prog (1 : Nat) (220 : Nat) soKB { env := [((0 : Nat), V.own (0 : Nat)), ((10 : Nat), I (Int.ofNat r)), ((13 : Nat), I (Int.ofNat a))], st := [((0 : Nat), Obj.arr (6 : Nat) (List.map Ep.row l))], ids := [(0 : Nat), (0 : Nat)] } (Ex.exit (2 : Nat)) { env := [((0 : Nat), V.own (0 : Nat)), ((10 : Nat), I (Int.ofNat r)), ((13 : Nat), I (Int.ofNat k))], st := [((0 : Nat), Obj.arr (6 : Nat) (List.map Ep.row l'))], ids := [(0 : Nat), (0 : Nat)] }] (by kernel_rfl)
    (by
      simp only [allP]
      and_intros <;> first
        | (simp; omega)
        | exact hl
        | exact hk
        | (rw [i64_small (by simp; omega)]; simp; omega))

theorem soS1 (l l' : List Ep)  (a m b r k : Nat) (hm : m = a + 1) (hs : b ≤ 1000000) (hmb : m ≤ b) (hl : LoopC Try.prog 1 220 soXB (soX (l)  a m b m b) (.exit 0) (soX (l)  a m b r r)) (hk : LoopC Try.prog 1 220 soKB (soK (l)  r a) (.exit 2) (soK (l')  r k)) : Contract Try.prog 42 [.own 0, I (a : Int), I (m : Int), I (b : Int), .clo (.func 30) [] []] [.arr 6 ((l).map Ep.row)] (.tup []) [some (.arr 6 ((l').map Ep.row))] := by
  exact Contract.cast (by
    first
      | rfl) (by
    first
      | rfl) (soS1_0 l l' a m b r k hm hs hmb hl hk )

theorem soS2_0 (l l' : List Ep)  (a m b r k : Nat) (hm : m ≠ a + 1) (ham : a ≤ m) (hb : b = m + 1) (hs : b ≤ 1000000) (hl : LoopC Try.prog 1 220 soYB (soY (l)  a m b a m) (.exit 4) (soY (l)  a m b r r)) (hk : LoopC Try.prog 1 220 soHB (soH (l)  r m) (.exit 6) (soH (l')  r k)) : Contract Try.prog 42 [.own 0, I (a : Int), I (m : Int), I (b : Int), .clo (.func 30) [] []] [.arr 6 ((l).map Ep.row)] (V.tup []) ([some (Obj.arr (6 : Nat) (List.map Ep.row l'))]) :=
  vcP hmix [.reg 0 [(2, [.be (I ((m - a : Nat) : Int))], none), (3, [], some false)], .reg 12 [(2, [.be (I ((b - m : Nat) : Int))], none), (3, [], some true)], .cut ⟨[0, 1, 2, 3, 4, 14, 15], [(0, 0)], []⟩ (.exit 4) (soY (l)  a m b r r), .cut ⟨[0, 14, 17], [(0, 0)], []⟩ (.exit 6) (soH (l')  r k)] [] [
      IntKind.wrap IntKind.i64 (Int.ofNat m + -Int.ofNat a) = Int.ofNat (m - a),
      (Int.ofNat (m - a) == (1 : Int)) = false,
      IntKind.wrap IntKind.i64 (Int.ofNat b + -Int.ofNat m) = Int.ofNat (b - m),
      (Int.ofNat (b - m) == (1 : Int)) = true,
      LoopC Try.prog (1 : Nat) (220 : Nat) soYB { env := [((0 : Nat), V.own (0 : Nat)), ((1 : Nat), I (Int.ofNat a)), ((2 : Nat), I (Int.ofNat m)), ((3 : Nat), I (Int.ofNat b)), ((4 : Nat), V.clo (Fn.func (30 : Nat)) [] []), ((14 : Nat), I (Int.ofNat a)), ((15 : Nat), I (Int.ofNat m))], st := [((0 : Nat), Obj.arr (6 : Nat) (List.map Ep.row l))], ids := [(0 : Nat), (0 : Nat)] } (Ex.exit (4 : Nat)) { env := [((0 : Nat), V.own (0 : Nat)), ((1 : Nat), I (Int.ofNat a)), ((2 : Nat), I (Int.ofNat m)), ((3 : Nat), I (Int.ofNat b)), ((4 : Nat), V.clo (Fn.func (30 : Nat)) [] []), ((14 : Nat), I (Int.ofNat r)), ((15 : Nat), I (Int.ofNat r))], st := [((0 : Nat), Obj.arr (6 : Nat) (List.map Ep.row l))], ids := [(0 : Nat), (0 : Nat)] },
      LoopC Try.prog (1 : Nat) (220 : Nat) soHB { env := [((0 : Nat), V.own (0 : Nat)), ((14 : Nat), I (Int.ofNat r)), ((17 : Nat), I (Int.ofNat m))], st := [((0 : Nat), Obj.arr (6 : Nat) (List.map Ep.row l))], ids := [(0 : Nat), (0 : Nat)] } (Ex.exit (6 : Nat)) { env := [((0 : Nat), V.own (0 : Nat)), ((14 : Nat), I (Int.ofNat r)), ((17 : Nat), I (Int.ofNat k))], st := [((0 : Nat), Obj.arr (6 : Nat) (List.map Ep.row l'))], ids := [(0 : Nat), (0 : Nat)] }] (by kernel_rfl)
    (by
      simp only [allP]
      and_intros <;> first
        | (simp; omega)
        | exact hl
        | exact hk
        | (rw [i64_small (by simp; omega)]; simp; omega))

theorem soS2 (l l' : List Ep)  (a m b r k : Nat) (hm : m ≠ a + 1) (ham : a ≤ m) (hb : b = m + 1) (hs : b ≤ 1000000) (hl : LoopC Try.prog 1 220 soYB (soY (l)  a m b a m) (.exit 4) (soY (l)  a m b r r)) (hk : LoopC Try.prog 1 220 soHB (soH (l)  r m) (.exit 6) (soH (l')  r k)) : Contract Try.prog 42 [.own 0, I (a : Int), I (m : Int), I (b : Int), .clo (.func 30) [] []] [.arr 6 ((l).map Ep.row)] (.tup []) [some (.arr 6 ((l').map Ep.row))] := by
  exact Contract.cast (by
    first
      | rfl) (by
    first
      | rfl) (soS2_0 l l' a m b r k hm ham hb hs hl hk )

theorem soT3go_0 (l r : List Ep)  (a m b mid s e : Nat) (hq : mid < e ∧ e < b) (hc : Contract Try.prog 42 [.own 0, I ((mid : Nat) : Int), I ((e : Nat) : Int), I ((b : Nat) : Int), .clo (.func 30) [] []] [.arr 6 ((l).map Ep.row)] (.tup []) [some (.arr 6 ((r).map Ep.row))]) : CodeC Try.prog 1 220 soT3B (soT (l)  a m b mid s e) (Ex.normal) ({ env := [((0 : Nat), V.own (0 : Nat)), ((1 : Nat), I (Int.ofNat a)), ((2 : Nat), I (Int.ofNat m)), ((3 : Nat), I (Int.ofNat b)), ((4 : Nat), V.clo (Fn.func (30 : Nat)) [] []), ((18 : Nat), I (Int.ofNat mid)), ((20 : Nat), I (Int.ofNat s)), ((24 : Nat), I (Int.ofNat e))], st := [((0 : Nat), Obj.arr (6 : Nat) (List.map Ep.row r))], ids := [(0 : Nat), (0 : Nat)] }) :=
  runP hmix [.reg 43 [(3, [], some true), (7, [], some true)], .reg 44 [(5, [.call [0] [] (.tup []) [some (.arr 6 ((r).map Ep.row))]], none)]] ⟨[0, 1, 2, 3, 4, 18, 20, 24], [(0, 0)], []⟩ [
      decide (Int.ofNat mid < Int.ofNat e) = true,
      decide (Int.ofNat e < Int.ofNat b) = true,
      Contract Try.prog (42 : Nat) [V.own (0 : Nat), I (Int.ofNat mid), I (Int.ofNat e), I (Int.ofNat b), V.clo (Fn.func (30 : Nat)) [] []] [Obj.arr (6 : Nat) (List.map Ep.row l)] (V.tup []) [some (Obj.arr (6 : Nat) (List.map Ep.row r))]] (by kernel_rfl)
    (by
      simp only [allP]
      and_intros <;> first
        | omega
        | (simp; omega))

theorem soT3go (l r : List Ep)  (a m b mid s e : Nat) (hq : mid < e ∧ e < b) (hc : Contract Try.prog 42 [.own 0, I ((mid : Nat) : Int), I ((e : Nat) : Int), I ((b : Nat) : Int), .clo (.func 30) [] []] [.arr 6 ((l).map Ep.row)] (.tup []) [some (.arr 6 ((r).map Ep.row))])  : CodeC Try.prog 1 220 soT3B (soT (l)  a m b mid s e) .normal (soT (r)  a m b mid s e) := by
  exact CodeC.cast (by
    first
      | rfl) (soT3go_0 l r a m b mid s e hq hc )

theorem soT3no_0 (l : List Ep)  (a m b mid s e : Nat) (hq : ¬ (mid < e ∧ e < b)) (tq0 : (decide (Int.ofNat mid < Int.ofNat e)) = true) : CodeC Try.prog 1 220 soT3B (soT (l)  a m b mid s e) (Ex.normal) ({ env := [((0 : Nat), V.own (0 : Nat)), ((1 : Nat), I (Int.ofNat a)), ((2 : Nat), I (Int.ofNat m)), ((3 : Nat), I (Int.ofNat b)), ((4 : Nat), V.clo (Fn.func (30 : Nat)) [] []), ((18 : Nat), I (Int.ofNat mid)), ((20 : Nat), I (Int.ofNat s)), ((24 : Nat), I (Int.ofNat e))], st := [((0 : Nat), Obj.arr (6 : Nat) (List.map Ep.row l))], ids := [(0 : Nat), (0 : Nat)] }) :=
  runP hmix [.reg 43 [(3, [], some true), (7, [], some false)]] ⟨[0, 1, 2, 3, 4, 18, 20, 24], [(0, 0)], []⟩ [
      decide (Int.ofNat mid < Int.ofNat e) = true,
      decide (Int.ofNat e < Int.ofNat b) = false] (by kernel_rfl)
    (by
      have d0 := tq0
      try simp only [Int.ofNat_eq_natCast, List.length_map, Bool.not_eq_true', Bool.not_eq_false', decide_eq_true_eq, decide_eq_false_iff_not] at d0
      simp only [allP]
      and_intros <;> first
        | omega
        | (simp; omega))

theorem soT3no_1 (l : List Ep)  (a m b mid s e : Nat) (hq : ¬ (mid < e ∧ e < b)) (tq0 : (decide (Int.ofNat mid < Int.ofNat e)) = false) : CodeC Try.prog 1 220 soT3B (soT (l)  a m b mid s e) (Ex.normal) ({ env := [((0 : Nat), V.own (0 : Nat)), ((1 : Nat), I (Int.ofNat a)), ((2 : Nat), I (Int.ofNat m)), ((3 : Nat), I (Int.ofNat b)), ((4 : Nat), V.clo (Fn.func (30 : Nat)) [] []), ((18 : Nat), I (Int.ofNat mid)), ((20 : Nat), I (Int.ofNat s)), ((24 : Nat), I (Int.ofNat e))], st := [((0 : Nat), Obj.arr (6 : Nat) (List.map Ep.row l))], ids := [(0 : Nat), (0 : Nat)] }) :=
  runP hmix [.reg 43 [(3, [], some false), (7, [], some false)]] ⟨[0, 1, 2, 3, 4, 18, 20, 24], [(0, 0)], []⟩ [
      decide (Int.ofNat mid < Int.ofNat e) = false,
      false = false] (by kernel_rfl)
    (by
      have d0 := tq0
      try simp only [Int.ofNat_eq_natCast, List.length_map, Bool.not_eq_true', Bool.not_eq_false', decide_eq_true_eq, decide_eq_false_iff_not] at d0
      simp only [allP]
      and_intros <;> first
        | omega
        | (simp; done))

theorem soT3no (l : List Ep)  (a m b mid s e : Nat) (hq : ¬ (mid < e ∧ e < b))  : CodeC Try.prog 1 220 soT3B (soT (l)  a m b mid s e) .normal (soT (l)  a m b mid s e) := by
  rcases tf (decide (Int.ofNat mid < Int.ofNat e)) with tq0 | tq0
  · exact CodeC.cast (by
      first
        | rfl) (soT3no_0 l a m b mid s e hq tq0)
  · exact CodeC.cast (by
      first
        | rfl) (soT3no_1 l a m b mid s e hq tq0)

theorem soT2go_0 (l l1 r : List Ep)  (a m b mid s e : Nat) (hq : a < s ∧ s < mid) (hc : Contract Try.prog 42 [.own 0, I ((a : Nat) : Int), I ((s : Nat) : Int), I ((mid : Nat) : Int), .clo (.func 30) [] []] [.arr 6 ((l).map Ep.row)] (.tup []) [some (.arr 6 ((l1).map Ep.row))]) (hn : CodeC Try.prog 1 220 soT3B (soT (l1)  a m b mid s e) .normal (soT (r)  a m b mid s e)) : CodeC Try.prog 1 220 soT2B (soT (l)  a m b mid s e) (Ex.normal) ({ env := [((0 : Nat), V.own (0 : Nat)), ((1 : Nat), I (Int.ofNat a)), ((2 : Nat), I (Int.ofNat m)), ((3 : Nat), I (Int.ofNat b)), ((4 : Nat), V.clo (Fn.func (30 : Nat)) [] []), ((18 : Nat), I (Int.ofNat mid)), ((20 : Nat), I (Int.ofNat s)), ((24 : Nat), I (Int.ofNat e))], st := [((0 : Nat), Obj.arr (6 : Nat) (List.map Ep.row r))], ids := [(0 : Nat), (0 : Nat)] }) :=
  runP hmix [.reg 41 [(3, [], some true), (7, [], some true)], .reg 42 [(5, [.call [0] [] (.tup []) [some (.arr 6 ((l1).map Ep.row))]], none)], .tail 43 ⟨[0, 1, 2, 3, 4, 18, 20, 24], [(0, 0)], []⟩ .normal (soT (r)  a m b mid s e)] ⟨[0, 1, 2, 3, 4, 18, 20, 24], [(0, 0)], []⟩ [
      decide (Int.ofNat a < Int.ofNat s) = true,
      decide (Int.ofNat s < Int.ofNat mid) = true,
      Contract Try.prog (42 : Nat) [V.own (0 : Nat), I (Int.ofNat a), I (Int.ofNat s), I (Int.ofNat mid), V.clo (Fn.func (30 : Nat)) [] []] [Obj.arr (6 : Nat) (List.map Ep.row l)] (V.tup []) [some (Obj.arr (6 : Nat) (List.map Ep.row l1))],
      CodeC Try.prog (1 : Nat) (220 : Nat) soT3B { env := [((0 : Nat), V.own (0 : Nat)), ((1 : Nat), I (Int.ofNat a)), ((2 : Nat), I (Int.ofNat m)), ((3 : Nat), I (Int.ofNat b)), ((4 : Nat), V.clo (Fn.func (30 : Nat)) [] []), ((18 : Nat), I (Int.ofNat mid)), ((20 : Nat), I (Int.ofNat s)), ((24 : Nat), I (Int.ofNat e))], st := [((0 : Nat), Obj.arr (6 : Nat) (List.map Ep.row l1))], ids := [(0 : Nat), (0 : Nat)] } Ex.normal { env := [((0 : Nat), V.own (0 : Nat)), ((1 : Nat), I (Int.ofNat a)), ((2 : Nat), I (Int.ofNat m)), ((3 : Nat), I (Int.ofNat b)), ((4 : Nat), V.clo (Fn.func (30 : Nat)) [] []), ((18 : Nat), I (Int.ofNat mid)), ((20 : Nat), I (Int.ofNat s)), ((24 : Nat), I (Int.ofNat e))], st := [((0 : Nat), Obj.arr (6 : Nat) (List.map Ep.row r))], ids := [(0 : Nat), (0 : Nat)] }] (by kernel_rfl)
    (by
      simp only [allP]
      and_intros <;> first
        | omega
        | (simp; omega)
        | exact hn)

theorem soT2go (l l1 r : List Ep)  (a m b mid s e : Nat) (hq : a < s ∧ s < mid) (hc : Contract Try.prog 42 [.own 0, I ((a : Nat) : Int), I ((s : Nat) : Int), I ((mid : Nat) : Int), .clo (.func 30) [] []] [.arr 6 ((l).map Ep.row)] (.tup []) [some (.arr 6 ((l1).map Ep.row))]) (hn : CodeC Try.prog 1 220 soT3B (soT (l1)  a m b mid s e) .normal (soT (r)  a m b mid s e))  : CodeC Try.prog 1 220 soT2B (soT (l)  a m b mid s e) .normal (soT (r)  a m b mid s e) := by
  exact CodeC.cast (by
    first
      | rfl) (soT2go_0 l l1 r a m b mid s e hq hc hn )

theorem soT2no_0 (l r : List Ep)  (a m b mid s e : Nat) (hq : ¬ (a < s ∧ s < mid)) (hn : CodeC Try.prog 1 220 soT3B (soT (l)  a m b mid s e) .normal (soT (r)  a m b mid s e)) (tq0 : (decide (Int.ofNat a < Int.ofNat s)) = true) : CodeC Try.prog 1 220 soT2B (soT (l)  a m b mid s e) (Ex.normal) ({ env := [((0 : Nat), V.own (0 : Nat)), ((1 : Nat), I (Int.ofNat a)), ((2 : Nat), I (Int.ofNat m)), ((3 : Nat), I (Int.ofNat b)), ((4 : Nat), V.clo (Fn.func (30 : Nat)) [] []), ((18 : Nat), I (Int.ofNat mid)), ((20 : Nat), I (Int.ofNat s)), ((24 : Nat), I (Int.ofNat e))], st := [((0 : Nat), Obj.arr (6 : Nat) (List.map Ep.row r))], ids := [(0 : Nat), (0 : Nat)] }) :=
  runP hmix [.reg 41 [(3, [], some true), (7, [], some false)], .tail 43 ⟨[0, 1, 2, 3, 4, 18, 20, 24], [(0, 0)], []⟩ .normal (soT (r)  a m b mid s e)] ⟨[0, 1, 2, 3, 4, 18, 20, 24], [(0, 0)], []⟩ [
      decide (Int.ofNat a < Int.ofNat s) = true,
      decide (Int.ofNat s < Int.ofNat mid) = false,
      CodeC Try.prog (1 : Nat) (220 : Nat) soT3B { env := [((0 : Nat), V.own (0 : Nat)), ((1 : Nat), I (Int.ofNat a)), ((2 : Nat), I (Int.ofNat m)), ((3 : Nat), I (Int.ofNat b)), ((4 : Nat), V.clo (Fn.func (30 : Nat)) [] []), ((18 : Nat), I (Int.ofNat mid)), ((20 : Nat), I (Int.ofNat s)), ((24 : Nat), I (Int.ofNat e))], st := [((0 : Nat), Obj.arr (6 : Nat) (List.map Ep.row l))], ids := [(0 : Nat), (0 : Nat)] } Ex.normal { env := [((0 : Nat), V.own (0 : Nat)), ((1 : Nat), I (Int.ofNat a)), ((2 : Nat), I (Int.ofNat m)), ((3 : Nat), I (Int.ofNat b)), ((4 : Nat), V.clo (Fn.func (30 : Nat)) [] []), ((18 : Nat), I (Int.ofNat mid)), ((20 : Nat), I (Int.ofNat s)), ((24 : Nat), I (Int.ofNat e))], st := [((0 : Nat), Obj.arr (6 : Nat) (List.map Ep.row r))], ids := [(0 : Nat), (0 : Nat)] }] (by kernel_rfl)
    (by
      have d0 := tq0
      try simp only [Int.ofNat_eq_natCast, List.length_map, Bool.not_eq_true', Bool.not_eq_false', decide_eq_true_eq, decide_eq_false_iff_not] at d0
      simp only [allP]
      and_intros <;> first
        | omega
        | (simp; omega)
        | exact hn)

theorem soT2no_1 (l r : List Ep)  (a m b mid s e : Nat) (hq : ¬ (a < s ∧ s < mid)) (hn : CodeC Try.prog 1 220 soT3B (soT (l)  a m b mid s e) .normal (soT (r)  a m b mid s e)) (tq0 : (decide (Int.ofNat a < Int.ofNat s)) = false) : CodeC Try.prog 1 220 soT2B (soT (l)  a m b mid s e) (Ex.normal) ({ env := [((0 : Nat), V.own (0 : Nat)), ((1 : Nat), I (Int.ofNat a)), ((2 : Nat), I (Int.ofNat m)), ((3 : Nat), I (Int.ofNat b)), ((4 : Nat), V.clo (Fn.func (30 : Nat)) [] []), ((18 : Nat), I (Int.ofNat mid)), ((20 : Nat), I (Int.ofNat s)), ((24 : Nat), I (Int.ofNat e))], st := [((0 : Nat), Obj.arr (6 : Nat) (List.map Ep.row r))], ids := [(0 : Nat), (0 : Nat)] }) :=
  runP hmix [.reg 41 [(3, [], some false), (7, [], some false)], .tail 43 ⟨[0, 1, 2, 3, 4, 18, 20, 24], [(0, 0)], []⟩ .normal (soT (r)  a m b mid s e)] ⟨[0, 1, 2, 3, 4, 18, 20, 24], [(0, 0)], []⟩ [
      decide (Int.ofNat a < Int.ofNat s) = false,
      false = false,
      CodeC Try.prog (1 : Nat) (220 : Nat) soT3B { env := [((0 : Nat), V.own (0 : Nat)), ((1 : Nat), I (Int.ofNat a)), ((2 : Nat), I (Int.ofNat m)), ((3 : Nat), I (Int.ofNat b)), ((4 : Nat), V.clo (Fn.func (30 : Nat)) [] []), ((18 : Nat), I (Int.ofNat mid)), ((20 : Nat), I (Int.ofNat s)), ((24 : Nat), I (Int.ofNat e))], st := [((0 : Nat), Obj.arr (6 : Nat) (List.map Ep.row l))], ids := [(0 : Nat), (0 : Nat)] } Ex.normal { env := [((0 : Nat), V.own (0 : Nat)), ((1 : Nat), I (Int.ofNat a)), ((2 : Nat), I (Int.ofNat m)), ((3 : Nat), I (Int.ofNat b)), ((4 : Nat), V.clo (Fn.func (30 : Nat)) [] []), ((18 : Nat), I (Int.ofNat mid)), ((20 : Nat), I (Int.ofNat s)), ((24 : Nat), I (Int.ofNat e))], st := [((0 : Nat), Obj.arr (6 : Nat) (List.map Ep.row r))], ids := [(0 : Nat), (0 : Nat)] }] (by kernel_rfl)
    (by
      have d0 := tq0
      try simp only [Int.ofNat_eq_natCast, List.length_map, Bool.not_eq_true', Bool.not_eq_false', decide_eq_true_eq, decide_eq_false_iff_not] at d0
      simp only [allP]
      and_intros <;> first
        | omega
        | exact hn
        | (simp; done))

theorem soT2no (l r : List Ep)  (a m b mid s e : Nat) (hq : ¬ (a < s ∧ s < mid)) (hn : CodeC Try.prog 1 220 soT3B (soT (l)  a m b mid s e) .normal (soT (r)  a m b mid s e))  : CodeC Try.prog 1 220 soT2B (soT (l)  a m b mid s e) .normal (soT (r)  a m b mid s e) := by
  rcases tf (decide (Int.ofNat a < Int.ofNat s)) with tq0 | tq0
  · exact CodeC.cast (by
      first
        | rfl) (soT2no_0 l r a m b mid s e hq hn tq0)
  · exact CodeC.cast (by
      first
        | rfl) (soT2no_1 l r a m b mid s e hq hn tq0)

theorem soT1go_0 (l l1 r : List Ep)  (a m b mid s e : Nat) (hq : s < m ∧ m < e) (hc : Contract Try.prog 46 [.own 0, I ((s : Nat) : Int), I ((m : Nat) : Int), I ((e : Nat) : Int), .clo (.func 30) [] []] [.arr 6 ((l).map Ep.row)] (.tup []) [some (.arr 6 ((l1).map Ep.row))]) (hn : CodeC Try.prog 1 220 soT2B (soT (l1)  a m b mid s e) .normal (soT (r)  a m b mid s e)) : CodeC Try.prog 1 220 soT1B (soT (l)  a m b mid s e) (Ex.normal) ({ env := [((0 : Nat), V.own (0 : Nat)), ((1 : Nat), I (Int.ofNat a)), ((2 : Nat), I (Int.ofNat m)), ((3 : Nat), I (Int.ofNat b)), ((4 : Nat), V.clo (Fn.func (30 : Nat)) [] []), ((18 : Nat), I (Int.ofNat mid)), ((20 : Nat), I (Int.ofNat s)), ((24 : Nat), I (Int.ofNat e))], st := [((0 : Nat), Obj.arr (6 : Nat) (List.map Ep.row r))], ids := [(0 : Nat), (0 : Nat)] }) :=
  runP hmix [.reg 39 [(3, [], some true), (7, [], some true)], .reg 40 [(5, [.call [0] [] (.tup []) [some (.arr 6 ((l1).map Ep.row))]], none)], .tail 41 ⟨[0, 1, 2, 3, 4, 18, 20, 24], [(0, 0)], []⟩ .normal (soT (r)  a m b mid s e)] ⟨[0, 1, 2, 3, 4, 18, 20, 24], [(0, 0)], []⟩ [
      decide (Int.ofNat s < Int.ofNat m) = true,
      decide (Int.ofNat m < Int.ofNat e) = true,
      Contract Try.prog (46 : Nat) [V.own (0 : Nat), I (Int.ofNat s), I (Int.ofNat m), I (Int.ofNat e), V.clo (Fn.func (30 : Nat)) [] []] [Obj.arr (6 : Nat) (List.map Ep.row l)] (V.tup []) [some (Obj.arr (6 : Nat) (List.map Ep.row l1))],
      CodeC Try.prog (1 : Nat) (220 : Nat) soT2B { env := [((0 : Nat), V.own (0 : Nat)), ((1 : Nat), I (Int.ofNat a)), ((2 : Nat), I (Int.ofNat m)), ((3 : Nat), I (Int.ofNat b)), ((4 : Nat), V.clo (Fn.func (30 : Nat)) [] []), ((18 : Nat), I (Int.ofNat mid)), ((20 : Nat), I (Int.ofNat s)), ((24 : Nat), I (Int.ofNat e))], st := [((0 : Nat), Obj.arr (6 : Nat) (List.map Ep.row l1))], ids := [(0 : Nat), (0 : Nat)] } Ex.normal { env := [((0 : Nat), V.own (0 : Nat)), ((1 : Nat), I (Int.ofNat a)), ((2 : Nat), I (Int.ofNat m)), ((3 : Nat), I (Int.ofNat b)), ((4 : Nat), V.clo (Fn.func (30 : Nat)) [] []), ((18 : Nat), I (Int.ofNat mid)), ((20 : Nat), I (Int.ofNat s)), ((24 : Nat), I (Int.ofNat e))], st := [((0 : Nat), Obj.arr (6 : Nat) (List.map Ep.row r))], ids := [(0 : Nat), (0 : Nat)] }] (by kernel_rfl)
    (by
      simp only [allP]
      and_intros <;> first
        | omega
        | (simp; omega)
        | exact hn)

theorem soT1go (l l1 r : List Ep)  (a m b mid s e : Nat) (hq : s < m ∧ m < e) (hc : Contract Try.prog 46 [.own 0, I ((s : Nat) : Int), I ((m : Nat) : Int), I ((e : Nat) : Int), .clo (.func 30) [] []] [.arr 6 ((l).map Ep.row)] (.tup []) [some (.arr 6 ((l1).map Ep.row))]) (hn : CodeC Try.prog 1 220 soT2B (soT (l1)  a m b mid s e) .normal (soT (r)  a m b mid s e))  : CodeC Try.prog 1 220 soT1B (soT (l)  a m b mid s e) .normal (soT (r)  a m b mid s e) := by
  exact CodeC.cast (by
    first
      | rfl) (soT1go_0 l l1 r a m b mid s e hq hc hn )

theorem soT1no_0 (l r : List Ep)  (a m b mid s e : Nat) (hq : ¬ (s < m ∧ m < e)) (hn : CodeC Try.prog 1 220 soT2B (soT (l)  a m b mid s e) .normal (soT (r)  a m b mid s e)) (tq0 : (decide (Int.ofNat s < Int.ofNat m)) = true) : CodeC Try.prog 1 220 soT1B (soT (l)  a m b mid s e) (Ex.normal) ({ env := [((0 : Nat), V.own (0 : Nat)), ((1 : Nat), I (Int.ofNat a)), ((2 : Nat), I (Int.ofNat m)), ((3 : Nat), I (Int.ofNat b)), ((4 : Nat), V.clo (Fn.func (30 : Nat)) [] []), ((18 : Nat), I (Int.ofNat mid)), ((20 : Nat), I (Int.ofNat s)), ((24 : Nat), I (Int.ofNat e))], st := [((0 : Nat), Obj.arr (6 : Nat) (List.map Ep.row r))], ids := [(0 : Nat), (0 : Nat)] }) :=
  runP hmix [.reg 39 [(3, [], some true), (7, [], some false)], .tail 41 ⟨[0, 1, 2, 3, 4, 18, 20, 24], [(0, 0)], []⟩ .normal (soT (r)  a m b mid s e)] ⟨[0, 1, 2, 3, 4, 18, 20, 24], [(0, 0)], []⟩ [
      decide (Int.ofNat s < Int.ofNat m) = true,
      decide (Int.ofNat m < Int.ofNat e) = false,
      CodeC Try.prog (1 : Nat) (220 : Nat) soT2B { env := [((0 : Nat), V.own (0 : Nat)), ((1 : Nat), I (Int.ofNat a)), ((2 : Nat), I (Int.ofNat m)), ((3 : Nat), I (Int.ofNat b)), ((4 : Nat), V.clo (Fn.func (30 : Nat)) [] []), ((18 : Nat), I (Int.ofNat mid)), ((20 : Nat), I (Int.ofNat s)), ((24 : Nat), I (Int.ofNat e))], st := [((0 : Nat), Obj.arr (6 : Nat) (List.map Ep.row l))], ids := [(0 : Nat), (0 : Nat)] } Ex.normal { env := [((0 : Nat), V.own (0 : Nat)), ((1 : Nat), I (Int.ofNat a)), ((2 : Nat), I (Int.ofNat m)), ((3 : Nat), I (Int.ofNat b)), ((4 : Nat), V.clo (Fn.func (30 : Nat)) [] []), ((18 : Nat), I (Int.ofNat mid)), ((20 : Nat), I (Int.ofNat s)), ((24 : Nat), I (Int.ofNat e))], st := [((0 : Nat), Obj.arr (6 : Nat) (List.map Ep.row r))], ids := [(0 : Nat), (0 : Nat)] }] (by kernel_rfl)
    (by
      have d0 := tq0
      try simp only [Int.ofNat_eq_natCast, List.length_map, Bool.not_eq_true', Bool.not_eq_false', decide_eq_true_eq, decide_eq_false_iff_not] at d0
      simp only [allP]
      and_intros <;> first
        | omega
        | (simp; omega)
        | exact hn)

theorem soT1no_1 (l r : List Ep)  (a m b mid s e : Nat) (hq : ¬ (s < m ∧ m < e)) (hn : CodeC Try.prog 1 220 soT2B (soT (l)  a m b mid s e) .normal (soT (r)  a m b mid s e)) (tq0 : (decide (Int.ofNat s < Int.ofNat m)) = false) : CodeC Try.prog 1 220 soT1B (soT (l)  a m b mid s e) (Ex.normal) ({ env := [((0 : Nat), V.own (0 : Nat)), ((1 : Nat), I (Int.ofNat a)), ((2 : Nat), I (Int.ofNat m)), ((3 : Nat), I (Int.ofNat b)), ((4 : Nat), V.clo (Fn.func (30 : Nat)) [] []), ((18 : Nat), I (Int.ofNat mid)), ((20 : Nat), I (Int.ofNat s)), ((24 : Nat), I (Int.ofNat e))], st := [((0 : Nat), Obj.arr (6 : Nat) (List.map Ep.row r))], ids := [(0 : Nat), (0 : Nat)] }) :=
  runP hmix [.reg 39 [(3, [], some false), (7, [], some false)], .tail 41 ⟨[0, 1, 2, 3, 4, 18, 20, 24], [(0, 0)], []⟩ .normal (soT (r)  a m b mid s e)] ⟨[0, 1, 2, 3, 4, 18, 20, 24], [(0, 0)], []⟩ [
      decide (Int.ofNat s < Int.ofNat m) = false,
      false = false,
      CodeC Try.prog (1 : Nat) (220 : Nat) soT2B { env := [((0 : Nat), V.own (0 : Nat)), ((1 : Nat), I (Int.ofNat a)), ((2 : Nat), I (Int.ofNat m)), ((3 : Nat), I (Int.ofNat b)), ((4 : Nat), V.clo (Fn.func (30 : Nat)) [] []), ((18 : Nat), I (Int.ofNat mid)), ((20 : Nat), I (Int.ofNat s)), ((24 : Nat), I (Int.ofNat e))], st := [((0 : Nat), Obj.arr (6 : Nat) (List.map Ep.row l))], ids := [(0 : Nat), (0 : Nat)] } Ex.normal { env := [((0 : Nat), V.own (0 : Nat)), ((1 : Nat), I (Int.ofNat a)), ((2 : Nat), I (Int.ofNat m)), ((3 : Nat), I (Int.ofNat b)), ((4 : Nat), V.clo (Fn.func (30 : Nat)) [] []), ((18 : Nat), I (Int.ofNat mid)), ((20 : Nat), I (Int.ofNat s)), ((24 : Nat), I (Int.ofNat e))], st := [((0 : Nat), Obj.arr (6 : Nat) (List.map Ep.row r))], ids := [(0 : Nat), (0 : Nat)] }] (by kernel_rfl)
    (by
      have d0 := tq0
      try simp only [Int.ofNat_eq_natCast, List.length_map, Bool.not_eq_true', Bool.not_eq_false', decide_eq_true_eq, decide_eq_false_iff_not] at d0
      simp only [allP]
      and_intros <;> first
        | omega
        | exact hn
        | (simp; done))

theorem soT1no (l r : List Ep)  (a m b mid s e : Nat) (hq : ¬ (s < m ∧ m < e)) (hn : CodeC Try.prog 1 220 soT2B (soT (l)  a m b mid s e) .normal (soT (r)  a m b mid s e))  : CodeC Try.prog 1 220 soT1B (soT (l)  a m b mid s e) .normal (soT (r)  a m b mid s e) := by
  rcases tf (decide (Int.ofNat s < Int.ofNat m)) with tq0 | tq0
  · exact CodeC.cast (by
      first
        | rfl) (soT1no_0 l r a m b mid s e hq hn tq0)
  · exact CodeC.cast (by
      first
        | rfl) (soT1no_1 l r a m b mid s e hq hn tq0)

theorem soTT (l l1 l2 l3 : List Ep)  (a m b mid s e : Nat) (hR : s < m ∧ m < e → Contract Try.prog 46 [.own 0, I ((s : Nat) : Int), I ((m : Nat) : Int), I ((e : Nat) : Int), .clo (.func 30) [] []] [.arr 6 ((l).map Ep.row)] (.tup []) [some (.arr 6 ((l1).map Ep.row))]) (hR0 : ¬ (s < m ∧ m < e) → l1 = l) (hS : a < s ∧ s < mid → Contract Try.prog 42 [.own 0, I ((a : Nat) : Int), I ((s : Nat) : Int), I ((mid : Nat) : Int), .clo (.func 30) [] []] [.arr 6 ((l1).map Ep.row)] (.tup []) [some (.arr 6 ((l2).map Ep.row))]) (hS0 : ¬ (a < s ∧ s < mid) → l2 = l1) (hT : mid < e ∧ e < b → Contract Try.prog 42 [.own 0, I ((mid : Nat) : Int), I ((e : Nat) : Int), I ((b : Nat) : Int), .clo (.func 30) [] []] [.arr 6 ((l2).map Ep.row)] (.tup []) [some (.arr 6 ((l3).map Ep.row))]) (hT0 : ¬ (mid < e ∧ e < b) → l3 = l2) : CodeC Try.prog 1 220 soT1B (soT (l)  a m b mid s e) .normal (soT (l3)  a m b mid s e) := by
  have k3 : CodeC Try.prog 1 220 soT3B (soT (l2)  a m b mid s e) .normal (soT (l3)  a m b mid s e) := by
    by_cases q : mid < e ∧ e < b
    · exact soT3go _ _  a m b mid s e q (hT q)
    · rw [hT0 q]; exact soT3no _  a m b mid s e q
  have k2 : CodeC Try.prog 1 220 soT2B (soT (l1)  a m b mid s e) .normal (soT (l3)  a m b mid s e) := by
    by_cases q : a < s ∧ s < mid
    · exact soT2go _ _ _  a m b mid s e q (hS q) k3
    · rw [hS0 q] at k3; exact soT2no _ _  a m b mid s e q k3
  by_cases q : s < m ∧ m < e
  · exact soT1go _ _ _  a m b mid s e q (hR q) k2
  · rw [hR0 q] at k2; exact soT1no _ _  a m b mid s e q k2

theorem soG0_0 (l r : List Ep)  (a m b mid s e : Nat) (hm : m ≠ a + 1) (hb : b ≠ m + 1) (ham : a < m) (hmb : m < b) (hs : b ≤ 1000000) (hmid : mid = (a + b) / 2) (hmg : ¬ (mid < m)) (he : e = mid + m - s) (hse : s ≤ mid + m) (hl : LoopC Try.prog 1 220 soZB (soZ (l)  a m b mid (mid + m) a m (mid + m - 1)) (.exit 8) (soZ (l)  a m b mid (mid + m) s s (mid + m - 1))) (ht : CodeC Try.prog 1 220 soT1B (soT (l)  a m b mid s e) .normal (soT (r)  a m b mid s e)) : Contract Try.prog 42 [.own 0, I (a : Int), I (m : Int), I (b : Int), .clo (.func 30) [] []] [.arr 6 ((l).map Ep.row)] (V.tup []) ([some (Obj.arr (6 : Nat) (List.map Ep.row r))]) :=
  vcP hmix [.reg 0 [(2, [.be (I ((m - a : Nat) : Int))], none), (3, [], some false)], .reg 12 [(2, [.be (I ((b - m : Nat) : Int))], none), (3, [], some false)], .reg 24 [(5, [.be (I ((mid : Nat) : Int))], none)], .reg 25 [(2, [.be (I ((mid + m : Nat) : Int))], none)], .reg 27 [(2, [], some false)], .reg 32 [(1, [.be (I ((mid + m - 1 : Nat) : Int))], none)], .cut ⟨[0, 1, 2, 3, 4, 18, 19, 20, 21, 22], [(0, 0)], []⟩ (.exit 8) (soZ (l)  a m b mid (mid + m) s s (mid + m - 1)), .reg 38 [(2, [.be (I ((e : Nat) : Int))], none)], .tail 39 ⟨[0, 1, 2, 3, 4, 18, 20, 24], [(0, 0)], []⟩ .normal (soT (r)  a m b mid s e)] [] [
      IntKind.wrap IntKind.i64 (Int.ofNat m + -Int.ofNat a) = Int.ofNat (m - a),
      (Int.ofNat (m - a) == (1 : Int)) = false,
      IntKind.wrap IntKind.i64 (Int.ofNat b + -Int.ofNat m) = Int.ofNat (b - m),
      (Int.ofNat (b - m) == (1 : Int)) = false,
      IntKind.wrap IntKind.i64 (Int.fdiv (IntKind.wrap IntKind.u64 (IntKind.wrap IntKind.i64 (Int.ofNat (a + b)))) (2 : Int)) = Int.ofNat mid,
      IntKind.wrap IntKind.i64 (Int.ofNat (mid + m)) = Int.ofNat (mid + m),
      decide (Int.ofNat m > Int.ofNat mid) = false,
      IntKind.wrap IntKind.i64 (Int.ofNat (mid + m) + (-1 : Int)) = Int.ofNat (mid + m - (1 : Nat)),
      LoopC Try.prog (1 : Nat) (220 : Nat) soZB { env := [((0 : Nat), V.own (0 : Nat)), ((1 : Nat), I (Int.ofNat a)), ((2 : Nat), I (Int.ofNat m)), ((3 : Nat), I (Int.ofNat b)), ((4 : Nat), V.clo (Fn.func (30 : Nat)) [] []), ((18 : Nat), I (Int.ofNat mid)), ((19 : Nat), I (Int.ofNat (mid + m))), ((20 : Nat), I (Int.ofNat a)), ((21 : Nat), I (Int.ofNat m)), ((22 : Nat), I (Int.ofNat (mid + m - (1 : Nat))))], st := [((0 : Nat), Obj.arr (6 : Nat) (List.map Ep.row l))], ids := [(0 : Nat), (0 : Nat)] } (Ex.exit (8 : Nat)) { env := [((0 : Nat), V.own (0 : Nat)), ((1 : Nat), I (Int.ofNat a)), ((2 : Nat), I (Int.ofNat m)), ((3 : Nat), I (Int.ofNat b)), ((4 : Nat), V.clo (Fn.func (30 : Nat)) [] []), ((18 : Nat), I (Int.ofNat mid)), ((19 : Nat), I (Int.ofNat (mid + m))), ((20 : Nat), I (Int.ofNat s)), ((21 : Nat), I (Int.ofNat s)), ((22 : Nat), I (Int.ofNat (mid + m - (1 : Nat))))], st := [((0 : Nat), Obj.arr (6 : Nat) (List.map Ep.row l))], ids := [(0 : Nat), (0 : Nat)] },
      IntKind.wrap IntKind.i64 (Int.ofNat (mid + m) + -Int.ofNat s) = Int.ofNat e,
      CodeC Try.prog (1 : Nat) (220 : Nat) soT1B { env := [((0 : Nat), V.own (0 : Nat)), ((1 : Nat), I (Int.ofNat a)), ((2 : Nat), I (Int.ofNat m)), ((3 : Nat), I (Int.ofNat b)), ((4 : Nat), V.clo (Fn.func (30 : Nat)) [] []), ((18 : Nat), I (Int.ofNat mid)), ((20 : Nat), I (Int.ofNat s)), ((24 : Nat), I (Int.ofNat e))], st := [((0 : Nat), Obj.arr (6 : Nat) (List.map Ep.row l))], ids := [(0 : Nat), (0 : Nat)] } Ex.normal { env := [((0 : Nat), V.own (0 : Nat)), ((1 : Nat), I (Int.ofNat a)), ((2 : Nat), I (Int.ofNat m)), ((3 : Nat), I (Int.ofNat b)), ((4 : Nat), V.clo (Fn.func (30 : Nat)) [] []), ((18 : Nat), I (Int.ofNat mid)), ((20 : Nat), I (Int.ofNat s)), ((24 : Nat), I (Int.ofNat e))], st := [((0 : Nat), Obj.arr (6 : Nat) (List.map Ep.row r))], ids := [(0 : Nat), (0 : Nat)] }] (by kernel_rfl)
    (by
      simp only [allP]
      and_intros <;> first
        | (simp; omega)
        | exact hl
        | exact ht
        | exact i64_small (by simp; omega)
        | (rw [i64_small (by simp; omega)]; simp; omega)
        | (rw [hmid]; exact halfW (by omega)))

theorem soG0 (l r : List Ep)  (a m b mid s e : Nat) (hm : m ≠ a + 1) (hb : b ≠ m + 1) (ham : a < m) (hmb : m < b) (hs : b ≤ 1000000) (hmid : mid = (a + b) / 2) (hmg : ¬ (mid < m)) (he : e = mid + m - s) (hse : s ≤ mid + m) (hl : LoopC Try.prog 1 220 soZB (soZ (l)  a m b mid (mid + m) a m (mid + m - 1)) (.exit 8) (soZ (l)  a m b mid (mid + m) s s (mid + m - 1))) (ht : CodeC Try.prog 1 220 soT1B (soT (l)  a m b mid s e) .normal (soT (r)  a m b mid s e)) : Contract Try.prog 42 [.own 0, I (a : Int), I (m : Int), I (b : Int), .clo (.func 30) [] []] [.arr 6 ((l).map Ep.row)] (.tup []) [some (.arr 6 ((r).map Ep.row))] := by
  exact Contract.cast (by
    first
      | rfl) (by
    first
      | rfl) (soG0_0 l r a m b mid s e hm hb ham hmb hs hmid hmg he hse hl ht )

theorem soG1_0 (l r : List Ep)  (a m b mid s e : Nat) (hm : m ≠ a + 1) (hb : b ≠ m + 1) (ham : a < m) (hmb : m < b) (hs : b ≤ 1000000) (hmid : mid = (a + b) / 2) (hmg : (mid < m)) (he : e = mid + m - s) (hse : s ≤ mid + m) (hl : LoopC Try.prog 1 220 soZB (soZ (l)  a m b mid (mid + m) (mid + m - b) mid (mid + m - 1)) (.exit 8) (soZ (l)  a m b mid (mid + m) s s (mid + m - 1))) (ht : CodeC Try.prog 1 220 soT1B (soT (l)  a m b mid s e) .normal (soT (r)  a m b mid s e)) : Contract Try.prog 42 [.own 0, I (a : Int), I (m : Int), I (b : Int), .clo (.func 30) [] []] [.arr 6 ((l).map Ep.row)] (V.tup []) ([some (Obj.arr (6 : Nat) (List.map Ep.row r))]) :=
  vcP hmix [.reg 0 [(2, [.be (I ((m - a : Nat) : Int))], none), (3, [], some false)], .reg 12 [(2, [.be (I ((b - m : Nat) : Int))], none), (3, [], some false)], .reg 24 [(5, [.be (I ((mid : Nat) : Int))], none)], .reg 25 [(2, [.be (I ((mid + m : Nat) : Int))], none)], .reg 27 [(2, [], some true)], .reg 28 [(2, [.be (I ((mid + m - b : Nat) : Int))], none)], .reg 32 [(1, [.be (I ((mid + m - 1 : Nat) : Int))], none)], .cut ⟨[0, 1, 2, 3, 4, 18, 19, 20, 21, 22], [(0, 0)], []⟩ (.exit 8) (soZ (l)  a m b mid (mid + m) s s (mid + m - 1)), .reg 38 [(2, [.be (I ((e : Nat) : Int))], none)], .tail 39 ⟨[0, 1, 2, 3, 4, 18, 20, 24], [(0, 0)], []⟩ .normal (soT (r)  a m b mid s e)] [] [
      IntKind.wrap IntKind.i64 (Int.ofNat m + -Int.ofNat a) = Int.ofNat (m - a),
      (Int.ofNat (m - a) == (1 : Int)) = false,
      IntKind.wrap IntKind.i64 (Int.ofNat b + -Int.ofNat m) = Int.ofNat (b - m),
      (Int.ofNat (b - m) == (1 : Int)) = false,
      IntKind.wrap IntKind.i64 (Int.fdiv (IntKind.wrap IntKind.u64 (IntKind.wrap IntKind.i64 (Int.ofNat (a + b)))) (2 : Int)) = Int.ofNat mid,
      IntKind.wrap IntKind.i64 (Int.ofNat (mid + m)) = Int.ofNat (mid + m),
      decide (Int.ofNat m > Int.ofNat mid) = true,
      IntKind.wrap IntKind.i64 (Int.ofNat (mid + m) + -Int.ofNat b) = Int.ofNat (mid + m - b),
      IntKind.wrap IntKind.i64 (Int.ofNat (mid + m) + (-1 : Int)) = Int.ofNat (mid + m - (1 : Nat)),
      LoopC Try.prog (1 : Nat) (220 : Nat) soZB { env := [((0 : Nat), V.own (0 : Nat)), ((1 : Nat), I (Int.ofNat a)), ((2 : Nat), I (Int.ofNat m)), ((3 : Nat), I (Int.ofNat b)), ((4 : Nat), V.clo (Fn.func (30 : Nat)) [] []), ((18 : Nat), I (Int.ofNat mid)), ((19 : Nat), I (Int.ofNat (mid + m))), ((20 : Nat), I (Int.ofNat (mid + m - b))), ((21 : Nat), I (Int.ofNat mid)), ((22 : Nat), I (Int.ofNat (mid + m - (1 : Nat))))], st := [((0 : Nat), Obj.arr (6 : Nat) (List.map Ep.row l))], ids := [(0 : Nat), (0 : Nat)] } (Ex.exit (8 : Nat)) { env := [((0 : Nat), V.own (0 : Nat)), ((1 : Nat), I (Int.ofNat a)), ((2 : Nat), I (Int.ofNat m)), ((3 : Nat), I (Int.ofNat b)), ((4 : Nat), V.clo (Fn.func (30 : Nat)) [] []), ((18 : Nat), I (Int.ofNat mid)), ((19 : Nat), I (Int.ofNat (mid + m))), ((20 : Nat), I (Int.ofNat s)), ((21 : Nat), I (Int.ofNat s)), ((22 : Nat), I (Int.ofNat (mid + m - (1 : Nat))))], st := [((0 : Nat), Obj.arr (6 : Nat) (List.map Ep.row l))], ids := [(0 : Nat), (0 : Nat)] },
      IntKind.wrap IntKind.i64 (Int.ofNat (mid + m) + -Int.ofNat s) = Int.ofNat e,
      CodeC Try.prog (1 : Nat) (220 : Nat) soT1B { env := [((0 : Nat), V.own (0 : Nat)), ((1 : Nat), I (Int.ofNat a)), ((2 : Nat), I (Int.ofNat m)), ((3 : Nat), I (Int.ofNat b)), ((4 : Nat), V.clo (Fn.func (30 : Nat)) [] []), ((18 : Nat), I (Int.ofNat mid)), ((20 : Nat), I (Int.ofNat s)), ((24 : Nat), I (Int.ofNat e))], st := [((0 : Nat), Obj.arr (6 : Nat) (List.map Ep.row l))], ids := [(0 : Nat), (0 : Nat)] } Ex.normal { env := [((0 : Nat), V.own (0 : Nat)), ((1 : Nat), I (Int.ofNat a)), ((2 : Nat), I (Int.ofNat m)), ((3 : Nat), I (Int.ofNat b)), ((4 : Nat), V.clo (Fn.func (30 : Nat)) [] []), ((18 : Nat), I (Int.ofNat mid)), ((20 : Nat), I (Int.ofNat s)), ((24 : Nat), I (Int.ofNat e))], st := [((0 : Nat), Obj.arr (6 : Nat) (List.map Ep.row r))], ids := [(0 : Nat), (0 : Nat)] }] (by kernel_rfl)
    (by
      simp only [allP]
      and_intros <;> first
        | (simp; omega)
        | exact hl
        | exact ht
        | exact i64_small (by simp; omega)
        | (rw [i64_small (by simp; omega)]; simp; omega)
        | (rw [hmid]; exact halfW (by omega)))

theorem soG1 (l r : List Ep)  (a m b mid s e : Nat) (hm : m ≠ a + 1) (hb : b ≠ m + 1) (ham : a < m) (hmb : m < b) (hs : b ≤ 1000000) (hmid : mid = (a + b) / 2) (hmg : (mid < m)) (he : e = mid + m - s) (hse : s ≤ mid + m) (hl : LoopC Try.prog 1 220 soZB (soZ (l)  a m b mid (mid + m) (mid + m - b) mid (mid + m - 1)) (.exit 8) (soZ (l)  a m b mid (mid + m) s s (mid + m - 1))) (ht : CodeC Try.prog 1 220 soT1B (soT (l)  a m b mid s e) .normal (soT (r)  a m b mid s e)) : Contract Try.prog 42 [.own 0, I (a : Int), I (m : Int), I (b : Int), .clo (.func 30) [] []] [.arr 6 ((l).map Ep.row)] (.tup []) [some (.arr 6 ((r).map Ep.row))] := by
  exact Contract.cast (by
    first
      | rfl) (by
    first
      | rfl) (soG1_0 l r a m b mid s e hm hb ham hmb hs hmid hmg he hse hl ht )

end Go.Proofs.Ytfpdlamjlbpmkaa
