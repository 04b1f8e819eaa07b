/- edges: calls are counted. -/
import Derived.Test.YtieffigehkjifaaEdC
import Derived.Test.YtieffigehkjifaaEdIns
namespace Go.Proofs.Ytieffigehkjifaa
open E
set_option maxRecDepth 100000
set_option linter.unusedVariables false
set_option linter.unusedSimpArgs false


def insE {α : Type} (l : List α) (i : Nat) (e : α) : List α := l.take i ++ e :: l.drop i
def errN (err : Bool) : Int := bif err then 1 else 0
def bumpE (m : Int) (err : Bool) (e : Ed) : Ed := Ed.mk e.fr e.to (plusR e.cnt 1 m) (plusR e.errs (errN err) m)
/-- A call counted. -/
def countE (l : List Ed) (key : Ed) (err : Bool) (m : Int) : List Ed := match l.findIdx? (pEq key) with
  | some j => l.modify j (bumpE m err)
  | none => (insE l ((l.findIdx? (pGt key)).getD l.length) key).modify ((l.findIdx? (pGt key)).getD l.length) (bumpE m err)
def stepE (batch : List Sp) (m : Int) (l : List Ed) (s : Sp) : List Ed := bif rightS s then (bif (callerS batch s).2 then countE l (Ed.mk (callerS batch s).1 s.svc 0 0) s.err m else l) else l
def adS (b : List Sp) (m : Int) (l : List Ed) (i : Nat) : SL := ⟨[(0, .own 900), (1, .sl 10 (b.map Sp.row)), (2, I m), (13, .sl 10 (b.map Sp.row)), (14, I (b.length : Int)), (15, I (i : Int))], [(900, .arr 4 (l.map Ed.row))], [900]⟩
noncomputable def adB : Code := codeAt Try.prog 8 [true, true, false, true, false, false]

theorem insE_len {α : Type} (l : List α) (i : Nat) (e : α) : (insE l i e).length = l.length + 1 := by
  simp [insE]; omega
theorem insO' (l : List Ed) (e : Ed) (k : Nat) (hk : k ≤ l.length) (hb : l.length ≤ 1000000000) : Contract Try.prog 22 [.own 0, I (k : Int), .own 1] [.arr 4 (l.map Ed.row), .arr 4 [e.row]] (.own 2) [none, some (.arr 4 [e.row]), some (.arr 4 ((insE l k e).map Ed.row))] := by
  have h := insO (l.map Ed.row) e.row k (by simpa using hk) (by rw [List.length_map]; omega)
  rw [show (insE l k e).map Ed.row = (l.map Ed.row).take k ++ e.row :: (l.map Ed.row).drop k by simp [insE, List.map_take, List.map_drop]]
  exact h
theorem setRow2 (l : List Ed) (j : Nat) (a b : Ed) : ((l.set j a).map Ed.row).set j b.row = (l.set j b).map Ed.row := by
  rw [setRow, List.set_set]
theorem getRow2 (l : List Ed) (j : Nat) (a : Ed) (h : j < l.length) : ((l.set j a).map Ed.row)[j]? = some a.row := by simp [h]

theorem cntA1 (l : List Ed) (key x : Ed) (m : Int) (j : Nat) (hs : l.length ≤ 1000000000) (hf : idxI (pEq key) l = (j : Int)) (hx : l[j]? = some x) (hT : j < l.length) : Contract Try.prog 15 [.own 0, key.v, Bo true, I m] [.arr 4 (l.map Ed.row)] (.own 1) [none, some (.arr 4 ((l.set j (Ed.mk x.fr x.to (plusR x.cnt 1 m) (plusR x.errs 1 m))).map Ed.row))] :=
  vcP hmix [.reg 1 [(2, [.call [1000] [] (I (idxI (pEq key) l)) [some (.box key.row)], .be (I (j : Int))], none)], .reg 10 [(8, [.row (Ed.row x)], none), (10, [.call [] [] (I (plusR x.cnt 1 m)) []], none), (15, [.row (Ed.row x)], none), (18, [.call [] [] (I (plusR x.errs 1 m)) []], none), (21, [.row (Ed.row x), .beO ((l.set j (Ed.mk x.fr x.to (plusR x.cnt 1 m) x.errs)).map Ed.row)], none), (24, [.row (Ed.row (Ed.mk x.fr x.to (plusR x.cnt 1 m) x.errs)), .beO ((l.set j (Ed.mk x.fr x.to (plusR x.cnt 1 m) (plusR x.errs 1 m))).map Ed.row)], none)], .reg 11 [(0, [.idx 0], none)]] [2201000] [
      Contract Try.prog (18 : Nat) [V.sl (4 : Nat) (List.map Ed.row l), V.clo (Fn.func (19 : Nat)) [] [V.ptr (0 : Nat) (0 : Nat) (0 : Nat) (0 : Nat)]] [Obj.box [Sg (Ed.fr key), Sg (Ed.to key), I (Ed.cnt key), I (Ed.errs key)]] (I (idxI (pEq key) l)) [some (Obj.box (Ed.row key))],
      true = true,
      true = true,
      idxI (pEq key) l = Int.ofNat j,
      (0 : Int) ≤ Int.ofNat j,
      Int.ofNat j < Int.ofNat (List.length (List.map Ed.row l)),
      (List.map Ed.row l)[j]? = some (Ed.row x),
      Contract Try.prog (23 : Nat) [I (Ed.cnt x), I (1 : Int), I m] [] (I (plusR (Ed.cnt x) (1 : Int) m)) [],
      (0 : Int) ≤ Int.ofNat j,
      Int.ofNat j < Int.ofNat (List.length (List.map Ed.row l)),
      (List.map Ed.row l)[j]? = some (Ed.row x),
      Contract Try.prog (23 : Nat) [I (Ed.errs x), I (1 : Int), I m] [] (I (plusR (Ed.errs x) (1 : Int) m)) [],
      (0 : Int) ≤ Int.ofNat j,
      Int.ofNat j < Int.ofNat (List.length (List.map Ed.row l)),
      (List.map Ed.row l)[j]? = some (Ed.row x),
      List.set (List.map Ed.row l) j [Sg (Ed.fr x), Sg (Ed.to x), I (plusR (Ed.cnt x) (1 : Int) m), I (Ed.errs x)] = List.map Ed.row (List.set l j { fr := Ed.fr x, to := Ed.to x, cnt := plusR (Ed.cnt x) (1 : Int) m, errs := Ed.errs x }),
      (0 : Int) ≤ Int.ofNat j,
      Int.ofNat j < Int.ofNat (List.length (List.map Ed.row (List.set l j { fr := Ed.fr x, to := Ed.to x, cnt := plusR (Ed.cnt x) (1 : Int) m, errs := Ed.errs x }))),
      (List.map Ed.row (List.set l j { fr := Ed.fr x, to := Ed.to x, cnt := plusR (Ed.cnt x) (1 : Int) m, errs := Ed.errs x }))[j]? = some (Ed.row { fr := Ed.fr x, to := Ed.to x, cnt := plusR (Ed.cnt x) (1 : Int) m, errs := Ed.errs x }),
      List.set (List.map Ed.row (List.set l j { fr := Ed.fr x, to := Ed.to x, cnt := plusR (Ed.cnt x) (1 : Int) m, errs := Ed.errs x })) j [Sg (Ed.fr x), Sg (Ed.to x), I (plusR (Ed.cnt x) (1 : Int) m), I (plusR (Ed.errs x) (1 : Int) m)] = List.map Ed.row (List.set l j { fr := Ed.fr x, to := Ed.to x, cnt := plusR (Ed.cnt x) (1 : Int) m, errs := plusR (Ed.errs x) (1 : Int) m })] (by kernel_rfl)
    (by
      simp only [allP]
      and_intros <;> first
        | omega
        | with_reducible assumption
        | exact ixE l key (by omega)
        | exact ixG l key (by omega)
        | exact cPlus _ _ _
        | exact flatEd _
        | exact setRow Ed.row l j (Ed.mk x.fr x.to (plusR x.cnt 1 m) x.errs)
        | exact setRow2 l j (Ed.mk x.fr x.to (plusR x.cnt 1 m) x.errs) (Ed.mk x.fr x.to (plusR x.cnt 1 m) (plusR x.errs 1 m))
        | exact getRow2 l j (Ed.mk x.fr x.to (plusR x.cnt 1 m) x.errs) hT
        | (simp; omega)
        | (simp [hx]; done)
        | (simp; done)
        | decide)

theorem cntB1 (l : List Ed) (x : Ed) (m : Int) (j : Nat) (hs : l.length ≤ 1000000000) (hf : idxI (pEq x) l = -1) (hg : idxI (pGt x) l = (j : Int)) (hj : j ≤ l.length) (hx : (insE l j x)[j]? = some x) (hT : j < (insE l j x).length) : Contract Try.prog 15 [.own 0, x.v, Bo true, I m] [.arr 4 (l.map Ed.row)] (.own 1) [none, some (.arr 4 (((insE l j x).set j (Ed.mk x.fr x.to (plusR x.cnt 1 m) (plusR x.errs 1 m))).map Ed.row))] :=
  vcP hmix [.reg 1 [(2, [.call [1000] [] (I (idxI (pEq x) l)) [some (.box x.row)], .be (I (-1))], none)], .reg 3 [(2, [.call [1000] [] (I (idxI (pGt x) l)) [some (.box x.row)], .be (I (j : Int))], none)], .reg 6 [(4, [.call [0, 1204000] [] (.own 2) [none, some (.arr 4 [x.row]), some (.arr 4 ((insE l j x).map Ed.row))]], none)], .reg 10 [(8, [.row (Ed.row x)], none), (10, [.call [] [] (I (plusR x.cnt 1 m)) []], none), (15, [.row (Ed.row x)], none), (18, [.call [] [] (I (plusR x.errs 1 m)) []], none), (21, [.row (Ed.row x), .beO (((insE l j x).set j (Ed.mk x.fr x.to (plusR x.cnt 1 m) x.errs)).map Ed.row)], none), (24, [.row (Ed.row (Ed.mk x.fr x.to (plusR x.cnt 1 m) x.errs)), .beO (((insE l j x).set j (Ed.mk x.fr x.to (plusR x.cnt 1 m) (plusR x.errs 1 m))).map Ed.row)], none)], .reg 11 [(0, [.idx 0], none)]] [2201000] [
      Contract Try.prog (18 : Nat) [V.sl (4 : Nat) (List.map Ed.row l), V.clo (Fn.func (19 : Nat)) [] [V.ptr (0 : Nat) (0 : Nat) (0 : Nat) (0 : Nat)]] [Obj.box [Sg (Ed.fr x), Sg (Ed.to x), I (Ed.cnt x), I (Ed.errs x)]] (I (idxI (pEq x) l)) [some (Obj.box (Ed.row x))],
      true = true,
      true = true,
      idxI (pEq x) l = (-1 : Int),
      Contract Try.prog (18 : Nat) [V.sl (4 : Nat) (List.map Ed.row l), V.clo (Fn.func (21 : Nat)) [] [V.ptr (0 : Nat) (0 : Nat) (0 : Nat) (0 : Nat)]] [Obj.box [Sg (Ed.fr x), Sg (Ed.to x), I (Ed.cnt x), I (Ed.errs x)]] (I (idxI (pGt x) l)) [some (Obj.box (Ed.row x))],
      true = true,
      true = true,
      idxI (pGt x) l = Int.ofNat j,
      Contract Try.prog (22 : Nat) [V.own (0 : Nat), I (Int.ofNat j), V.own (1 : Nat)] [Obj.arr (4 : Nat) (List.map Ed.row l), Obj.arr (4 : Nat) [[Sg (Ed.fr x), Sg (Ed.to x), I (Ed.cnt x), I (Ed.errs x)]]] (V.own (2 : Nat)) [none, some (Obj.arr (4 : Nat) [Ed.row x]), some (Obj.arr (4 : Nat) (List.map Ed.row (insE l j x)))],
      (0 : Int) ≤ Int.ofNat j,
      Int.ofNat j < Int.ofNat (List.length (List.map Ed.row (insE l j x))),
      (List.map Ed.row (insE l j x))[j]? = some (Ed.row x),
      Contract Try.prog (23 : Nat) [I (Ed.cnt x), I (1 : Int), I m] [] (I (plusR (Ed.cnt x) (1 : Int) m)) [],
      (0 : Int) ≤ Int.ofNat j,
      Int.ofNat j < Int.ofNat (List.length (List.map Ed.row (insE l j x))),
      (List.map Ed.row (insE l j x))[j]? = some (Ed.row x),
      Contract Try.prog (23 : Nat) [I (Ed.errs x), I (1 : Int), I m] [] (I (plusR (Ed.errs x) (1 : Int) m)) [],
      (0 : Int) ≤ Int.ofNat j,
      Int.ofNat j < Int.ofNat (List.length (List.map Ed.row (insE l j x))),
      (List.map Ed.row (insE l j x))[j]? = some (Ed.row x),
      List.set (List.map Ed.row (insE l j x)) j [Sg (Ed.fr x), Sg (Ed.to x), I (plusR (Ed.cnt x) (1 : Int) m), I (Ed.errs x)] = List.map Ed.row (List.set (insE l j x) j { fr := Ed.fr x, to := Ed.to x, cnt := plusR (Ed.cnt x) (1 : Int) m, errs := Ed.errs x }),
      (0 : Int) ≤ Int.ofNat j,
      Int.ofNat j < Int.ofNat (List.length (List.map Ed.row (List.set (insE l j x) j { fr := Ed.fr x, to := Ed.to x, cnt := plusR (Ed.cnt x) (1 : Int) m, errs := Ed.errs x }))),
      (List.map Ed.row (List.set (insE l j x) j { fr := Ed.fr x, to := Ed.to x, cnt := plusR (Ed.cnt x) (1 : Int) m, errs := Ed.errs x }))[j]? = some (Ed.row { fr := Ed.fr x, to := Ed.to x, cnt := plusR (Ed.cnt x) (1 : Int) m, errs := Ed.errs x }),
      List.set (List.map Ed.row (List.set (insE l j x) j { fr := Ed.fr x, to := Ed.to x, cnt := plusR (Ed.cnt x) (1 : Int) m, errs := Ed.errs x })) j [Sg (Ed.fr x), Sg (Ed.to x), I (plusR (Ed.cnt x) (1 : Int) m), I (plusR (Ed.errs x) (1 : Int) m)] = List.map Ed.row (List.set (insE l j x) j { fr := Ed.fr x, to := Ed.to x, cnt := plusR (Ed.cnt x) (1 : Int) m, errs := plusR (Ed.errs x) (1 : Int) m })] (by kernel_rfl)
    (by
      simp only [allP]
      and_intros <;> first
        | omega
        | with_reducible assumption
        | exact ixE l x (by omega)
        | exact ixG l x (by omega)
        | exact cPlus _ _ _
        | exact flatEd _
        | exact setRow Ed.row (insE l j x) j (Ed.mk x.fr x.to (plusR x.cnt 1 m) x.errs)
        | exact setRow2 (insE l j x) j (Ed.mk x.fr x.to (plusR x.cnt 1 m) x.errs) (Ed.mk x.fr x.to (plusR x.cnt 1 m) (plusR x.errs 1 m))
        | exact getRow2 (insE l j x) j (Ed.mk x.fr x.to (plusR x.cnt 1 m) x.errs) hT
        | (simp; omega)
        | (simp [hx]; done)
        | exact insO' l x j (by omega) hs
        | (simp; done)
        | decide)

theorem cntC1 (l : List Ed) (x : Ed) (m : Int) (j : Nat) (hs : l.length ≤ 1000000000) (hf : idxI (pEq x) l = -1) (hg : idxI (pGt x) l = -1) (hj : j = l.length) (hx : (insE l j x)[j]? = some x) (hT : j < (insE l j x).length) : Contract Try.prog 15 [.own 0, x.v, Bo true, I m] [.arr 4 (l.map Ed.row)] (.own 1) [none, some (.arr 4 (((insE l j x).set j (Ed.mk x.fr x.to (plusR x.cnt 1 m) (plusR x.errs 1 m))).map Ed.row))] :=
  vcP hmix [.reg 1 [(2, [.call [1000] [] (I (idxI (pEq x) l)) [some (.box x.row)], .be (I (-1))], none)], .reg 3 [(2, [.call [1000] [] (I (idxI (pGt x) l)) [some (.box x.row)], .be (I (-1))], none)], .reg 5 [(1, [.be (I (j : Int))], none)], .reg 6 [(4, [.call [0, 1204000] [] (.own 2) [none, some (.arr 4 [x.row]), some (.arr 4 ((insE l j x).map Ed.row))]], none)], .reg 10 [(8, [.row (Ed.row x)], none), (10, [.call [] [] (I (plusR x.cnt 1 m)) []], none), (15, [.row (Ed.row x)], none), (18, [.call [] [] (I (plusR x.errs 1 m)) []], none), (21, [.row (Ed.row x), .beO (((insE l j x).set j (Ed.mk x.fr x.to (plusR x.cnt 1 m) x.errs)).map Ed.row)], none), (24, [.row (Ed.row (Ed.mk x.fr x.to (plusR x.cnt 1 m) x.errs)), .beO (((insE l j x).set j (Ed.mk x.fr x.to (plusR x.cnt 1 m) (plusR x.errs 1 m))).map Ed.row)], none)], .reg 11 [(0, [.idx 0], none)]] [2201000] [
      Contract Try.prog (18 : Nat) [V.sl (4 : Nat) (List.map Ed.row l), V.clo (Fn.func (19 : Nat)) [] [V.ptr (0 : Nat) (0 : Nat) (0 : Nat) (0 : Nat)]] [Obj.box [Sg (Ed.fr x), Sg (Ed.to x), I (Ed.cnt x), I (Ed.errs x)]] (I (idxI (pEq x) l)) [some (Obj.box (Ed.row x))],
      true = true,
      true = true,
      idxI (pEq x) l = (-1 : Int),
      Contract Try.prog (18 : Nat) [V.sl (4 : Nat) (List.map Ed.row l), V.clo (Fn.func (21 : Nat)) [] [V.ptr (0 : Nat) (0 : Nat) (0 : Nat) (0 : Nat)]] [Obj.box [Sg (Ed.fr x), Sg (Ed.to x), I (Ed.cnt x), I (Ed.errs x)]] (I (idxI (pGt x) l)) [some (Obj.box (Ed.row x))],
      true = true,
      true = true,
      idxI (pGt x) l = (-1 : Int),
      Int.ofNat (List.length (List.map Ed.row l)) = Int.ofNat j,
      Contract Try.prog (22 : Nat) [V.own (0 : Nat), I (Int.ofNat j), V.own (1 : Nat)] [Obj.arr (4 : Nat) (List.map Ed.row l), Obj.arr (4 : Nat) [[Sg (Ed.fr x), Sg (Ed.to x), I (Ed.cnt x), I (Ed.errs x)]]] (V.own (2 : Nat)) [none, some (Obj.arr (4 : Nat) [Ed.row x]), some (Obj.arr (4 : Nat) (List.map Ed.row (insE l j x)))],
      (0 : Int) ≤ Int.ofNat j,
      Int.ofNat j < Int.ofNat (List.length (List.map Ed.row (insE l j x))),
      (List.map Ed.row (insE l j x))[j]? = some (Ed.row x),
      Contract Try.prog (23 : Nat) [I (Ed.cnt x), I (1 : Int), I m] [] (I (plusR (Ed.cnt x) (1 : Int) m)) [],
      (0 : Int) ≤ Int.ofNat j,
      Int.ofNat j < Int.ofNat (List.length (List.map Ed.row (insE l j x))),
      (List.map Ed.row (insE l j x))[j]? = some (Ed.row x),
      Contract Try.prog (23 : Nat) [I (Ed.errs x), I (1 : Int), I m] [] (I (plusR (Ed.errs x) (1 : Int) m)) [],
      (0 : Int) ≤ Int.ofNat j,
      Int.ofNat j < Int.ofNat (List.length (List.map Ed.row (insE l j x))),
      (List.map Ed.row (insE l j x))[j]? = some (Ed.row x),
      List.set (List.map Ed.row (insE l j x)) j [Sg (Ed.fr x), Sg (Ed.to x), I (plusR (Ed.cnt x) (1 : Int) m), I (Ed.errs x)] = List.map Ed.row (List.set (insE l j x) j { fr := Ed.fr x, to := Ed.to x, cnt := plusR (Ed.cnt x) (1 : Int) m, errs := Ed.errs x }),
      (0 : Int) ≤ Int.ofNat j,
      Int.ofNat j < Int.ofNat (List.length (List.map Ed.row (List.set (insE l j x) j { fr := Ed.fr x, to := Ed.to x, cnt := plusR (Ed.cnt x) (1 : Int) m, errs := Ed.errs x }))),
      (List.map Ed.row (List.set (insE l j x) j { fr := Ed.fr x, to := Ed.to x, cnt := plusR (Ed.cnt x) (1 : Int) m, errs := Ed.errs x }))[j]? = some (Ed.row { fr := Ed.fr x, to := Ed.to x, cnt := plusR (Ed.cnt x) (1 : Int) m, errs := Ed.errs x }),
      List.set (List.map Ed.row (List.set (insE l j x) j { fr := Ed.fr x, to := Ed.to x, cnt := plusR (Ed.cnt x) (1 : Int) m, errs := Ed.errs x })) j [Sg (Ed.fr x), Sg (Ed.to x), I (plusR (Ed.cnt x) (1 : Int) m), I (plusR (Ed.errs x) (1 : Int) m)] = List.map Ed.row (List.set (insE l j x) j { fr := Ed.fr x, to := Ed.to x, cnt := plusR (Ed.cnt x) (1 : Int) m, errs := plusR (Ed.errs x) (1 : Int) m })] (by kernel_rfl)
    (by
      simp only [allP]
      and_intros <;> first
        | omega
        | with_reducible assumption
        | exact ixE l x (by omega)
        | exact ixG l x (by omega)
        | exact cPlus _ _ _
        | exact flatEd _
        | exact setRow Ed.row (insE l j x) j (Ed.mk x.fr x.to (plusR x.cnt 1 m) x.errs)
        | exact setRow2 (insE l j x) j (Ed.mk x.fr x.to (plusR x.cnt 1 m) x.errs) (Ed.mk x.fr x.to (plusR x.cnt 1 m) (plusR x.errs 1 m))
        | exact getRow2 (insE l j x) j (Ed.mk x.fr x.to (plusR x.cnt 1 m) x.errs) hT
        | (simp; omega)
        | (simp [hx]; done)
        | exact insO' l x j (by omega) hs
        | (simp; done)
        | decide)

theorem cntA0 (l : List Ed) (key x : Ed) (m : Int) (j : Nat) (hs : l.length ≤ 1000000000) (hf : idxI (pEq key) l = (j : Int)) (hx : l[j]? = some x) (hT : j < l.length) : Contract Try.prog 15 [.own 0, key.v, Bo false, I m] [.arr 4 (l.map Ed.row)] (.own 1) [none, some (.arr 4 ((l.set j (Ed.mk x.fr x.to (plusR x.cnt 1 m) (plusR x.errs 0 m))).map Ed.row))] :=
  vcP hmix [.reg 1 [(2, [.call [1000] [] (I (idxI (pEq key) l)) [some (.box key.row)], .be (I (j : Int))], none)], .reg 10 [(8, [.row (Ed.row x)], none), (10, [.call [] [] (I (plusR x.cnt 1 m)) []], none), (15, [.row (Ed.row x)], none), (18, [.call [] [] (I (plusR x.errs 0 m)) []], none), (21, [.row (Ed.row x), .beO ((l.set j (Ed.mk x.fr x.to (plusR x.cnt 1 m) x.errs)).map Ed.row)], none), (24, [.row (Ed.row (Ed.mk x.fr x.to (plusR x.cnt 1 m) x.errs)), .beO ((l.set j (Ed.mk x.fr x.to (plusR x.cnt 1 m) (plusR x.errs 0 m))).map Ed.row)], none)], .reg 11 [(0, [.idx 0], none)]] [2201000] [
      Contract Try.prog (18 : Nat) [V.sl (4 : Nat) (List.map Ed.row l), V.clo (Fn.func (19 : Nat)) [] [V.ptr (0 : Nat) (0 : Nat) (0 : Nat) (0 : Nat)]] [Obj.box [Sg (Ed.fr key), Sg (Ed.to key), I (Ed.cnt key), I (Ed.errs key)]] (I (idxI (pEq key) l)) [some (Obj.box (Ed.row key))],
      true = true,
      true = true,
      idxI (pEq key) l = Int.ofNat j,
      (0 : Int) ≤ Int.ofNat j,
      Int.ofNat j < Int.ofNat (List.length (List.map Ed.row l)),
      (List.map Ed.row l)[j]? = some (Ed.row x),
      Contract Try.prog (23 : Nat) [I (Ed.cnt x), I (1 : Int), I m] [] (I (plusR (Ed.cnt x) (1 : Int) m)) [],
      (0 : Int) ≤ Int.ofNat j,
      Int.ofNat j < Int.ofNat (List.length (List.map Ed.row l)),
      (List.map Ed.row l)[j]? = some (Ed.row x),
      Contract Try.prog (23 : Nat) [I (Ed.errs x), I (0 : Int), I m] [] (I (plusR (Ed.errs x) (0 : Int) m)) [],
      (0 : Int) ≤ Int.ofNat j,
      Int.ofNat j < Int.ofNat (List.length (List.map Ed.row l)),
      (List.map Ed.row l)[j]? = some (Ed.row x),
      List.set (List.map Ed.row l) j [Sg (Ed.fr x), Sg (Ed.to x), I (plusR (Ed.cnt x) (1 : Int) m), I (Ed.errs x)] = List.map Ed.row (List.set l j { fr := Ed.fr x, to := Ed.to x, cnt := plusR (Ed.cnt x) (1 : Int) m, errs := Ed.errs x }),
      (0 : Int) ≤ Int.ofNat j,
      Int.ofNat j < Int.ofNat (List.length (List.map Ed.row (List.set l j { fr := Ed.fr x, to := Ed.to x, cnt := plusR (Ed.cnt x) (1 : Int) m, errs := Ed.errs x }))),
      (List.map Ed.row (List.set l j { fr := Ed.fr x, to := Ed.to x, cnt := plusR (Ed.cnt x) (1 : Int) m, errs := Ed.errs x }))[j]? = some (Ed.row { fr := Ed.fr x, to := Ed.to x, cnt := plusR (Ed.cnt x) (1 : Int) m, errs := Ed.errs x }),
      List.set (List.map Ed.row (List.set l j { fr := Ed.fr x, to := Ed.to x, cnt := plusR (Ed.cnt x) (1 : Int) m, errs := Ed.errs x })) j [Sg (Ed.fr x), Sg (Ed.to x), I (plusR (Ed.cnt x) (1 : Int) m), I (plusR (Ed.errs x) (0 : Int) m)] = List.map Ed.row (List.set l j { fr := Ed.fr x, to := Ed.to x, cnt := plusR (Ed.cnt x) (1 : Int) m, errs := plusR (Ed.errs x) (0 : Int) m })] (by kernel_rfl)
    (by
      simp only [allP]
      and_intros <;> first
        | omega
        | with_reducible assumption
        | exact ixE l key (by omega)
        | exact ixG l key (by omega)
        | exact cPlus _ _ _
        | exact flatEd _
        | exact setRow Ed.row l j (Ed.mk x.fr x.to (plusR x.cnt 1 m) x.errs)
        | exact setRow2 l j (Ed.mk x.fr x.to (plusR x.cnt 1 m) x.errs) (Ed.mk x.fr x.to (plusR x.cnt 1 m) (plusR x.errs 0 m))
        | exact getRow2 l j (Ed.mk x.fr x.to (plusR x.cnt 1 m) x.errs) hT
        | (simp; omega)
        | (simp [hx]; done)
        | (simp; done)
        | decide)

theorem cntB0 (l : List Ed) (x : Ed) (m : Int) (j : Nat) (hs : l.length ≤ 1000000000) (hf : idxI (pEq x) l = -1) (hg : idxI (pGt x) l = (j : Int)) (hj : j ≤ l.length) (hx : (insE l j x)[j]? = some x) (hT : j < (insE l j x).length) : Contract Try.prog 15 [.own 0, x.v, Bo false, I m] [.arr 4 (l.map Ed.row)] (.own 1) [none, some (.arr 4 (((insE l j x).set j (Ed.mk x.fr x.to (plusR x.cnt 1 m) (plusR x.errs 0 m))).map Ed.row))] :=
  vcP hmix [.reg 1 [(2, [.call [1000] [] (I (idxI (pEq x) l)) [some (.box x.row)], .be (I (-1))], none)], .reg 3 [(2, [.call [1000] [] (I (idxI (pGt x) l)) [some (.box x.row)], .be (I (j : Int))], none)], .reg 6 [(4, [.call [0, 1204000] [] (.own 2) [none, some (.arr 4 [x.row]), some (.arr 4 ((insE l j x).map Ed.row))]], none)], .reg 10 [(8, [.row (Ed.row x)], none), (10, [.call [] [] (I (plusR x.cnt 1 m)) []], none), (15, [.row (Ed.row x)], none), (18, [.call [] [] (I (plusR x.errs 0 m)) []], none), (21, [.row (Ed.row x), .beO (((insE l j x).set j (Ed.mk x.fr x.to (plusR x.cnt 1 m) x.errs)).map Ed.row)], none), (24, [.row (Ed.row (Ed.mk x.fr x.to (plusR x.cnt 1 m) x.errs)), .beO (((insE l j x).set j (Ed.mk x.fr x.to (plusR x.cnt 1 m) (plusR x.errs 0 m))).map Ed.row)], none)], .reg 11 [(0, [.idx 0], none)]] [2201000] [
      Contract Try.prog (18 : Nat) [V.sl (4 : Nat) (List.map Ed.row l), V.clo (Fn.func (19 : Nat)) [] [V.ptr (0 : Nat) (0 : Nat) (0 : Nat) (0 : Nat)]] [Obj.box [Sg (Ed.fr x), Sg (Ed.to x), I (Ed.cnt x), I (Ed.errs x)]] (I (idxI (pEq x) l)) [some (Obj.box (Ed.row x))],
      true = true,
      true = true,
      idxI (pEq x) l = (-1 : Int),
      Contract Try.prog (18 : Nat) [V.sl (4 : Nat) (List.map Ed.row l), V.clo (Fn.func (21 : Nat)) [] [V.ptr (0 : Nat) (0 : Nat) (0 : Nat) (0 : Nat)]] [Obj.box [Sg (Ed.fr x), Sg (Ed.to x), I (Ed.cnt x), I (Ed.errs x)]] (I (idxI (pGt x) l)) [some (Obj.box (Ed.row x))],
      true = true,
      true = true,
      idxI (pGt x) l = Int.ofNat j,
      Contract Try.prog (22 : Nat) [V.own (0 : Nat), I (Int.ofNat j), V.own (1 : Nat)] [Obj.arr (4 : Nat) (List.map Ed.row l), Obj.arr (4 : Nat) [[Sg (Ed.fr x), Sg (Ed.to x), I (Ed.cnt x), I (Ed.errs x)]]] (V.own (2 : Nat)) [none, some (Obj.arr (4 : Nat) [Ed.row x]), some (Obj.arr (4 : Nat) (List.map Ed.row (insE l j x)))],
      (0 : Int) ≤ Int.ofNat j,
      Int.ofNat j < Int.ofNat (List.length (List.map Ed.row (insE l j x))),
      (List.map Ed.row (insE l j x))[j]? = some (Ed.row x),
      Contract Try.prog (23 : Nat) [I (Ed.cnt x), I (1 : Int), I m] [] (I (plusR (Ed.cnt x) (1 : Int) m)) [],
      (0 : Int) ≤ Int.ofNat j,
      Int.ofNat j < Int.ofNat (List.length (List.map Ed.row (insE l j x))),
      (List.map Ed.row (insE l j x))[j]? = some (Ed.row x),
      Contract Try.prog (23 : Nat) [I (Ed.errs x), I (0 : Int), I m] [] (I (plusR (Ed.errs x) (0 : Int) m)) [],
      (0 : Int) ≤ Int.ofNat j,
      Int.ofNat j < Int.ofNat (List.length (List.map Ed.row (insE l j x))),
      (List.map Ed.row (insE l j x))[j]? = some (Ed.row x),
      List.set (List.map Ed.row (insE l j x)) j [Sg (Ed.fr x), Sg (Ed.to x), I (plusR (Ed.cnt x) (1 : Int) m), I (Ed.errs x)] = List.map Ed.row (List.set (insE l j x) j { fr := Ed.fr x, to := Ed.to x, cnt := plusR (Ed.cnt x) (1 : Int) m, errs := Ed.errs x }),
      (0 : Int) ≤ Int.ofNat j,
      Int.ofNat j < Int.ofNat (List.length (List.map Ed.row (List.set (insE l j x) j { fr := Ed.fr x, to := Ed.to x, cnt := plusR (Ed.cnt x) (1 : Int) m, errs := Ed.errs x }))),
      (List.map Ed.row (List.set (insE l j x) j { fr := Ed.fr x, to := Ed.to x, cnt := plusR (Ed.cnt x) (1 : Int) m, errs := Ed.errs x }))[j]? = some (Ed.row { fr := Ed.fr x, to := Ed.to x, cnt := plusR (Ed.cnt x) (1 : Int) m, errs := Ed.errs x }),
      List.set (List.map Ed.row (List.set (insE l j x) j { fr := Ed.fr x, to := Ed.to x, cnt := plusR (Ed.cnt x) (1 : Int) m, errs := Ed.errs x })) j [Sg (Ed.fr x), Sg (Ed.to x), I (plusR (Ed.cnt x) (1 : Int) m), I (plusR (Ed.errs x) (0 : Int) m)] = List.map Ed.row (List.set (insE l j x) j { fr := Ed.fr x, to := Ed.to x, cnt := plusR (Ed.cnt x) (1 : Int) m, errs := plusR (Ed.errs x) (0 : Int) m })] (by kernel_rfl)
    (by
      simp only [allP]
      and_intros <;> first
        | omega
        | with_reducible assumption
        | exact ixE l x (by omega)
        | exact ixG l x (by omega)
        | exact cPlus _ _ _
        | exact flatEd _
        | exact setRow Ed.row (insE l j x) j (Ed.mk x.fr x.to (plusR x.cnt 1 m) x.errs)
        | exact setRow2 (insE l j x) j (Ed.mk x.fr x.to (plusR x.cnt 1 m) x.errs) (Ed.mk x.fr x.to (plusR x.cnt 1 m) (plusR x.errs 0 m))
        | exact getRow2 (insE l j x) j (Ed.mk x.fr x.to (plusR x.cnt 1 m) x.errs) hT
        | (simp; omega)
        | (simp [hx]; done)
        | exact insO' l x j (by omega) hs
        | (simp; done)
        | decide)

theorem cntC0 (l : List Ed) (x : Ed) (m : Int) (j : Nat) (hs : l.length ≤ 1000000000) (hf : idxI (pEq x) l = -1) (hg : idxI (pGt x) l = -1) (hj : j = l.length) (hx : (insE l j x)[j]? = some x) (hT : j < (insE l j x).length) : Contract Try.prog 15 [.own 0, x.v, Bo false, I m] [.arr 4 (l.map Ed.row)] (.own 1) [none, some (.arr 4 (((insE l j x).set j (Ed.mk x.fr x.to (plusR x.cnt 1 m) (plusR x.errs 0 m))).map Ed.row))] :=
  vcP hmix [.reg 1 [(2, [.call [1000] [] (I (idxI (pEq x) l)) [some (.box x.row)], .be (I (-1))], none)], .reg 3 [(2, [.call [1000] [] (I (idxI (pGt x) l)) [some (.box x.row)], .be (I (-1))], none)], .reg 5 [(1, [.be (I (j : Int))], none)], .reg 6 [(4, [.call [0, 1204000] [] (.own 2) [none, some (.arr 4 [x.row]), some (.arr 4 ((insE l j x).map Ed.row))]], none)], .reg 10 [(8, [.row (Ed.row x)], none), (10, [.call [] [] (I (plusR x.cnt 1 m)) []], none), (15, [.row (Ed.row x)], none), (18, [.call [] [] (I (plusR x.errs 0 m)) []], none), (21, [.row (Ed.row x), .beO (((insE l j x).set j (Ed.mk x.fr x.to (plusR x.cnt 1 m) x.errs)).map Ed.row)], none), (24, [.row (Ed.row (Ed.mk x.fr x.to (plusR x.cnt 1 m) x.errs)), .beO (((insE l j x).set j (Ed.mk x.fr x.to (plusR x.cnt 1 m) (plusR x.errs 0 m))).map Ed.row)], none)], .reg 11 [(0, [.idx 0], none)]] [2201000] [
      Contract Try.prog (18 : Nat) [V.sl (4 : Nat) (List.map Ed.row l), V.clo (Fn.func (19 : Nat)) [] [V.ptr (0 : Nat) (0 : Nat) (0 : Nat) (0 : Nat)]] [Obj.box [Sg (Ed.fr x), Sg (Ed.to x), I (Ed.cnt x), I (Ed.errs x)]] (I (idxI (pEq x) l)) [some (Obj.box (Ed.row x))],
      true = true,
      true = true,
      idxI (pEq x) l = (-1 : Int),
      Contract Try.prog (18 : Nat) [V.sl (4 : Nat) (List.map Ed.row l), V.clo (Fn.func (21 : Nat)) [] [V.ptr (0 : Nat) (0 : Nat) (0 : Nat) (0 : Nat)]] [Obj.box [Sg (Ed.fr x), Sg (Ed.to x), I (Ed.cnt x), I (Ed.errs x)]] (I (idxI (pGt x) l)) [some (Obj.box (Ed.row x))],
      true = true,
      true = true,
      idxI (pGt x) l = (-1 : Int),
      Int.ofNat (List.length (List.map Ed.row l)) = Int.ofNat j,
      Contract Try.prog (22 : Nat) [V.own (0 : Nat), I (Int.ofNat j), V.own (1 : Nat)] [Obj.arr (4 : Nat) (List.map Ed.row l), Obj.arr (4 : Nat) [[Sg (Ed.fr x), Sg (Ed.to x), I (Ed.cnt x), I (Ed.errs x)]]] (V.own (2 : Nat)) [none, some (Obj.arr (4 : Nat) [Ed.row x]), some (Obj.arr (4 : Nat) (List.map Ed.row (insE l j x)))],
      (0 : Int) ≤ Int.ofNat j,
      Int.ofNat j < Int.ofNat (List.length (List.map Ed.row (insE l j x))),
      (List.map Ed.row (insE l j x))[j]? = some (Ed.row x),
      Contract Try.prog (23 : Nat) [I (Ed.cnt x), I (1 : Int), I m] [] (I (plusR (Ed.cnt x) (1 : Int) m)) [],
      (0 : Int) ≤ Int.ofNat j,
      Int.ofNat j < Int.ofNat (List.length (List.map Ed.row (insE l j x))),
      (List.map Ed.row (insE l j x))[j]? = some (Ed.row x),
      Contract Try.prog (23 : Nat) [I (Ed.errs x), I (0 : Int), I m] [] (I (plusR (Ed.errs x) (0 : Int) m)) [],
      (0 : Int) ≤ Int.ofNat j,
      Int.ofNat j < Int.ofNat (List.length (List.map Ed.row (insE l j x))),
      (List.map Ed.row (insE l j x))[j]? = some (Ed.row x),
      List.set (List.map Ed.row (insE l j x)) j [Sg (Ed.fr x), Sg (Ed.to x), I (plusR (Ed.cnt x) (1 : Int) m), I (Ed.errs x)] = List.map Ed.row (List.set (insE l j x) j { fr := Ed.fr x, to := Ed.to x, cnt := plusR (Ed.cnt x) (1 : Int) m, errs := Ed.errs x }),
      (0 : Int) ≤ Int.ofNat j,
      Int.ofNat j < Int.ofNat (List.length (List.map Ed.row (List.set (insE l j x) j { fr := Ed.fr x, to := Ed.to x, cnt := plusR (Ed.cnt x) (1 : Int) m, errs := Ed.errs x }))),
      (List.map Ed.row (List.set (insE l j x) j { fr := Ed.fr x, to := Ed.to x, cnt := plusR (Ed.cnt x) (1 : Int) m, errs := Ed.errs x }))[j]? = some (Ed.row { fr := Ed.fr x, to := Ed.to x, cnt := plusR (Ed.cnt x) (1 : Int) m, errs := Ed.errs x }),
      List.set (List.map Ed.row (List.set (insE l j x) j { fr := Ed.fr x, to := Ed.to x, cnt := plusR (Ed.cnt x) (1 : Int) m, errs := Ed.errs x })) j [Sg (Ed.fr x), Sg (Ed.to x), I (plusR (Ed.cnt x) (1 : Int) m), I (plusR (Ed.errs x) (0 : Int) m)] = List.map Ed.row (List.set (insE l j x) j { fr := Ed.fr x, to := Ed.to x, cnt := plusR (Ed.cnt x) (1 : Int) m, errs := plusR (Ed.errs x) (0 : Int) m })] (by kernel_rfl)
    (by
      simp only [allP]
      and_intros <;> first
        | omega
        | with_reducible assumption
        | exact ixE l x (by omega)
        | exact ixG l x (by omega)
        | exact cPlus _ _ _
        | exact flatEd _
        | exact setRow Ed.row (insE l j x) j (Ed.mk x.fr x.to (plusR x.cnt 1 m) x.errs)
        | exact setRow2 (insE l j x) j (Ed.mk x.fr x.to (plusR x.cnt 1 m) x.errs) (Ed.mk x.fr x.to (plusR x.cnt 1 m) (plusR x.errs 0 m))
        | exact getRow2 (insE l j x) j (Ed.mk x.fr x.to (plusR x.cnt 1 m) x.errs) hT
        | (simp; omega)
        | (simp [hx]; done)
        | exact insO' l x j (by omega) hs
        | (simp; done)
        | decide)

theorem modify_set {α : Type} (f : α → α) (l : List α) (j : Nat) (x : α) (h : l[j]? = some x) : l.modify j f = l.set j (f x) := by
  apply List.ext_getElem?
  intro i
  rw [List.getElem?_modify, List.getElem?_set]
  by_cases e : j = i
  · subst e
    have h1 := (List.getElem?_eq_some_iff.1 h).1
    have h2 := (List.getElem?_eq_some_iff.1 h).2
    simp [h, h1, h2]
  · simp [e]
theorem insE_at {α : Type} (l : List α) (j : Nat) (x : α) (h : j ≤ l.length) : (insE l j x)[j]? = some x := by
  unfold insE
  rw [List.getElem?_append_right (by simp; omega)]
  simp [show min j l.length = j by omega]

theorem cCount (l : List Ed) (key : Ed) (err : Bool) (m : Int) (hs : l.length ≤ 1000000000) : Contract Try.prog 15 [.own 0, key.v, Bo err, I m] [.arr 4 (l.map Ed.row)] (.own 1) [none, some (.arr 4 ((countE l key err m).map Ed.row))] := by
  unfold countE
  cases hf : l.findIdx? (pEq key) with
  | some j =>
    have hi : idxI (pEq key) l = (j : Int) := by unfold idxI; rw [hf]
    have hlt := (List.findIdx?_eq_some_iff_getElem.1 hf).1
    have hx : l[j]? = some l[j] := List.getElem?_eq_getElem hlt
    simp only
    rw [modify_set _ l j l[j] hx]
    cases err with
    | true => exact cntA1 l key l[j] m j hs hi hx hlt
    | false => exact cntA0 l key l[j] m j hs hi hx hlt
  | none =>
    have hi : idxI (pEq key) l = -1 := by unfold idxI; rw [hf]
    simp only
    cases hg : l.findIdx? (pGt key) with
    | some j =>
      have hi2 : idxI (pGt key) l = (j : Int) := by unfold idxI; rw [hg]
      have hlt := (List.findIdx?_eq_some_iff_getElem.1 hg).1
      simp only [Option.getD_some]
      have hx := insE_at l j key (by omega)
      rw [modify_set _ _ j key hx]
      have hT : j < (insE l j key).length := by rw [insE_len]; omega
      cases err with
      | true => exact cntB1 l key m j hs hi hi2 (by omega) hx hT
      | false => exact cntB0 l key m j hs hi hi2 (by omega) hx hT
    | none =>
      have hi2 : idxI (pGt key) l = -1 := by unfold idxI; rw [hg]
      simp only [Option.getD_none]
      have hx := insE_at l l.length key (Nat.le_refl _)
      rw [modify_set _ _ _ key hx]
      have hT : l.length < (insE l l.length key).length := by rw [insE_len]; omega
      cases err with
      | true => exact cntC1 l key m l.length hs hi hi2 rfl hx hT
      | false => exact cntC0 l key m l.length hs hi hi2 rfl hx hT

theorem countE_len (l : List Ed) (key : Ed) (err : Bool) (m : Int) : (countE l key err m).length ≤ l.length + 1 := by
  unfold countE
  split
  · rw [List.length_modify]; omega
  · rw [List.length_modify, insE_len]; omega
theorem stepE_len (b : List Sp) (m : Int) (l : List Ed) (s : Sp) : (stepE b m l s).length ≤ l.length + 1 := by
  unfold stepE
  have := countE_len l (Ed.mk (callerS b s).1 s.svc 0 0) s.err m
  cases rightS s
  · simp only [cond_false]; omega
  · simp only [cond_true]
    cases (callerS b s).2
    · simp only [cond_false]; omega
    · simp only [cond_true]; exact this

theorem adWrong (b : List Sp) (m : Int) (l : List Ed) (s : Sp) (i : Nat) (h : i < b.length) (hx : b[i]? = some s) (hs : b.length ≤ 1000000000) (hl : l.length ≤ 1000000000) (ha : ∀ x ∈ b, x.attrs.length ≤ 1000000000) (has : s.attrs.length ≤ 1000000000) (h1 : rightS s = false) : CodeC Try.prog 0 40 adB (adS b m l i) .normal (adS b m l (i + 1)) :=
  runP hmix [.reg 3 [(0, [], some true)], .reg 4 [(1, [.row (Sp.row s)], none)], .reg 5 [(1, [.call [] [] (Bo (rightS s)) []], some false)], .reg 9 [(0, [.be (I ((i + 1 : Nat) : Int))], none)]] ⟨[0, 1, 2, 13, 14, 15], [(900, 900)], []⟩ [
      decide (Int.ofNat i < Int.ofNat (List.length b)) = true,
      (0 : Int) ≤ Int.ofNat i,
      Int.ofNat i < Int.ofNat (List.length (List.map Sp.row b)),
      (List.map Sp.row b)[i]? = some (Sp.row s),
      Contract Try.prog (13 : Nat) [V.agg [V.val (Value.int IntKind.u64 (Sp.hi s)), V.val (Value.int IntKind.u64 (Sp.lo s)), V.val (Value.int IntKind.u64 (Sp.id s)), V.val (Value.int IntKind.u64 (Sp.par s)), Sg (Sp.svc s), Sg (Sp.op s), I (Sp.start s), I (Sp.dur s), Bo (Sp.err s), V.sl (2 : Nat) (List.map At.row (Sp.attrs s))]] [] (Bo (rightS s)) [],
      rightS s = false,
      IntKind.wrap IntKind.i64 (Int.ofNat (i + (1 : Nat))) = Int.ofNat (i + (1 : Nat))] (by kernel_rfl)
    (by
      simp only [allP]
      and_intros <;> first
        | omega
        | with_reducible assumption
        | exact cRight s has
        | exact cCaller b s hs ha
        | exact cCount l (Ed.mk (callerS b s).1 s.svc 0 0) s.err m hl
        | (simp; omega)
        | (simp [hx]; done)
        | exact i64_small (by simp; omega)
        | (simp; done)
        | decide)

theorem adNoCall (b : List Sp) (m : Int) (l : List Ed) (s : Sp) (i : Nat) (h : i < b.length) (hx : b[i]? = some s) (hs : b.length ≤ 1000000000) (hl : l.length ≤ 1000000000) (ha : ∀ x ∈ b, x.attrs.length ≤ 1000000000) (has : s.attrs.length ≤ 1000000000) (h1 : rightS s = true) (h2 : (callerS b s).2 = false) : CodeC Try.prog 0 40 adB (adS b m l i) .normal (adS b m l (i + 1)) :=
  runP hmix [.reg 3 [(0, [], some true)], .reg 4 [(1, [.row (Sp.row s)], none)], .reg 5 [(1, [.call [] [] (Bo (rightS s)) []], some true)], .reg 6 [(2, [.call [] [] (.tup [Sg (callerS b s).1, Bo (callerS b s).2]) []], none), (5, [], some false)], .reg 9 [(0, [.be (I ((i + 1 : Nat) : Int))], none)]] ⟨[0, 1, 2, 13, 14, 15], [(900, 900)], []⟩ [
      decide (Int.ofNat i < Int.ofNat (List.length b)) = true,
      (0 : Int) ≤ Int.ofNat i,
      Int.ofNat i < Int.ofNat (List.length (List.map Sp.row b)),
      (List.map Sp.row b)[i]? = some (Sp.row s),
      Contract Try.prog (13 : Nat) [V.agg [V.val (Value.int IntKind.u64 (Sp.hi s)), V.val (Value.int IntKind.u64 (Sp.lo s)), V.val (Value.int IntKind.u64 (Sp.id s)), V.val (Value.int IntKind.u64 (Sp.par s)), Sg (Sp.svc s), Sg (Sp.op s), I (Sp.start s), I (Sp.dur s), Bo (Sp.err s), V.sl (2 : Nat) (List.map At.row (Sp.attrs s))]] [] (Bo (rightS s)) [],
      rightS s = true,
      Contract Try.prog (14 : Nat) [V.sl (10 : Nat) (List.map Sp.row b), V.agg [V.val (Value.int IntKind.u64 (Sp.hi s)), V.val (Value.int IntKind.u64 (Sp.lo s)), V.val (Value.int IntKind.u64 (Sp.id s)), V.val (Value.int IntKind.u64 (Sp.par s)), Sg (Sp.svc s), Sg (Sp.op s), I (Sp.start s), I (Sp.dur s), Bo (Sp.err s), V.sl (2 : Nat) (List.map At.row (Sp.attrs s))]] [] (V.tup [Sg (Prod.fst (callerS b s)), Bo (Prod.snd (callerS b s))]) [],
      Prod.snd (callerS b s) = false,
      IntKind.wrap IntKind.i64 (Int.ofNat (i + (1 : Nat))) = Int.ofNat (i + (1 : Nat))] (by kernel_rfl)
    (by
      simp only [allP]
      and_intros <;> first
        | omega
        | with_reducible assumption
        | exact cRight s has
        | exact cCaller b s hs ha
        | exact cCount l (Ed.mk (callerS b s).1 s.svc 0 0) s.err m hl
        | (simp; omega)
        | (simp [hx]; done)
        | exact i64_small (by simp; omega)
        | (simp; done)
        | decide)

theorem adCall (b : List Sp) (m : Int) (l : List Ed) (s : Sp) (i : Nat) (h : i < b.length) (hx : b[i]? = some s) (hs : b.length ≤ 1000000000) (hl : l.length ≤ 1000000000) (ha : ∀ x ∈ b, x.attrs.length ≤ 1000000000) (has : s.attrs.length ≤ 1000000000) (h1 : rightS s = true) (h2 : (callerS b s).2 = true) : CodeC Try.prog 0 40 adB (adS b m l i) .normal (adS b m (countE l (Ed.mk (callerS b s).1 s.svc 0 0) s.err m) (i + 1)) :=
  runP hmix [.reg 3 [(0, [], some true)], .reg 4 [(1, [.row (Sp.row s)], none)], .reg 5 [(1, [.call [] [] (Bo (rightS s)) []], some true)], .reg 6 [(2, [.call [] [] (.tup [Sg (callerS b s).1, Bo (callerS b s).2]) []], none), (5, [], some true)], .reg 8 [(8, [.call [900] [] (.own 1) [none, some (.arr 4 ((countE l (Ed.mk (callerS b s).1 s.svc 0 0) s.err m).map Ed.row))]], none)], .reg 9 [(0, [.be (I ((i + 1 : Nat) : Int))], none)]] ⟨[0, 1, 2, 13, 14, 15], [(1609001, 900)], []⟩ [
      decide (Int.ofNat i < Int.ofNat (List.length b)) = true,
      (0 : Int) ≤ Int.ofNat i,
      Int.ofNat i < Int.ofNat (List.length (List.map Sp.row b)),
      (List.map Sp.row b)[i]? = some (Sp.row s),
      Contract Try.prog (13 : Nat) [V.agg [V.val (Value.int IntKind.u64 (Sp.hi s)), V.val (Value.int IntKind.u64 (Sp.lo s)), V.val (Value.int IntKind.u64 (Sp.id s)), V.val (Value.int IntKind.u64 (Sp.par s)), Sg (Sp.svc s), Sg (Sp.op s), I (Sp.start s), I (Sp.dur s), Bo (Sp.err s), V.sl (2 : Nat) (List.map At.row (Sp.attrs s))]] [] (Bo (rightS s)) [],
      rightS s = true,
      Contract Try.prog (14 : Nat) [V.sl (10 : Nat) (List.map Sp.row b), V.agg [V.val (Value.int IntKind.u64 (Sp.hi s)), V.val (Value.int IntKind.u64 (Sp.lo s)), V.val (Value.int IntKind.u64 (Sp.id s)), V.val (Value.int IntKind.u64 (Sp.par s)), Sg (Sp.svc s), Sg (Sp.op s), I (Sp.start s), I (Sp.dur s), Bo (Sp.err s), V.sl (2 : Nat) (List.map At.row (Sp.attrs s))]] [] (V.tup [Sg (Prod.fst (callerS b s)), Bo (Prod.snd (callerS b s))]) [],
      Prod.snd (callerS b s) = true,
      Contract Try.prog (15 : Nat) [V.own (0 : Nat), V.agg [Sg (Prod.fst (callerS b s)), Sg (Sp.svc s), I (0 : Int), I (0 : Int)], Bo (Sp.err s), I m] [Obj.arr (4 : Nat) (List.map Ed.row l)] (V.own (1 : Nat)) [none, some (Obj.arr (4 : Nat) (List.map Ed.row (countE l { fr := Prod.fst (callerS b s), to := Sp.svc s, cnt := (0 : Int), errs := (0 : Int) } (Sp.err s) m)))],
      IntKind.wrap IntKind.i64 (Int.ofNat (i + (1 : Nat))) = Int.ofNat (i + (1 : Nat))] (by kernel_rfl)
    (by
      simp only [allP]
      and_intros <;> first
        | omega
        | with_reducible assumption
        | exact cRight s has
        | exact cCaller b s hs ha
        | exact cCount l (Ed.mk (callerS b s).1 s.svc 0 0) s.err m hl
        | (simp; omega)
        | (simp [hx]; done)
        | exact i64_small (by simp; omega)
        | (simp; done)
        | decide)

theorem adEnd (b : List Sp) (m : Int) (l : List Ed) (i : Nat) (h : b.length ≤ i) : CodeC Try.prog 0 40 adB (adS b m l i) (.exit 0) (adS b m l i) :=
  runP hmix [.reg 3 [(0, [], some false)]] ⟨[0, 1, 2, 13, 14, 15], [(900, 900)], []⟩ [
      decide (Int.ofNat i < Int.ofNat (List.length b)) = false] (by kernel_rfl)
    (by
      simp only [allP]
      and_intros <;> first
        | omega
        | with_reducible assumption
        | (simp; omega)
        | (simp; done)
        | decide)

theorem adLoop (b : List Sp) (m : Int) (l : List Ed) (hb : l.length + b.length ≤ 1000000000) (ha : ∀ x ∈ b, x.attrs.length ≤ 1000000000) : LoopC Try.prog 0 40 adB (adS b m l 0) (.exit 0) (adS b m (b.foldl (stepE b m) l) b.length) :=
  LoopC.fold (P := Try.prog) (k := 0) (n := 40) (c := adB) b (stepE b m) (fun i s => s.length ≤ l.length + i) (fun s i => adS b m s i) (e := .exit 0) (by simp)
    (fun i t s hx hi h => by
      have h : t.length ≤ l.length + i := h
      have h3 := stepE_len b m t s
      have hs : b.length ≤ 1000000000 := by omega
      have hl : t.length ≤ 1000000000 := by omega
      have has := ha s (List.mem_of_getElem? hx)
      refine ⟨?_, (by omega : (stepE b m t s).length ≤ l.length + (i + 1))⟩
      unfold stepE
      cases h1 : rightS s with
      | false => exact adWrong b m t s i hi hx hs hl ha has h1
      | true =>
        cases h2 : (callerS b s).2 with
        | false => exact adNoCall b m t s i hi hx hs hl ha has h1 h2
        | true => exact adCall b m t s i hi hx hs hl ha has h1 h2)
    (fun s h => adEnd b m s _ (Nat.le_refl _)) l (by omega)

def addE (l : List Ed) (b : List Sp) (m : Int) : List Ed := b.foldl (stepE b m) l
theorem addE_len (l : List Ed) (b : List Sp) (m : Int) : (addE l b m).length ≤ l.length + b.length := by
  have := foldl_inv (stepE b m) (fun i s => s.length ≤ l.length + i) b 0 l (by omega) (fun i s x _ h => by have := stepE_len b m s x; have h : s.length ≤ l.length + i := h; show _ ≤ _; omega)
  simpa [addE] using this

theorem cAdd (l : List Ed) (b : List Sp) (m : Int) (hb : l.length + b.length ≤ 1000000000) (ha : ∀ x ∈ b, x.attrs.length ≤ 1000000000) : Contract Try.prog 8 [.sl 4 (l.map Ed.row), .sl 10 (b.map Sp.row), I m] [] (.own 0) [some (.arr 4 ((addE l b m).map Ed.row))] :=
  vcP hmix [.reg 1 [(1, [.call [] [] (.own 0) [some (.arr 4 (l.map Ed.row))]], none)], .reg 2 [(1, [.be (I (b.length : Int))], none)], .cut ⟨[0, 1, 2, 13, 14, 15], [(202001, 900)], []⟩ (.exit 0) (adS b m (addE l b m) b.length)] [900] [
      Contract Try.prog (12 : Nat) [V.sl (4 : Nat) (List.map Ed.row l)] [] (V.own (0 : Nat)) [some (Obj.arr (4 : Nat) (List.map Ed.row l))],
      Int.ofNat (List.length (List.map Sp.row b)) = Int.ofNat (List.length b),
      LoopC Try.prog (0 : Nat) (40 : Nat) adB { env := [((0 : Nat), V.own (900 : Nat)), ((1 : Nat), V.sl (10 : Nat) (List.map Sp.row b)), ((2 : Nat), I m), ((13 : Nat), V.sl (10 : Nat) (List.map Sp.row b)), ((14 : Nat), I (Int.ofNat (List.length b))), ((15 : Nat), I (0 : Int))], st := [((900 : Nat), Obj.arr (4 : Nat) (List.map Ed.row l))], ids := [(900 : Nat)] } (Ex.exit (0 : Nat)) { env := [((0 : Nat), V.own (900 : Nat)), ((1 : Nat), V.sl (10 : Nat) (List.map Sp.row b)), ((2 : Nat), I m), ((13 : Nat), V.sl (10 : Nat) (List.map Sp.row b)), ((14 : Nat), I (Int.ofNat (List.length b))), ((15 : Nat), I (Int.ofNat (List.length b)))], st := [((900 : Nat), Obj.arr (4 : Nat) (List.map Ed.row (addE l b m)))], ids := [(900 : Nat)] }] (by kernel_rfl)
    (by
      simp only [allP]
      and_intros <;> first
        | omega
        | with_reducible assumption
        | exact cln _ (by rw [List.length_map]; omega)
        | exact adLoop b m l hb ha
        | (simp; done)
        | (simp; done)
        | decide)

end Go.Proofs.Ytieffigehkjifaa
