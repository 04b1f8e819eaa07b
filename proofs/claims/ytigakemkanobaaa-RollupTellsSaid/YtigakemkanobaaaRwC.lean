/- rollup: spans are counted. -/
import Derived.Test.YtigakemkanobaaaRwB
namespace Go.Proofs.Ytigakemkanobaaa
open E
set_option maxRecDepth 100000
set_option linter.unusedVariables false
set_option linter.unusedSimpArgs false


def insE {α : Type} (l : List α) (i : Nat) (e : α) : List α := l.take i ++ e :: l.drop i
/-- A counter, a span more. -/
def cntF (x : Nat → Int) (s : Sp) (m : Int) : Nat → Int := addC (addC (fun _ => 0) x m) (oneF (ofR s.dur) s.err) m
def bumpR (s : Sp) (m : Int) (r : Rw) : Rw := ⟨r.lev, r.win, r.svc, r.op, cntF r.c s m⟩
/-- A span counted in the row of a key. -/
def countR (l : List Rw) (key : Rw) (s : Sp) (m : Int) : List Rw := match l.findIdx? (pEqR key) with
  | some j => l.modify j (bumpR s m)
  | none => (insE l ((l.findIdx? (pGtR key)).getD l.length) key).modify ((l.findIdx? (pGtR key)).getD l.length) (bumpR s m)
def keyR (s : Sp) (v : Int) : Rw := ⟨v, winW v s.start, s.svc, s.op, fun _ => 0⟩
def addR (l : List Rw) (s : Sp) (m : Int) : List Rw := bif rightS s then countR (countR (countR l (keyR s 0) s m) (keyR s 1) s m) (keyR s 2) s m else l
def FWinW : List V → Option V
  | [.val (.int _ v), .val (.int _ s)] => some (I (winW v s))
  | _ => none

theorem insE_len {α : Type} (l : List α) (i : Nat) (e : α) : (insE l i e).length = l.length + 1 := by
  simp [insE]; omega
theorem insO' (l : List Rw) (e : Rw) (k : Nat) (hk : k ≤ l.length) (hb : l.length ≤ 1000000000) : Contract Try.prog 46 [.own 0, I (k : Int), .own 1] [.arr 14 (l.map Rw.row), .arr 14 [e.row]] (.own 2) [none, some (.arr 14 [e.row]), some (.arr 14 ((insE l k e).map Rw.row))] := by
  have h := insO (l.map Rw.row) e.row k (by simpa using hk) (by rw [List.length_map]; omega)
  rw [show (insE l k e).map Rw.row = (l.map Rw.row).take k ++ e.row :: (l.map Rw.row).drop k by simp [insE, List.map_take, List.map_drop]]
  exact h

theorem cntA_0 (l : List Rw) (key x : Rw) (s : Sp) (m : Int) (j : Nat) (hs : l.length ≤ 1000000000) (hf : idxI (pEqR key) l = (j : Int)) (hx : l[j]? = some x) (hT : j < l.length) : Contract Try.prog 32 [.own 0, key.v, s.v, I m] [.arr 14 (l.map Rw.row)] (V.own (1 : Nat)) ([none, some (Obj.arr (14 : Nat) (List.map Rw.row (List.set l j { lev := Rw.lev x, win := Rw.win x, svc := Rw.svc x, op := Rw.op x, c := cntF (Rw.c x) s m })))]) :=
  vcP hmix [.reg 1 [(2, [.call [1000] [] (I (idxI (pEqR key) l)) [some (.box key.row)], .be (I (j : Int))], none)], .reg 2 [(1, [], some false)], .reg 8 [(5, [.row (Rw.row x)], none), (7, [.call [1402000] [] (.tup []) [some (.box (c10 (addC (fun _ => 0) x.c m)))]], none)], .reg 9 [(2, [.call [] [] (.agg (c10 (oneF (ofR s.dur) s.err))) []], none), (4, [.call [1402000] [] (.tup []) [some (.box (c10 (cntF x.c s m)))]], none)], .reg 10 [(3, [.call [1402000] [] (.agg (c10 (cntF x.c s m))) [some (.box (c10 (cntF x.c s m)))]], none), (6, [.row (Rw.row x), .beO ((l.set j (bumpR s m x)).map Rw.row)], none)], .reg 11 [(0, [.idx 0], none)]] [2201000] [
      Contract Try.prog (42 : Nat) [V.sl (14 : Nat) (List.map Rw.row l), V.clo (Fn.func (43 : Nat)) [] [V.ptr (0 : Nat) (0 : Nat) (0 : Nat) (0 : Nat)]] [Obj.box [I (Rw.lev key), I (Rw.win key), Sg (Rw.svc key), Sg (Rw.op key), I (Rw.c key (0 : Nat)), I (Rw.c key (1 : Nat)), I (Rw.c key (2 : Nat)), I (Rw.c key (3 : Nat)), I (Rw.c key (4 : Nat)), I (Rw.c key (5 : Nat)), I (Rw.c key (6 : Nat)), I (Rw.c key (7 : Nat)), I (Rw.c key (8 : Nat)), I (Rw.c key (9 : Nat))]] (I (idxI (pEqR key) l)) [some (Obj.box (Rw.row key))],
      true = true,
      true = true,
      idxI (pEqR key) l = Int.ofNat j,
      false = false,
      (0 : Int) ≤ Int.ofNat j,
      Int.ofNat j < Int.ofNat (List.length (List.map Rw.row l)),
      (List.map Rw.row l)[j]? = some (Rw.row x),
      Contract Try.prog (47 : Nat) [V.ptr (0 : Nat) (0 : Nat) (0 : Nat) (0 : Nat), V.agg [I (Rw.c x (0 : Nat)), I (Rw.c x (1 : Nat)), I (Rw.c x (2 : Nat)), I (Rw.c x (3 : Nat)), I (Rw.c x (4 : Nat)), I (Rw.c x (5 : Nat)), I (Rw.c x (6 : Nat)), I (Rw.c x (7 : Nat)), I (Rw.c x (8 : Nat)), I (Rw.c x (9 : Nat))], I m] [Obj.box [I (0 : Int), I (0 : Int), I (0 : Int), I (0 : Int), I (0 : Int), I (0 : Int), I (0 : Int), I (0 : Int), I (0 : Int), I (0 : Int)]] (V.tup []) [some (Obj.box [I (addC (fun x0 => (0 : Int)) (Rw.c x) m (0 : Nat)), I (addC (fun x0 => (0 : Int)) (Rw.c x) m (1 : Nat)), I (addC (fun x0 => (0 : Int)) (Rw.c x) m (2 : Nat)), I (addC (fun x0 => (0 : Int)) (Rw.c x) m (3 : Nat)), I (addC (fun x0 => (0 : Int)) (Rw.c x) m (4 : Nat)), I (addC (fun x0 => (0 : Int)) (Rw.c x) m (5 : Nat)), I (addC (fun x0 => (0 : Int)) (Rw.c x) m (6 : Nat)), I (addC (fun x0 => (0 : Int)) (Rw.c x) m (7 : Nat)), I (addC (fun x0 => (0 : Int)) (Rw.c x) m (8 : Nat)), I (addC (fun x0 => (0 : Int)) (Rw.c x) m (9 : Nat))])],
      Contract Try.prog (48 : Nat) [V.agg [V.val (Value.int IntKind.u64 (Sp.hi s)), V.val (Value.int IntKind.u64 (Sp.lo s)), V.val (Value.int IntKind.u64 (Sp.id s)), V.val (Value.int IntKind.u64 (Sp.par s)), Sg (Sp.svc s), Sg (Sp.op s), I (Sp.start s), I (Sp.dur s), Bo (Sp.err s), V.sl (2 : Nat) (List.map At.row (Sp.attrs s))]] [] (V.agg [I (oneF (ofR (Sp.dur s)) (Sp.err s) (0 : Nat)), I (oneF (ofR (Sp.dur s)) (Sp.err s) (1 : Nat)), I (oneF (ofR (Sp.dur s)) (Sp.err s) (2 : Nat)), I (oneF (ofR (Sp.dur s)) (Sp.err s) (3 : Nat)), I (oneF (ofR (Sp.dur s)) (Sp.err s) (4 : Nat)), I (oneF (ofR (Sp.dur s)) (Sp.err s) (5 : Nat)), I (oneF (ofR (Sp.dur s)) (Sp.err s) (6 : Nat)), I (oneF (ofR (Sp.dur s)) (Sp.err s) (7 : Nat)), I (oneF (ofR (Sp.dur s)) (Sp.err s) (8 : Nat)), I (oneF (ofR (Sp.dur s)) (Sp.err s) (9 : Nat))]) [],
      Contract Try.prog (47 : Nat) [V.ptr (0 : Nat) (0 : Nat) (0 : Nat) (0 : Nat), V.agg [I (oneF (ofR (Sp.dur s)) (Sp.err s) (0 : Nat)), I (oneF (ofR (Sp.dur s)) (Sp.err s) (1 : Nat)), I (oneF (ofR (Sp.dur s)) (Sp.err s) (2 : Nat)), I (oneF (ofR (Sp.dur s)) (Sp.err s) (3 : Nat)), I (oneF (ofR (Sp.dur s)) (Sp.err s) (4 : Nat)), I (oneF (ofR (Sp.dur s)) (Sp.err s) (5 : Nat)), I (oneF (ofR (Sp.dur s)) (Sp.err s) (6 : Nat)), I (oneF (ofR (Sp.dur s)) (Sp.err s) (7 : Nat)), I (oneF (ofR (Sp.dur s)) (Sp.err s) (8 : Nat)), I (oneF (ofR (Sp.dur s)) (Sp.err s) (9 : Nat))], I m] [Obj.box [I (addC (fun x0 => (0 : Int)) (Rw.c x) m (0 : Nat)), I (addC (fun x0 => (0 : Int)) (Rw.c x) m (1 : Nat)), I (addC (fun x0 => (0 : Int)) (Rw.c x) m (2 : Nat)), I (addC (fun x0 => (0 : Int)) (Rw.c x) m (3 : Nat)), I (addC (fun x0 => (0 : Int)) (Rw.c x) m (4 : Nat)), I (addC (fun x0 => (0 : Int)) (Rw.c x) m (5 : Nat)), I (addC (fun x0 => (0 : Int)) (Rw.c x) m (6 : Nat)), I (addC (fun x0 => (0 : Int)) (Rw.c x) m (7 : Nat)), I (addC (fun x0 => (0 : Int)) (Rw.c x) m (8 : Nat)), I (addC (fun x0 => (0 : Int)) (Rw.c x) m (9 : Nat))]] (V.tup []) [some (Obj.box [I (cntF (Rw.c x) s m (0 : Nat)), I (cntF (Rw.c x) s m (1 : Nat)), I (cntF (Rw.c x) s m (2 : Nat)), I (cntF (Rw.c x) s m (3 : Nat)), I (cntF (Rw.c x) s m (4 : Nat)), I (cntF (Rw.c x) s m (5 : Nat)), I (cntF (Rw.c x) s m (6 : Nat)), I (cntF (Rw.c x) s m (7 : Nat)), I (cntF (Rw.c x) s m (8 : Nat)), I (cntF (Rw.c x) s m (9 : Nat))])],
      Contract Try.prog (49 : Nat) [V.ptr (0 : Nat) (0 : Nat) (0 : Nat) (0 : Nat)] [Obj.box [I (cntF (Rw.c x) s m (0 : Nat)), I (cntF (Rw.c x) s m (1 : Nat)), I (cntF (Rw.c x) s m (2 : Nat)), I (cntF (Rw.c x) s m (3 : Nat)), I (cntF (Rw.c x) s m (4 : Nat)), I (cntF (Rw.c x) s m (5 : Nat)), I (cntF (Rw.c x) s m (6 : Nat)), I (cntF (Rw.c x) s m (7 : Nat)), I (cntF (Rw.c x) s m (8 : Nat)), I (cntF (Rw.c x) s m (9 : Nat))]] (V.agg [I (cntF (Rw.c x) s m (0 : Nat)), I (cntF (Rw.c x) s m (1 : Nat)), I (cntF (Rw.c x) s m (2 : Nat)), I (cntF (Rw.c x) s m (3 : Nat)), I (cntF (Rw.c x) s m (4 : Nat)), I (cntF (Rw.c x) s m (5 : Nat)), I (cntF (Rw.c x) s m (6 : Nat)), I (cntF (Rw.c x) s m (7 : Nat)), I (cntF (Rw.c x) s m (8 : Nat)), I (cntF (Rw.c x) s m (9 : Nat))]) [some (Obj.box [I (cntF (Rw.c x) s m (0 : Nat)), I (cntF (Rw.c x) s m (1 : Nat)), I (cntF (Rw.c x) s m (2 : Nat)), I (cntF (Rw.c x) s m (3 : Nat)), I (cntF (Rw.c x) s m (4 : Nat)), I (cntF (Rw.c x) s m (5 : Nat)), I (cntF (Rw.c x) s m (6 : Nat)), I (cntF (Rw.c x) s m (7 : Nat)), I (cntF (Rw.c x) s m (8 : Nat)), I (cntF (Rw.c x) s m (9 : Nat))])],
      (0 : Int) ≤ Int.ofNat j,
      Int.ofNat j < Int.ofNat (List.length (List.map Rw.row l)),
      (List.map Rw.row l)[j]? = some (Rw.row x),
      List.set (List.map Rw.row l) j [I (Rw.lev x), I (Rw.win x), Sg (Rw.svc x), Sg (Rw.op x), I (cntF (Rw.c x) s m (0 : Nat)), I (cntF (Rw.c x) s m (1 : Nat)), I (cntF (Rw.c x) s m (2 : Nat)), I (cntF (Rw.c x) s m (3 : Nat)), I (cntF (Rw.c x) s m (4 : Nat)), I (cntF (Rw.c x) s m (5 : Nat)), I (cntF (Rw.c x) s m (6 : Nat)), I (cntF (Rw.c x) s m (7 : Nat)), I (cntF (Rw.c x) s m (8 : Nat)), I (cntF (Rw.c x) s m (9 : Nat))] = List.map Rw.row (List.set l j { lev := Rw.lev x, win := Rw.win x, svc := Rw.svc x, op := Rw.op x, c := cntF (Rw.c x) s m })] (by kernel_rfl)
    (by
      simp only [allP]
      and_intros <;> first
        | omega
        | exact ixE l key (by omega)
        | exact cCAdd (fun _ => 0) x.c m
        | exact cCAdd (addC (fun _ => 0) x.c m) (oneF (ofR s.dur) s.err) m
        | exact cCLoad (cntF x.c s m)
        | exact cOne s
        | exact setRow Rw.row l j (bumpR s m x)
        | (simp; omega)
        | (simp [hx]; done))

theorem cntA (l : List Rw) (key x : Rw) (s : Sp) (m : Int) (j : Nat) (hs : l.length ≤ 1000000000) (hf : idxI (pEqR key) l = (j : Int)) (hx : l[j]? = some x) (hT : j < l.length) : Contract Try.prog 32 [.own 0, key.v, s.v, I m] [.arr 14 (l.map Rw.row)] (.own 1) [none, some (.arr 14 ((l.set j (bumpR s m x)).map Rw.row))] := by
  exact Contract.cast (by
    first
      | rfl) (by
    first
      | rfl) (cntA_0 l key x s m j hs hf hx hT )

theorem cntB_0 (l : List Rw) (x : Rw) (s : Sp) (m : Int) (j : Nat) (hs : l.length ≤ 1000000000) (hf : idxI (pEqR x) l = -1) (hg : idxI (pGtR x) l = (j : Int)) (hj : j ≤ l.length) (hx : (insE l j x)[j]? = some x) (hT : j < (insE l j x).length) : Contract Try.prog 32 [.own 0, x.v, s.v, I m] [.arr 14 (l.map Rw.row)] (V.own (1 : Nat)) ([none, some (Obj.arr (14 : Nat) (List.map Rw.row (List.set (insE l j x) j { lev := Rw.lev x, win := Rw.win x, svc := Rw.svc x, op := Rw.op x, c := cntF (Rw.c x) s m })))]) :=
  vcP hmix [.reg 1 [(2, [.call [1000] [] (I (idxI (pEqR x) l)) [some (.box x.row)], .be (I (-1))], none)], .reg 2 [(1, [], some true)], .reg 3 [(2, [.call [1000] [] (I (idxI (pGtR x) l)) [some (.box x.row)], .be (I (j : Int))], none)], .reg 4 [(1, [], some false)], .reg 6 [(4, [.call [0, 1204000] [] (.own 2) [none, some (.arr 14 [x.row]), some (.arr 14 ((insE l j x).map Rw.row))]], none)], .reg 8 [(5, [.row (Rw.row x)], none), (7, [.call [1402000] [] (.tup []) [some (.box (c10 (addC (fun _ => 0) x.c m)))]], none)], .reg 9 [(2, [.call [] [] (.agg (c10 (oneF (ofR s.dur) s.err))) []], none), (4, [.call [1402000] [] (.tup []) [some (.box (c10 (cntF x.c s m)))]], none)], .reg 10 [(3, [.call [1402000] [] (.agg (c10 (cntF x.c s m))) [some (.box (c10 (cntF x.c s m)))]], none), (6, [.row (Rw.row x), .beO (((insE l j x).set j (bumpR s m x)).map Rw.row)], none)], .reg 11 [(0, [.idx 0], none)]] [2201000] [
      Contract Try.prog (42 : Nat) [V.sl (14 : Nat) (List.map Rw.row l), V.clo (Fn.func (43 : Nat)) [] [V.ptr (0 : Nat) (0 : Nat) (0 : Nat) (0 : Nat)]] [Obj.box [I (Rw.lev x), I (Rw.win x), Sg (Rw.svc x), Sg (Rw.op x), I (Rw.c x (0 : Nat)), I (Rw.c x (1 : Nat)), I (Rw.c x (2 : Nat)), I (Rw.c x (3 : Nat)), I (Rw.c x (4 : Nat)), I (Rw.c x (5 : Nat)), I (Rw.c x (6 : Nat)), I (Rw.c x (7 : Nat)), I (Rw.c x (8 : Nat)), I (Rw.c x (9 : Nat))]] (I (idxI (pEqR x) l)) [some (Obj.box (Rw.row x))],
      true = true,
      true = true,
      idxI (pEqR x) l = (-1 : Int),
      true = true,
      Contract Try.prog (42 : Nat) [V.sl (14 : Nat) (List.map Rw.row l), V.clo (Fn.func (45 : Nat)) [] [V.ptr (0 : Nat) (0 : Nat) (0 : Nat) (0 : Nat)]] [Obj.box [I (Rw.lev x), I (Rw.win x), Sg (Rw.svc x), Sg (Rw.op x), I (Rw.c x (0 : Nat)), I (Rw.c x (1 : Nat)), I (Rw.c x (2 : Nat)), I (Rw.c x (3 : Nat)), I (Rw.c x (4 : Nat)), I (Rw.c x (5 : Nat)), I (Rw.c x (6 : Nat)), I (Rw.c x (7 : Nat)), I (Rw.c x (8 : Nat)), I (Rw.c x (9 : Nat))]] (I (idxI (pGtR x) l)) [some (Obj.box (Rw.row x))],
      true = true,
      true = true,
      idxI (pGtR x) l = Int.ofNat j,
      false = false,
      Contract Try.prog (46 : Nat) [V.own (0 : Nat), I (Int.ofNat j), V.own (1 : Nat)] [Obj.arr (14 : Nat) (List.map Rw.row l), Obj.arr (14 : Nat) [[I (Rw.lev x), I (Rw.win x), Sg (Rw.svc x), Sg (Rw.op x), I (Rw.c x (0 : Nat)), I (Rw.c x (1 : Nat)), I (Rw.c x (2 : Nat)), I (Rw.c x (3 : Nat)), I (Rw.c x (4 : Nat)), I (Rw.c x (5 : Nat)), I (Rw.c x (6 : Nat)), I (Rw.c x (7 : Nat)), I (Rw.c x (8 : Nat)), I (Rw.c x (9 : Nat))]]] (V.own (2 : Nat)) [none, some (Obj.arr (14 : Nat) [Rw.row x]), some (Obj.arr (14 : Nat) (List.map Rw.row (insE l j x)))],
      (0 : Int) ≤ Int.ofNat j,
      Int.ofNat j < Int.ofNat (List.length (List.map Rw.row (insE l j x))),
      (List.map Rw.row (insE l j x))[j]? = some (Rw.row x),
      Contract Try.prog (47 : Nat) [V.ptr (0 : Nat) (0 : Nat) (0 : Nat) (0 : Nat), V.agg [I (Rw.c x (0 : Nat)), I (Rw.c x (1 : Nat)), I (Rw.c x (2 : Nat)), I (Rw.c x (3 : Nat)), I (Rw.c x (4 : Nat)), I (Rw.c x (5 : Nat)), I (Rw.c x (6 : Nat)), I (Rw.c x (7 : Nat)), I (Rw.c x (8 : Nat)), I (Rw.c x (9 : Nat))], I m] [Obj.box [I (0 : Int), I (0 : Int), I (0 : Int), I (0 : Int), I (0 : Int), I (0 : Int), I (0 : Int), I (0 : Int), I (0 : Int), I (0 : Int)]] (V.tup []) [some (Obj.box [I (addC (fun x0 => (0 : Int)) (Rw.c x) m (0 : Nat)), I (addC (fun x0 => (0 : Int)) (Rw.c x) m (1 : Nat)), I (addC (fun x0 => (0 : Int)) (Rw.c x) m (2 : Nat)), I (addC (fun x0 => (0 : Int)) (Rw.c x) m (3 : Nat)), I (addC (fun x0 => (0 : Int)) (Rw.c x) m (4 : Nat)), I (addC (fun x0 => (0 : Int)) (Rw.c x) m (5 : Nat)), I (addC (fun x0 => (0 : Int)) (Rw.c x) m (6 : Nat)), I (addC (fun x0 => (0 : Int)) (Rw.c x) m (7 : Nat)), I (addC (fun x0 => (0 : Int)) (Rw.c x) m (8 : Nat)), I (addC (fun x0 => (0 : Int)) (Rw.c x) m (9 : Nat))])],
      Contract Try.prog (48 : Nat) [V.agg [V.val (Value.int IntKind.u64 (Sp.hi s)), V.val (Value.int IntKind.u64 (Sp.lo s)), V.val (Value.int IntKind.u64 (Sp.id s)), V.val (Value.int IntKind.u64 (Sp.par s)), Sg (Sp.svc s), Sg (Sp.op s), I (Sp.start s), I (Sp.dur s), Bo (Sp.err s), V.sl (2 : Nat) (List.map At.row (Sp.attrs s))]] [] (V.agg [I (oneF (ofR (Sp.dur s)) (Sp.err s) (0 : Nat)), I (oneF (ofR (Sp.dur s)) (Sp.err s) (1 : Nat)), I (oneF (ofR (Sp.dur s)) (Sp.err s) (2 : Nat)), I (oneF (ofR (Sp.dur s)) (Sp.err s) (3 : Nat)), I (oneF (ofR (Sp.dur s)) (Sp.err s) (4 : Nat)), I (oneF (ofR (Sp.dur s)) (Sp.err s) (5 : Nat)), I (oneF (ofR (Sp.dur s)) (Sp.err s) (6 : Nat)), I (oneF (ofR (Sp.dur s)) (Sp.err s) (7 : Nat)), I (oneF (ofR (Sp.dur s)) (Sp.err s) (8 : Nat)), I (oneF (ofR (Sp.dur s)) (Sp.err s) (9 : Nat))]) [],
      Contract Try.prog (47 : Nat) [V.ptr (0 : Nat) (0 : Nat) (0 : Nat) (0 : Nat), V.agg [I (oneF (ofR (Sp.dur s)) (Sp.err s) (0 : Nat)), I (oneF (ofR (Sp.dur s)) (Sp.err s) (1 : Nat)), I (oneF (ofR (Sp.dur s)) (Sp.err s) (2 : Nat)), I (oneF (ofR (Sp.dur s)) (Sp.err s) (3 : Nat)), I (oneF (ofR (Sp.dur s)) (Sp.err s) (4 : Nat)), I (oneF (ofR (Sp.dur s)) (Sp.err s) (5 : Nat)), I (oneF (ofR (Sp.dur s)) (Sp.err s) (6 : Nat)), I (oneF (ofR (Sp.dur s)) (Sp.err s) (7 : Nat)), I (oneF (ofR (Sp.dur s)) (Sp.err s) (8 : Nat)), I (oneF (ofR (Sp.dur s)) (Sp.err s) (9 : Nat))], I m] [Obj.box [I (addC (fun x0 => (0 : Int)) (Rw.c x) m (0 : Nat)), I (addC (fun x0 => (0 : Int)) (Rw.c x) m (1 : Nat)), I (addC (fun x0 => (0 : Int)) (Rw.c x) m (2 : Nat)), I (addC (fun x0 => (0 : Int)) (Rw.c x) m (3 : Nat)), I (addC (fun x0 => (0 : Int)) (Rw.c x) m (4 : Nat)), I (addC (fun x0 => (0 : Int)) (Rw.c x) m (5 : Nat)), I (addC (fun x0 => (0 : Int)) (Rw.c x) m (6 : Nat)), I (addC (fun x0 => (0 : Int)) (Rw.c x) m (7 : Nat)), I (addC (fun x0 => (0 : Int)) (Rw.c x) m (8 : Nat)), I (addC (fun x0 => (0 : Int)) (Rw.c x) m (9 : Nat))]] (V.tup []) [some (Obj.box [I (cntF (Rw.c x) s m (0 : Nat)), I (cntF (Rw.c x) s m (1 : Nat)), I (cntF (Rw.c x) s m (2 : Nat)), I (cntF (Rw.c x) s m (3 : Nat)), I (cntF (Rw.c x) s m (4 : Nat)), I (cntF (Rw.c x) s m (5 : Nat)), I (cntF (Rw.c x) s m (6 : Nat)), I (cntF (Rw.c x) s m (7 : Nat)), I (cntF (Rw.c x) s m (8 : Nat)), I (cntF (Rw.c x) s m (9 : Nat))])],
      Contract Try.prog (49 : Nat) [V.ptr (0 : Nat) (0 : Nat) (0 : Nat) (0 : Nat)] [Obj.box [I (cntF (Rw.c x) s m (0 : Nat)), I (cntF (Rw.c x) s m (1 : Nat)), I (cntF (Rw.c x) s m (2 : Nat)), I (cntF (Rw.c x) s m (3 : Nat)), I (cntF (Rw.c x) s m (4 : Nat)), I (cntF (Rw.c x) s m (5 : Nat)), I (cntF (Rw.c x) s m (6 : Nat)), I (cntF (Rw.c x) s m (7 : Nat)), I (cntF (Rw.c x) s m (8 : Nat)), I (cntF (Rw.c x) s m (9 : Nat))]] (V.agg [I (cntF (Rw.c x) s m (0 : Nat)), I (cntF (Rw.c x) s m (1 : Nat)), I (cntF (Rw.c x) s m (2 : Nat)), I (cntF (Rw.c x) s m (3 : Nat)), I (cntF (Rw.c x) s m (4 : Nat)), I (cntF (Rw.c x) s m (5 : Nat)), I (cntF (Rw.c x) s m (6 : Nat)), I (cntF (Rw.c x) s m (7 : Nat)), I (cntF (Rw.c x) s m (8 : Nat)), I (cntF (Rw.c x) s m (9 : Nat))]) [some (Obj.box [I (cntF (Rw.c x) s m (0 : Nat)), I (cntF (Rw.c x) s m (1 : Nat)), I (cntF (Rw.c x) s m (2 : Nat)), I (cntF (Rw.c x) s m (3 : Nat)), I (cntF (Rw.c x) s m (4 : Nat)), I (cntF (Rw.c x) s m (5 : Nat)), I (cntF (Rw.c x) s m (6 : Nat)), I (cntF (Rw.c x) s m (7 : Nat)), I (cntF (Rw.c x) s m (8 : Nat)), I (cntF (Rw.c x) s m (9 : Nat))])],
      (0 : Int) ≤ Int.ofNat j,
      Int.ofNat j < Int.ofNat (List.length (List.map Rw.row (insE l j x))),
      (List.map Rw.row (insE l j x))[j]? = some (Rw.row x),
      List.set (List.map Rw.row (insE l j x)) j [I (Rw.lev x), I (Rw.win x), Sg (Rw.svc x), Sg (Rw.op x), I (cntF (Rw.c x) s m (0 : Nat)), I (cntF (Rw.c x) s m (1 : Nat)), I (cntF (Rw.c x) s m (2 : Nat)), I (cntF (Rw.c x) s m (3 : Nat)), I (cntF (Rw.c x) s m (4 : Nat)), I (cntF (Rw.c x) s m (5 : Nat)), I (cntF (Rw.c x) s m (6 : Nat)), I (cntF (Rw.c x) s m (7 : Nat)), I (cntF (Rw.c x) s m (8 : Nat)), I (cntF (Rw.c x) s m (9 : Nat))] = List.map Rw.row (List.set (insE l j x) j { lev := Rw.lev x, win := Rw.win x, svc := Rw.svc x, op := Rw.op x, c := cntF (Rw.c x) s m })] (by kernel_rfl)
    (by
      simp only [allP]
      and_intros <;> first
        | omega
        | exact ixE l x (by omega)
        | exact ixG l x (by omega)
        | exact cCAdd (fun _ => 0) x.c m
        | exact cCAdd (addC (fun _ => 0) x.c m) (oneF (ofR s.dur) s.err) m
        | exact cCLoad (cntF x.c s m)
        | exact cOne s
        | exact setRow Rw.row (insE l j x) j (bumpR s m x)
        | (simp; omega)
        | (simp [hx]; done)
        | exact insO' l x j (by omega) hs)

theorem cntB (l : List Rw) (x : Rw) (s : Sp) (m : Int) (j : Nat) (hs : l.length ≤ 1000000000) (hf : idxI (pEqR x) l = -1) (hg : idxI (pGtR x) l = (j : Int)) (hj : j ≤ l.length) (hx : (insE l j x)[j]? = some x) (hT : j < (insE l j x).length) : Contract Try.prog 32 [.own 0, x.v, s.v, I m] [.arr 14 (l.map Rw.row)] (.own 1) [none, some (.arr 14 (((insE l j x).set j (bumpR s m x)).map Rw.row))] := by
  exact Contract.cast (by
    first
      | rfl) (by
    first
      | rfl) (cntB_0 l x s m j hs hf hg hj hx hT )

theorem cntC_0 (l : List Rw) (x : Rw) (s : Sp) (m : Int) (j : Nat) (hs : l.length ≤ 1000000000) (hf : idxI (pEqR x) l = -1) (hg : idxI (pGtR x) l = -1) (hj : j = l.length) (hx : (insE l j x)[j]? = some x) (hT : j < (insE l j x).length) : Contract Try.prog 32 [.own 0, x.v, s.v, I m] [.arr 14 (l.map Rw.row)] (V.own (1 : Nat)) ([none, some (Obj.arr (14 : Nat) (List.map Rw.row (List.set (insE l j x) j { lev := Rw.lev x, win := Rw.win x, svc := Rw.svc x, op := Rw.op x, c := cntF (Rw.c x) s m })))]) :=
  vcP hmix [.reg 1 [(2, [.call [1000] [] (I (idxI (pEqR x) l)) [some (.box x.row)], .be (I (-1))], none)], .reg 2 [(1, [], some true)], .reg 3 [(2, [.call [1000] [] (I (idxI (pGtR x) l)) [some (.box x.row)], .be (I (-1))], none)], .reg 4 [(1, [], some true)], .reg 5 [(1, [.be (I (j : Int))], none)], .reg 6 [(4, [.call [0, 1204000] [] (.own 2) [none, some (.arr 14 [x.row]), some (.arr 14 ((insE l j x).map Rw.row))]], none)], .reg 8 [(5, [.row (Rw.row x)], none), (7, [.call [1402000] [] (.tup []) [some (.box (c10 (addC (fun _ => 0) x.c m)))]], none)], .reg 9 [(2, [.call [] [] (.agg (c10 (oneF (ofR s.dur) s.err))) []], none), (4, [.call [1402000] [] (.tup []) [some (.box (c10 (cntF x.c s m)))]], none)], .reg 10 [(3, [.call [1402000] [] (.agg (c10 (cntF x.c s m))) [some (.box (c10 (cntF x.c s m)))]], none), (6, [.row (Rw.row x), .beO (((insE l j x).set j (bumpR s m x)).map Rw.row)], none)], .reg 11 [(0, [.idx 0], none)]] [2201000] [
      Contract Try.prog (42 : Nat) [V.sl (14 : Nat) (List.map Rw.row l), V.clo (Fn.func (43 : Nat)) [] [V.ptr (0 : Nat) (0 : Nat) (0 : Nat) (0 : Nat)]] [Obj.box [I (Rw.lev x), I (Rw.win x), Sg (Rw.svc x), Sg (Rw.op x), I (Rw.c x (0 : Nat)), I (Rw.c x (1 : Nat)), I (Rw.c x (2 : Nat)), I (Rw.c x (3 : Nat)), I (Rw.c x (4 : Nat)), I (Rw.c x (5 : Nat)), I (Rw.c x (6 : Nat)), I (Rw.c x (7 : Nat)), I (Rw.c x (8 : Nat)), I (Rw.c x (9 : Nat))]] (I (idxI (pEqR x) l)) [some (Obj.box (Rw.row x))],
      true = true,
      true = true,
      idxI (pEqR x) l = (-1 : Int),
      true = true,
      Contract Try.prog (42 : Nat) [V.sl (14 : Nat) (List.map Rw.row l), V.clo (Fn.func (45 : Nat)) [] [V.ptr (0 : Nat) (0 : Nat) (0 : Nat) (0 : Nat)]] [Obj.box [I (Rw.lev x), I (Rw.win x), Sg (Rw.svc x), Sg (Rw.op x), I (Rw.c x (0 : Nat)), I (Rw.c x (1 : Nat)), I (Rw.c x (2 : Nat)), I (Rw.c x (3 : Nat)), I (Rw.c x (4 : Nat)), I (Rw.c x (5 : Nat)), I (Rw.c x (6 : Nat)), I (Rw.c x (7 : Nat)), I (Rw.c x (8 : Nat)), I (Rw.c x (9 : Nat))]] (I (idxI (pGtR x) l)) [some (Obj.box (Rw.row x))],
      true = true,
      true = true,
      idxI (pGtR x) l = (-1 : Int),
      true = true,
      Int.ofNat (List.length (List.map Rw.row l)) = Int.ofNat j,
      Contract Try.prog (46 : Nat) [V.own (0 : Nat), I (Int.ofNat j), V.own (1 : Nat)] [Obj.arr (14 : Nat) (List.map Rw.row l), Obj.arr (14 : Nat) [[I (Rw.lev x), I (Rw.win x), Sg (Rw.svc x), Sg (Rw.op x), I (Rw.c x (0 : Nat)), I (Rw.c x (1 : Nat)), I (Rw.c x (2 : Nat)), I (Rw.c x (3 : Nat)), I (Rw.c x (4 : Nat)), I (Rw.c x (5 : Nat)), I (Rw.c x (6 : Nat)), I (Rw.c x (7 : Nat)), I (Rw.c x (8 : Nat)), I (Rw.c x (9 : Nat))]]] (V.own (2 : Nat)) [none, some (Obj.arr (14 : Nat) [Rw.row x]), some (Obj.arr (14 : Nat) (List.map Rw.row (insE l j x)))],
      (0 : Int) ≤ Int.ofNat j,
      Int.ofNat j < Int.ofNat (List.length (List.map Rw.row (insE l j x))),
      (List.map Rw.row (insE l j x))[j]? = some (Rw.row x),
      Contract Try.prog (47 : Nat) [V.ptr (0 : Nat) (0 : Nat) (0 : Nat) (0 : Nat), V.agg [I (Rw.c x (0 : Nat)), I (Rw.c x (1 : Nat)), I (Rw.c x (2 : Nat)), I (Rw.c x (3 : Nat)), I (Rw.c x (4 : Nat)), I (Rw.c x (5 : Nat)), I (Rw.c x (6 : Nat)), I (Rw.c x (7 : Nat)), I (Rw.c x (8 : Nat)), I (Rw.c x (9 : Nat))], I m] [Obj.box [I (0 : Int), I (0 : Int), I (0 : Int), I (0 : Int), I (0 : Int), I (0 : Int), I (0 : Int), I (0 : Int), I (0 : Int), I (0 : Int)]] (V.tup []) [some (Obj.box [I (addC (fun x0 => (0 : Int)) (Rw.c x) m (0 : Nat)), I (addC (fun x0 => (0 : Int)) (Rw.c x) m (1 : Nat)), I (addC (fun x0 => (0 : Int)) (Rw.c x) m (2 : Nat)), I (addC (fun x0 => (0 : Int)) (Rw.c x) m (3 : Nat)), I (addC (fun x0 => (0 : Int)) (Rw.c x) m (4 : Nat)), I (addC (fun x0 => (0 : Int)) (Rw.c x) m (5 : Nat)), I (addC (fun x0 => (0 : Int)) (Rw.c x) m (6 : Nat)), I (addC (fun x0 => (0 : Int)) (Rw.c x) m (7 : Nat)), I (addC (fun x0 => (0 : Int)) (Rw.c x) m (8 : Nat)), I (addC (fun x0 => (0 : Int)) (Rw.c x) m (9 : Nat))])],
      Contract Try.prog (48 : Nat) [V.agg [V.val (Value.int IntKind.u64 (Sp.hi s)), V.val (Value.int IntKind.u64 (Sp.lo s)), V.val (Value.int IntKind.u64 (Sp.id s)), V.val (Value.int IntKind.u64 (Sp.par s)), Sg (Sp.svc s), Sg (Sp.op s), I (Sp.start s), I (Sp.dur s), Bo (Sp.err s), V.sl (2 : Nat) (List.map At.row (Sp.attrs s))]] [] (V.agg [I (oneF (ofR (Sp.dur s)) (Sp.err s) (0 : Nat)), I (oneF (ofR (Sp.dur s)) (Sp.err s) (1 : Nat)), I (oneF (ofR (Sp.dur s)) (Sp.err s) (2 : Nat)), I (oneF (ofR (Sp.dur s)) (Sp.err s) (3 : Nat)), I (oneF (ofR (Sp.dur s)) (Sp.err s) (4 : Nat)), I (oneF (ofR (Sp.dur s)) (Sp.err s) (5 : Nat)), I (oneF (ofR (Sp.dur s)) (Sp.err s) (6 : Nat)), I (oneF (ofR (Sp.dur s)) (Sp.err s) (7 : Nat)), I (oneF (ofR (Sp.dur s)) (Sp.err s) (8 : Nat)), I (oneF (ofR (Sp.dur s)) (Sp.err s) (9 : Nat))]) [],
      Contract Try.prog (47 : Nat) [V.ptr (0 : Nat) (0 : Nat) (0 : Nat) (0 : Nat), V.agg [I (oneF (ofR (Sp.dur s)) (Sp.err s) (0 : Nat)), I (oneF (ofR (Sp.dur s)) (Sp.err s) (1 : Nat)), I (oneF (ofR (Sp.dur s)) (Sp.err s) (2 : Nat)), I (oneF (ofR (Sp.dur s)) (Sp.err s) (3 : Nat)), I (oneF (ofR (Sp.dur s)) (Sp.err s) (4 : Nat)), I (oneF (ofR (Sp.dur s)) (Sp.err s) (5 : Nat)), I (oneF (ofR (Sp.dur s)) (Sp.err s) (6 : Nat)), I (oneF (ofR (Sp.dur s)) (Sp.err s) (7 : Nat)), I (oneF (ofR (Sp.dur s)) (Sp.err s) (8 : Nat)), I (oneF (ofR (Sp.dur s)) (Sp.err s) (9 : Nat))], I m] [Obj.box [I (addC (fun x0 => (0 : Int)) (Rw.c x) m (0 : Nat)), I (addC (fun x0 => (0 : Int)) (Rw.c x) m (1 : Nat)), I (addC (fun x0 => (0 : Int)) (Rw.c x) m (2 : Nat)), I (addC (fun x0 => (0 : Int)) (Rw.c x) m (3 : Nat)), I (addC (fun x0 => (0 : Int)) (Rw.c x) m (4 : Nat)), I (addC (fun x0 => (0 : Int)) (Rw.c x) m (5 : Nat)), I (addC (fun x0 => (0 : Int)) (Rw.c x) m (6 : Nat)), I (addC (fun x0 => (0 : Int)) (Rw.c x) m (7 : Nat)), I (addC (fun x0 => (0 : Int)) (Rw.c x) m (8 : Nat)), I (addC (fun x0 => (0 : Int)) (Rw.c x) m (9 : Nat))]] (V.tup []) [some (Obj.box [I (cntF (Rw.c x) s m (0 : Nat)), I (cntF (Rw.c x) s m (1 : Nat)), I (cntF (Rw.c x) s m (2 : Nat)), I (cntF (Rw.c x) s m (3 : Nat)), I (cntF (Rw.c x) s m (4 : Nat)), I (cntF (Rw.c x) s m (5 : Nat)), I (cntF (Rw.c x) s m (6 : Nat)), I (cntF (Rw.c x) s m (7 : Nat)), I (cntF (Rw.c x) s m (8 : Nat)), I (cntF (Rw.c x) s m (9 : Nat))])],
      Contract Try.prog (49 : Nat) [V.ptr (0 : Nat) (0 : Nat) (0 : Nat) (0 : Nat)] [Obj.box [I (cntF (Rw.c x) s m (0 : Nat)), I (cntF (Rw.c x) s m (1 : Nat)), I (cntF (Rw.c x) s m (2 : Nat)), I (cntF (Rw.c x) s m (3 : Nat)), I (cntF (Rw.c x) s m (4 : Nat)), I (cntF (Rw.c x) s m (5 : Nat)), I (cntF (Rw.c x) s m (6 : Nat)), I (cntF (Rw.c x) s m (7 : Nat)), I (cntF (Rw.c x) s m (8 : Nat)), I (cntF (Rw.c x) s m (9 : Nat))]] (V.agg [I (cntF (Rw.c x) s m (0 : Nat)), I (cntF (Rw.c x) s m (1 : Nat)), I (cntF (Rw.c x) s m (2 : Nat)), I (cntF (Rw.c x) s m (3 : Nat)), I (cntF (Rw.c x) s m (4 : Nat)), I (cntF (Rw.c x) s m (5 : Nat)), I (cntF (Rw.c x) s m (6 : Nat)), I (cntF (Rw.c x) s m (7 : Nat)), I (cntF (Rw.c x) s m (8 : Nat)), I (cntF (Rw.c x) s m (9 : Nat))]) [some (Obj.box [I (cntF (Rw.c x) s m (0 : Nat)), I (cntF (Rw.c x) s m (1 : Nat)), I (cntF (Rw.c x) s m (2 : Nat)), I (cntF (Rw.c x) s m (3 : Nat)), I (cntF (Rw.c x) s m (4 : Nat)), I (cntF (Rw.c x) s m (5 : Nat)), I (cntF (Rw.c x) s m (6 : Nat)), I (cntF (Rw.c x) s m (7 : Nat)), I (cntF (Rw.c x) s m (8 : Nat)), I (cntF (Rw.c x) s m (9 : Nat))])],
      (0 : Int) ≤ Int.ofNat j,
      Int.ofNat j < Int.ofNat (List.length (List.map Rw.row (insE l j x))),
      (List.map Rw.row (insE l j x))[j]? = some (Rw.row x),
      List.set (List.map Rw.row (insE l j x)) j [I (Rw.lev x), I (Rw.win x), Sg (Rw.svc x), Sg (Rw.op x), I (cntF (Rw.c x) s m (0 : Nat)), I (cntF (Rw.c x) s m (1 : Nat)), I (cntF (Rw.c x) s m (2 : Nat)), I (cntF (Rw.c x) s m (3 : Nat)), I (cntF (Rw.c x) s m (4 : Nat)), I (cntF (Rw.c x) s m (5 : Nat)), I (cntF (Rw.c x) s m (6 : Nat)), I (cntF (Rw.c x) s m (7 : Nat)), I (cntF (Rw.c x) s m (8 : Nat)), I (cntF (Rw.c x) s m (9 : Nat))] = List.map Rw.row (List.set (insE l j x) j { lev := Rw.lev x, win := Rw.win x, svc := Rw.svc x, op := Rw.op x, c := cntF (Rw.c x) s m })] (by kernel_rfl)
    (by
      simp only [allP]
      and_intros <;> first
        | omega
        | exact ixE l x (by omega)
        | exact ixG l x (by omega)
        | exact cCAdd (fun _ => 0) x.c m
        | exact cCAdd (addC (fun _ => 0) x.c m) (oneF (ofR s.dur) s.err) m
        | exact cCLoad (cntF x.c s m)
        | exact cOne s
        | exact setRow Rw.row (insE l j x) j (bumpR s m x)
        | (simp; omega)
        | (simp [hx]; done)
        | exact insO' l x j (by omega) hs)

theorem cntC (l : List Rw) (x : Rw) (s : Sp) (m : Int) (j : Nat) (hs : l.length ≤ 1000000000) (hf : idxI (pEqR x) l = -1) (hg : idxI (pGtR x) l = -1) (hj : j = l.length) (hx : (insE l j x)[j]? = some x) (hT : j < (insE l j x).length) : Contract Try.prog 32 [.own 0, x.v, s.v, I m] [.arr 14 (l.map Rw.row)] (.own 1) [none, some (.arr 14 (((insE l j x).set j (bumpR s m x)).map Rw.row))] := by
  exact Contract.cast (by
    first
      | rfl) (by
    first
      | rfl) (cntC_0 l x s m j hs hf hg hj hx hT )

theorem modify_set {α : Type} (f : α → α) (l : List α) (j : Nat) (x : α) (h : l[j]? = some x) : l.modify j f = l.set j (f x) := by
  apply List.ext_getElem?
  intro i
  rw [List.getElem?_modify, List.getElem?_set]
  by_cases e : j = i
  · subst e
    have h1 := (List.getElem?_eq_some_iff.1 h).1
    have h2 := (List.getElem?_eq_some_iff.1 h).2
    simp [h, h1, h2]
  · simp [e]
theorem insE_at {α : Type} (l : List α) (j : Nat) (x : α) (h : j ≤ l.length) : (insE l j x)[j]? = some x := by
  unfold insE
  rw [List.getElem?_append_right (by simp; omega)]
  simp [show min j l.length = j by omega]

theorem cCount (l : List Rw) (key : Rw) (s : Sp) (m : Int) (hs : l.length ≤ 1000000000) : Contract Try.prog 32 [.own 0, key.v, s.v, I m] [.arr 14 (l.map Rw.row)] (.own 1) [none, some (.arr 14 ((countR l key s m).map Rw.row))] := by
  unfold countR
  cases hf : l.findIdx? (pEqR key) with
  | some j =>
    have hi : idxI (pEqR key) l = (j : Int) := by unfold idxI; rw [hf]
    have hlt := (List.findIdx?_eq_some_iff_getElem.1 hf).1
    have hx : l[j]? = some l[j] := List.getElem?_eq_getElem hlt
    simp only
    rw [modify_set _ l j l[j] hx]
    exact cntA l key l[j] s m j hs hi hx hlt
  | none =>
    have hi : idxI (pEqR key) l = -1 := by unfold idxI; rw [hf]
    simp only
    cases hg : l.findIdx? (pGtR key) with
    | some j =>
      have hi2 : idxI (pGtR key) l = (j : Int) := by unfold idxI; rw [hg]
      have hlt := (List.findIdx?_eq_some_iff_getElem.1 hg).1
      simp only [Option.getD_some]
      have hx := insE_at l j key (by omega)
      rw [modify_set _ _ j key hx]
      exact cntB l key s m j hs hi hi2 (by omega) hx (by rw [insE_len]; omega)
    | none =>
      have hi2 : idxI (pGtR key) l = -1 := by unfold idxI; rw [hg]
      simp only [Option.getD_none]
      have hx := insE_at l l.length key (Nat.le_refl _)
      rw [modify_set _ _ _ key hx]
      exact cntC l key s m l.length hs hi hi2 rfl hx (by rw [insE_len]; omega)

theorem countR_len (l : List Rw) (key : Rw) (s : Sp) (m : Int) : (countR l key s m).length ≤ l.length + 1 := by
  unfold countR
  split
  · rw [List.length_modify]; omega
  · rw [List.length_modify, insE_len]; omega
theorem addR_len (l : List Rw) (s : Sp) (m : Int) : (addR l s m).length ≤ l.length + 3 := by
  unfold addR
  cases rightS s
  · simp only [cond_false]; omega
  · simp only [cond_true]
    have h1 := countR_len l (keyR s 0) s m
    have h2 := countR_len (countR l (keyR s 0) s m) (keyR s 1) s m
    have h3 := countR_len (countR (countR l (keyR s 0) s m) (keyR s 1) s m) (keyR s 2) s m
    omega

end Go.Proofs.Ytigakemkanobaaa
