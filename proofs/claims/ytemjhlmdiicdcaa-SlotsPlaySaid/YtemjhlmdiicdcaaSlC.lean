/- slots: an exemplar put ahead of the others. -/
import Derived.Test.YtemjhlmdiicdcaaSlB
import Derived.Test.YtemjhlmdiicdcaaIns
namespace Go.Proofs.Ytemjhlmdiicdcaa
open E
set_option maxRecDepth 100000
set_option linter.unusedVariables false
set_option linter.unusedSimpArgs false


def insE {α : Type} (l : List α) (i : Nat) (e : α) : List α := l.take i ++ e :: l.drop i
def delE {α : Type} (l : List α) (i : Nat) : List α := l.take i ++ l.drop (i + 1)
def putS (l : List Em) (e : Em) (c last : Nat) (i : Nat) : SL :=
  ⟨[(0, .own 805001), (3, .ptr 1000 0 0 0), (6, I (c : Int)), (7, I (last : Int)), (22, .own 805001), (23, I (l.length : Int)), (24, I (i : Int))], [(1000, .box e.row), (805001, .arr 6 (l.map Em.row))], [1000, 805001, 0]⟩
noncomputable def putB : Code := codeAt Try.prog 17 [true, true, true, true, true, false, true, false, false]

theorem putHit (l : List Em) (e x : Em) (c last i : Nat) (h : i < l.length) (hx : l[i]? = some x) (hs : l.length ≤ 1000000000000000) (hc : c ≤ i) (hz : cmpE x e = 0) : CodeC Try.prog 1 45 putB (putS l e c last i) .normal (putS l e (c + 1) i (i + 1)) :=
  runP hmix [.reg 7 [(0, [], some true)], .reg 8 [(2, [.row (Em.row x)], none)], .reg 9 [(2, [.call [] [] (I (cmpE x e)) []], none), (3, [], some true)], .reg 10 [(1, [.be (I ((c + 1 : Nat) : Int))], none)], .reg 11 [(0, [.be (I ((i + 1 : Nat) : Int))], none)]] ⟨[0, 3, 6, 7, 22, 23, 24], [(1000, 1000), (805001, 805001)], []⟩ [
      decide (Int.ofNat i < Int.ofNat (List.length l)) = true,
      (0 : Int) ≤ Int.ofNat i,
      Int.ofNat i < Int.ofNat (List.length (List.map Em.row l)),
      (List.map Em.row l)[i]? = some (Em.row x),
      Contract Try.prog (23 : Nat) [V.agg [Sg (Em.svc x), Sg (Em.op x), V.val (Value.int IntKind.u64 (Em.hi x)), V.val (Value.int IntKind.u64 (Em.lo x)), V.val (Value.int IntKind.u64 (Em.id x)), I (Em.block x)], V.agg [Sg (Em.svc e), Sg (Em.op e), V.val (Value.int IntKind.u64 (Em.hi e)), V.val (Value.int IntKind.u64 (Em.lo e)), V.val (Value.int IntKind.u64 (Em.id e)), I (Em.block e)]] [] (I (cmpE x e)) [],
      (cmpE x e == (0 : Int)) = true,
      IntKind.wrap IntKind.i64 (Int.ofNat (c + (1 : Nat))) = Int.ofNat (c + (1 : Nat)),
      IntKind.wrap IntKind.i64 (Int.ofNat (i + (1 : Nat))) = Int.ofNat (i + (1 : Nat))] (by kernel_rfl)
    (by
      simp only [allP]
      and_intros <;> first
        | omega
        | with_reducible assumption
        | exact cCompare x e
        | (simp; omega)
        | (simp [hx]; done)
        | exact i64_small (by simp; omega)
        | (simp [hz]; done)
        | (simp; done)
        | decide)

theorem putMiss (l : List Em) (e x : Em) (c last i : Nat) (h : i < l.length) (hx : l[i]? = some x) (hs : l.length ≤ 1000000000000000) (hc : c ≤ i) (hz : ¬ cmpE x e = 0) : CodeC Try.prog 1 45 putB (putS l e c last i) .normal (putS l e c last (i + 1)) :=
  runP hmix [.reg 7 [(0, [], some true)], .reg 8 [(2, [.row (Em.row x)], none)], .reg 9 [(2, [.call [] [] (I (cmpE x e)) []], none), (3, [], some false)], .reg 11 [(0, [.be (I ((i + 1 : Nat) : Int))], none)]] ⟨[0, 3, 6, 7, 22, 23, 24], [(1000, 1000), (805001, 805001)], []⟩ [
      decide (Int.ofNat i < Int.ofNat (List.length l)) = true,
      (0 : Int) ≤ Int.ofNat i,
      Int.ofNat i < Int.ofNat (List.length (List.map Em.row l)),
      (List.map Em.row l)[i]? = some (Em.row x),
      Contract Try.prog (23 : Nat) [V.agg [Sg (Em.svc x), Sg (Em.op x), V.val (Value.int IntKind.u64 (Em.hi x)), V.val (Value.int IntKind.u64 (Em.lo x)), V.val (Value.int IntKind.u64 (Em.id x)), I (Em.block x)], V.agg [Sg (Em.svc e), Sg (Em.op e), V.val (Value.int IntKind.u64 (Em.hi e)), V.val (Value.int IntKind.u64 (Em.lo e)), V.val (Value.int IntKind.u64 (Em.id e)), I (Em.block e)]] [] (I (cmpE x e)) [],
      (cmpE x e == (0 : Int)) = false,
      IntKind.wrap IntKind.i64 (Int.ofNat (i + (1 : Nat))) = Int.ofNat (i + (1 : Nat))] (by kernel_rfl)
    (by
      simp only [allP]
      and_intros <;> first
        | omega
        | with_reducible assumption
        | exact cCompare x e
        | (simp; omega)
        | (simp [hx]; done)
        | exact i64_small (by simp; omega)
        | (simp [hz]; done)
        | (simp; done)
        | decide)

theorem putEnd (l : List Em) (e : Em) (c last i : Nat) (h : l.length ≤ i) : CodeC Try.prog 1 45 putB (putS l e c last i) (.exit 0) (putS l e c last i) :=
  runP hmix [.reg 7 [(0, [], some false)]] ⟨[0, 3, 6, 7, 22, 23, 24], [(1000, 1000), (805001, 805001)], []⟩ [
      decide (Int.ofNat i < Int.ofNat (List.length l)) = false] (by kernel_rfl)
    (by
      simp only [allP]
      and_intros <;> first
        | omega
        | with_reducible assumption
        | (simp; omega)
        | (simp; done)
        | decide)

/-- How many of an exemplar's service and operation there are, and where the last one is. -/
def scanE (e : Em) : List Em → Nat → Nat → Nat → Nat × Nat
  | [], _, c, last => (c, last)
  | x :: xs, i, c, last => if cmpE x e = 0 then scanE e xs (i + 1) (c + 1) i else scanE e xs (i + 1) c last

theorem putLoop (l : List Em) (e : Em) (hs : l.length ≤ 1000000000000000) : ∀ (n i c last : Nat), i + n = l.length → c ≤ i →
    LoopC Try.prog 1 45 putB (putS l e c last i) (.exit 0) (putS l e (scanE e (l.drop i) i c last).1 (scanE e (l.drop i) i c last).2 l.length)
  | 0, i, c, last, hi, hc => by
    rw [List.drop_of_length_le (by omega)]
    have : i = l.length := by omega
    subst this
    exact LoopC.last (putEnd l e c last _ (by omega)) (by simp)
  | n + 1, i, c, last, hi, hc => by
    have hlt : i < l.length := by omega
    have hx : l[i]? = some l[i] := by simp [hlt]
    rw [List.drop_eq_getElem_cons hlt, scanE]
    by_cases hz : cmpE l[i] e = 0
    · rw [if_pos hz]
      exact LoopC.next (putHit l e l[i] c last i hlt hx hs hc hz) (putLoop l e hs n (i + 1) (c + 1) i (by omega) (by omega))
    · rw [if_neg hz]
      exact LoopC.next (putMiss l e l[i] c last i hlt hx hs hc hz) (putLoop l e hs n (i + 1) c last (by omega) (by omega))

/-- What becomes of exemplars: one more, ahead of the others of its service and operation, of which the last goes if there are too many. -/
def atE (l : List Em) (e : Em) : Nat := (l.findIdx? (pPut e)).getD l.length
def putE (l : List Em) (e : Em) : List Em :=
  let m := insE l (atE l e) e
  if 2 < (scanE e m 0 0 0).1 then delE m (scanE e m 0 0 0).2 else m

theorem insO' (l : List Em) (e : Em) (k : Nat) (hk : k ≤ l.length) (hb : l.length ≤ 1000000000) : Contract Try.prog 24 [.own 0, I (k : Int), .own 1] [.arr 6 (l.map Em.row), .arr 6 [e.row]] (.own 2) [none, some (.arr 6 [e.row]), some (.arr 6 ((insE l k e).map Em.row))] := by
  have h := insO (l.map Em.row) e.row k (by simpa using hk) (by rw [List.length_map]; omega)
  rw [show (insE l k e).map Em.row = (l.map Em.row).take k ++ e.row :: (l.map Em.row).drop k by simp [insE, List.map_take, List.map_drop]]
  exact h
theorem delO' (l : List Em) (i : Nat) (hi : i < l.length) : Contract Try.prog 25 [.own 0, I (i : Int), I ((i + 1 : Nat) : Int)] [.arr 6 (l.map Em.row)] (.own 1) [none, some (.arr 6 ((delE l i).map Em.row))] := by
  have h := del (l.map Em.row) i (i + 1) (by omega) (by rw [List.length_map]; omega)
  rw [show (delE l i).map Em.row = (l.map Em.row).take i ++ (l.map Em.row).drop (i + 1) by simp [delE, List.map_take, List.map_drop]]
  exact h

theorem insE_len {α : Type} (l : List α) (i : Nat) (e : α) : (insE l i e).length = l.length + 1 := by
  simp [insE]; omega
theorem scan_last (e : Em) : ∀ (l : List Em) (i c last : Nat), (scanE e l i c last).1 ≤ c + l.length ∧ ((scanE e l i c last).2 = last ∨ (scanE e l i c last).2 < i + l.length) ∧ (c < (scanE e l i c last).1 → (scanE e l i c last).2 < i + l.length)
  | [], i, c, last => by simp [scanE]
  | x :: xs, i, c, last => by
    unfold scanE
    split
    · have h := scan_last e xs (i + 1) (c + 1) i
      simp only [List.length_cons]
      omega
    · have h := scan_last e xs (i + 1) c last
      simp only [List.length_cons]
      omega

theorem putA (l : List Em) (e : Em) (j : Nat) (c last : Nat) (hs : l.length ≤ 1000000000) (hf : idxI (pPut e) l = (j : Int)) (hj : j ≤ l.length) (hl : LoopC Try.prog 1 45 putB (putS (insE l j e) e 0 0 0) (.exit 0) (putS (insE l j e) e c last (insE l j e).length)) (hc : 2 < c) (hlast : last < (insE l j e).length) : Contract Try.prog 17 [.own 0, e.v] [.arr 6 (l.map Em.row)] (.own 1) [none, some (.arr 6 ((delE (insE l j e) last).map Em.row))] :=
  vcP hmix [.reg 1 [(2, [.call [1000] [] (I (idxI (pPut e) l)) [some (.box e.row)], .be (I (j : Int))], none)], .reg 2 [(1, [], some false)], .reg 4 [(4, [.call [0, 804000] [] (.own 2) [none, some (.arr 6 [e.row]), some (.arr 6 ((insE l j e).map Em.row))]], none)], .reg 6 [(1, [.be (I ((insE l j e).length : Int))], none)], .cut ⟨[0, 3, 6, 7, 22, 23, 24], [(1000, 1000), (805001, 805001)], []⟩ (.exit 0) (putS (insE l j e) e c last (insE l j e).length), .reg 12 [(1, [], some true)], .reg 13 [(3, [.be (I ((last + 1 : Nat) : Int))], none), (4, [.call [805001] [] (.own 1) [none, some (.arr 6 ((delE (insE l j e) last).map Em.row))]], none)]] [2605001] [
      Contract Try.prog (21 : Nat) [V.sl (6 : Nat) (List.map Em.row l), V.clo (Fn.func (22 : Nat)) [] [V.ptr (0 : Nat) (0 : Nat) (0 : Nat) (0 : Nat)]] [Obj.box [Sg (Em.svc e), Sg (Em.op e), V.val (Value.int IntKind.u64 (Em.hi e)), V.val (Value.int IntKind.u64 (Em.lo e)), V.val (Value.int IntKind.u64 (Em.id e)), I (Em.block e)]] (I (idxI (pPut e) l)) [some (Obj.box (Em.row e))],
      true = true,
      true = true,
      idxI (pPut e) l = Int.ofNat j,
      false = false,
      Contract Try.prog (24 : Nat) [V.own (0 : Nat), I (Int.ofNat j), V.own (1 : Nat)] [Obj.arr (6 : Nat) (List.map Em.row l), Obj.arr (6 : Nat) [[Sg (Em.svc e), Sg (Em.op e), V.val (Value.int IntKind.u64 (Em.hi e)), V.val (Value.int IntKind.u64 (Em.lo e)), V.val (Value.int IntKind.u64 (Em.id e)), I (Em.block e)]]] (V.own (2 : Nat)) [none, some (Obj.arr (6 : Nat) [Em.row e]), some (Obj.arr (6 : Nat) (List.map Em.row (insE l j e)))],
      Int.ofNat (List.length (List.map Em.row (insE l j e))) = Int.ofNat (List.length (insE l j e)),
      LoopC Try.prog (1 : Nat) (45 : Nat) putB { env := [((0 : Nat), V.own (805001 : Nat)), ((3 : Nat), V.ptr (1000 : Nat) (0 : Nat) (0 : Nat) (0 : Nat)), ((6 : Nat), I (0 : Int)), ((7 : Nat), I (0 : Int)), ((22 : Nat), V.own (805001 : Nat)), ((23 : Nat), I (Int.ofNat (List.length (insE l j e)))), ((24 : Nat), I (0 : Int))], st := [((1000 : Nat), Obj.box [Sg (Em.svc e), Sg (Em.op e), V.val (Value.int IntKind.u64 (Em.hi e)), V.val (Value.int IntKind.u64 (Em.lo e)), V.val (Value.int IntKind.u64 (Em.id e)), I (Em.block e)]), ((805001 : Nat), Obj.arr (6 : Nat) (List.map Em.row (insE l j e)))], ids := [(1000 : Nat), (805001 : Nat), (0 : Nat)] } (Ex.exit (0 : Nat)) { env := [((0 : Nat), V.own (805001 : Nat)), ((3 : Nat), V.ptr (1000 : Nat) (0 : Nat) (0 : Nat) (0 : Nat)), ((6 : Nat), I (Int.ofNat c)), ((7 : Nat), I (Int.ofNat last)), ((22 : Nat), V.own (805001 : Nat)), ((23 : Nat), I (Int.ofNat (List.length (insE l j e)))), ((24 : Nat), I (Int.ofNat (List.length (insE l j e))))], st := [((1000 : Nat), Obj.box (Em.row e)), ((805001 : Nat), Obj.arr (6 : Nat) (List.map Em.row (insE l j e)))], ids := [(1000 : Nat), (805001 : Nat), (0 : Nat)] },
      decide (Int.ofNat c > (2 : Int)) = true,
      IntKind.wrap IntKind.i64 (Int.ofNat (last + (1 : Nat))) = Int.ofNat (last + (1 : Nat)),
      Contract Try.prog (25 : Nat) [V.own (0 : Nat), I (Int.ofNat last), I (Int.ofNat (last + (1 : Nat)))] [Obj.arr (6 : Nat) (List.map Em.row (insE l j e))] (V.own (1 : Nat)) [none, some (Obj.arr (6 : Nat) (List.map Em.row (delE (insE l j e) last)))]] (by kernel_rfl)
    (by
      simp only [allP]
      and_intros <;> first
        | omega
        | with_reducible assumption
        | exact ixP l e (by omega)
        | exact hl
        | exact insO' l e j (by omega) hs
        | exact delO' _ last hlast
        | (simp; omega)
        | exact i64_small (by rw [insE_len] at hlast; simp; omega)
        | (simp; done)
        | decide)

theorem putB2 (l : List Em) (e : Em) (j : Nat) (c last : Nat) (hs : l.length ≤ 1000000000) (hf : idxI (pPut e) l = (j : Int)) (hj : j ≤ l.length) (hl : LoopC Try.prog 1 45 putB (putS (insE l j e) e 0 0 0) (.exit 0) (putS (insE l j e) e c last (insE l j e).length)) (hc : c ≤ 2) : Contract Try.prog 17 [.own 0, e.v] [.arr 6 (l.map Em.row)] (.own 1) [none, some (.arr 6 ((insE l j e).map Em.row))] :=
  vcP hmix [.reg 1 [(2, [.call [1000] [] (I (idxI (pPut e) l)) [some (.box e.row)], .be (I (j : Int))], none)], .reg 2 [(1, [], some false)], .reg 4 [(4, [.call [0, 804000] [] (.own 2) [none, some (.arr 6 [e.row]), some (.arr 6 ((insE l j e).map Em.row))]], none)], .reg 6 [(1, [.be (I ((insE l j e).length : Int))], none)], .cut ⟨[0, 3, 6, 7, 22, 23, 24], [(1000, 1000), (805001, 805001)], []⟩ (.exit 0) (putS (insE l j e) e c last (insE l j e).length), .reg 12 [(1, [], some false)]] [805001] [
      Contract Try.prog (21 : Nat) [V.sl (6 : Nat) (List.map Em.row l), V.clo (Fn.func (22 : Nat)) [] [V.ptr (0 : Nat) (0 : Nat) (0 : Nat) (0 : Nat)]] [Obj.box [Sg (Em.svc e), Sg (Em.op e), V.val (Value.int IntKind.u64 (Em.hi e)), V.val (Value.int IntKind.u64 (Em.lo e)), V.val (Value.int IntKind.u64 (Em.id e)), I (Em.block e)]] (I (idxI (pPut e) l)) [some (Obj.box (Em.row e))],
      true = true,
      true = true,
      idxI (pPut e) l = Int.ofNat j,
      false = false,
      Contract Try.prog (24 : Nat) [V.own (0 : Nat), I (Int.ofNat j), V.own (1 : Nat)] [Obj.arr (6 : Nat) (List.map Em.row l), Obj.arr (6 : Nat) [[Sg (Em.svc e), Sg (Em.op e), V.val (Value.int IntKind.u64 (Em.hi e)), V.val (Value.int IntKind.u64 (Em.lo e)), V.val (Value.int IntKind.u64 (Em.id e)), I (Em.block e)]]] (V.own (2 : Nat)) [none, some (Obj.arr (6 : Nat) [Em.row e]), some (Obj.arr (6 : Nat) (List.map Em.row (insE l j e)))],
      Int.ofNat (List.length (List.map Em.row (insE l j e))) = Int.ofNat (List.length (insE l j e)),
      LoopC Try.prog (1 : Nat) (45 : Nat) putB { env := [((0 : Nat), V.own (805001 : Nat)), ((3 : Nat), V.ptr (1000 : Nat) (0 : Nat) (0 : Nat) (0 : Nat)), ((6 : Nat), I (0 : Int)), ((7 : Nat), I (0 : Int)), ((22 : Nat), V.own (805001 : Nat)), ((23 : Nat), I (Int.ofNat (List.length (insE l j e)))), ((24 : Nat), I (0 : Int))], st := [((1000 : Nat), Obj.box [Sg (Em.svc e), Sg (Em.op e), V.val (Value.int IntKind.u64 (Em.hi e)), V.val (Value.int IntKind.u64 (Em.lo e)), V.val (Value.int IntKind.u64 (Em.id e)), I (Em.block e)]), ((805001 : Nat), Obj.arr (6 : Nat) (List.map Em.row (insE l j e)))], ids := [(1000 : Nat), (805001 : Nat), (0 : Nat)] } (Ex.exit (0 : Nat)) { env := [((0 : Nat), V.own (805001 : Nat)), ((3 : Nat), V.ptr (1000 : Nat) (0 : Nat) (0 : Nat) (0 : Nat)), ((6 : Nat), I (Int.ofNat c)), ((7 : Nat), I (Int.ofNat last)), ((22 : Nat), V.own (805001 : Nat)), ((23 : Nat), I (Int.ofNat (List.length (insE l j e)))), ((24 : Nat), I (Int.ofNat (List.length (insE l j e))))], st := [((1000 : Nat), Obj.box (Em.row e)), ((805001 : Nat), Obj.arr (6 : Nat) (List.map Em.row (insE l j e)))], ids := [(1000 : Nat), (805001 : Nat), (0 : Nat)] },
      decide (Int.ofNat c > (2 : Int)) = false] (by kernel_rfl)
    (by
      simp only [allP]
      and_intros <;> first
        | omega
        | with_reducible assumption
        | exact ixP l e (by omega)
        | exact hl
        | exact insO' l e j (by omega) hs
        | (simp; omega)
        | (simp; done)
        | decide)

theorem putC (l : List Em) (e : Em) (j : Nat) (c last : Nat) (hs : l.length ≤ 1000000000) (hf : idxI (pPut e) l = -1) (hj : j = l.length) (hl : LoopC Try.prog 1 45 putB (putS (insE l j e) e 0 0 0) (.exit 0) (putS (insE l j e) e c last (insE l j e).length)) (hc : 2 < c) (hlast : last < (insE l j e).length) : Contract Try.prog 17 [.own 0, e.v] [.arr 6 (l.map Em.row)] (.own 1) [none, some (.arr 6 ((delE (insE l j e) last).map Em.row))] :=
  vcP hmix [.reg 1 [(2, [.call [1000] [] (I (idxI (pPut e) l)) [some (.box e.row)], .be (I (-1))], none)], .reg 3 [(1, [.be (I (j : Int))], none)], .reg 4 [(4, [.call [0, 804000] [] (.own 2) [none, some (.arr 6 [e.row]), some (.arr 6 ((insE l j e).map Em.row))]], none)], .reg 6 [(1, [.be (I ((insE l j e).length : Int))], none)], .cut ⟨[0, 3, 6, 7, 22, 23, 24], [(1000, 1000), (805001, 805001)], []⟩ (.exit 0) (putS (insE l j e) e c last (insE l j e).length), .reg 12 [(1, [], some true)], .reg 13 [(3, [.be (I ((last + 1 : Nat) : Int))], none), (4, [.call [805001] [] (.own 1) [none, some (.arr 6 ((delE (insE l j e) last).map Em.row))]], none)]] [2605001] [
      Contract Try.prog (21 : Nat) [V.sl (6 : Nat) (List.map Em.row l), V.clo (Fn.func (22 : Nat)) [] [V.ptr (0 : Nat) (0 : Nat) (0 : Nat) (0 : Nat)]] [Obj.box [Sg (Em.svc e), Sg (Em.op e), V.val (Value.int IntKind.u64 (Em.hi e)), V.val (Value.int IntKind.u64 (Em.lo e)), V.val (Value.int IntKind.u64 (Em.id e)), I (Em.block e)]] (I (idxI (pPut e) l)) [some (Obj.box (Em.row e))],
      true = true,
      true = true,
      idxI (pPut e) l = (-1 : Int),
      Int.ofNat (List.length (List.map Em.row l)) = Int.ofNat j,
      Contract Try.prog (24 : Nat) [V.own (0 : Nat), I (Int.ofNat j), V.own (1 : Nat)] [Obj.arr (6 : Nat) (List.map Em.row l), Obj.arr (6 : Nat) [[Sg (Em.svc e), Sg (Em.op e), V.val (Value.int IntKind.u64 (Em.hi e)), V.val (Value.int IntKind.u64 (Em.lo e)), V.val (Value.int IntKind.u64 (Em.id e)), I (Em.block e)]]] (V.own (2 : Nat)) [none, some (Obj.arr (6 : Nat) [Em.row e]), some (Obj.arr (6 : Nat) (List.map Em.row (insE l j e)))],
      Int.ofNat (List.length (List.map Em.row (insE l j e))) = Int.ofNat (List.length (insE l j e)),
      LoopC Try.prog (1 : Nat) (45 : Nat) putB { env := [((0 : Nat), V.own (805001 : Nat)), ((3 : Nat), V.ptr (1000 : Nat) (0 : Nat) (0 : Nat) (0 : Nat)), ((6 : Nat), I (0 : Int)), ((7 : Nat), I (0 : Int)), ((22 : Nat), V.own (805001 : Nat)), ((23 : Nat), I (Int.ofNat (List.length (insE l j e)))), ((24 : Nat), I (0 : Int))], st := [((1000 : Nat), Obj.box [Sg (Em.svc e), Sg (Em.op e), V.val (Value.int IntKind.u64 (Em.hi e)), V.val (Value.int IntKind.u64 (Em.lo e)), V.val (Value.int IntKind.u64 (Em.id e)), I (Em.block e)]), ((805001 : Nat), Obj.arr (6 : Nat) (List.map Em.row (insE l j e)))], ids := [(1000 : Nat), (805001 : Nat), (0 : Nat)] } (Ex.exit (0 : Nat)) { env := [((0 : Nat), V.own (805001 : Nat)), ((3 : Nat), V.ptr (1000 : Nat) (0 : Nat) (0 : Nat) (0 : Nat)), ((6 : Nat), I (Int.ofNat c)), ((7 : Nat), I (Int.ofNat last)), ((22 : Nat), V.own (805001 : Nat)), ((23 : Nat), I (Int.ofNat (List.length (insE l j e)))), ((24 : Nat), I (Int.ofNat (List.length (insE l j e))))], st := [((1000 : Nat), Obj.box (Em.row e)), ((805001 : Nat), Obj.arr (6 : Nat) (List.map Em.row (insE l j e)))], ids := [(1000 : Nat), (805001 : Nat), (0 : Nat)] },
      decide (Int.ofNat c > (2 : Int)) = true,
      IntKind.wrap IntKind.i64 (Int.ofNat (last + (1 : Nat))) = Int.ofNat (last + (1 : Nat)),
      Contract Try.prog (25 : Nat) [V.own (0 : Nat), I (Int.ofNat last), I (Int.ofNat (last + (1 : Nat)))] [Obj.arr (6 : Nat) (List.map Em.row (insE l j e))] (V.own (1 : Nat)) [none, some (Obj.arr (6 : Nat) (List.map Em.row (delE (insE l j e) last)))]] (by kernel_rfl)
    (by
      simp only [allP]
      and_intros <;> first
        | omega
        | with_reducible assumption
        | exact ixP l e (by omega)
        | exact hl
        | exact insO' l e j (by omega) hs
        | exact delO' _ last hlast
        | (simp; omega)
        | exact i64_small (by rw [insE_len] at hlast; simp; omega)
        | (simp; done)
        | decide)

theorem putD (l : List Em) (e : Em) (j : Nat) (c last : Nat) (hs : l.length ≤ 1000000000) (hf : idxI (pPut e) l = -1) (hj : j = l.length) (hl : LoopC Try.prog 1 45 putB (putS (insE l j e) e 0 0 0) (.exit 0) (putS (insE l j e) e c last (insE l j e).length)) (hc : c ≤ 2) : Contract Try.prog 17 [.own 0, e.v] [.arr 6 (l.map Em.row)] (.own 1) [none, some (.arr 6 ((insE l j e).map Em.row))] :=
  vcP hmix [.reg 1 [(2, [.call [1000] [] (I (idxI (pPut e) l)) [some (.box e.row)], .be (I (-1))], none)], .reg 3 [(1, [.be (I (j : Int))], none)], .reg 4 [(4, [.call [0, 804000] [] (.own 2) [none, some (.arr 6 [e.row]), some (.arr 6 ((insE l j e).map Em.row))]], none)], .reg 6 [(1, [.be (I ((insE l j e).length : Int))], none)], .cut ⟨[0, 3, 6, 7, 22, 23, 24], [(1000, 1000), (805001, 805001)], []⟩ (.exit 0) (putS (insE l j e) e c last (insE l j e).length), .reg 12 [(1, [], some false)]] [805001] [
      Contract Try.prog (21 : Nat) [V.sl (6 : Nat) (List.map Em.row l), V.clo (Fn.func (22 : Nat)) [] [V.ptr (0 : Nat) (0 : Nat) (0 : Nat) (0 : Nat)]] [Obj.box [Sg (Em.svc e), Sg (Em.op e), V.val (Value.int IntKind.u64 (Em.hi e)), V.val (Value.int IntKind.u64 (Em.lo e)), V.val (Value.int IntKind.u64 (Em.id e)), I (Em.block e)]] (I (idxI (pPut e) l)) [some (Obj.box (Em.row e))],
      true = true,
      true = true,
      idxI (pPut e) l = (-1 : Int),
      Int.ofNat (List.length (List.map Em.row l)) = Int.ofNat j,
      Contract Try.prog (24 : Nat) [V.own (0 : Nat), I (Int.ofNat j), V.own (1 : Nat)] [Obj.arr (6 : Nat) (List.map Em.row l), Obj.arr (6 : Nat) [[Sg (Em.svc e), Sg (Em.op e), V.val (Value.int IntKind.u64 (Em.hi e)), V.val (Value.int IntKind.u64 (Em.lo e)), V.val (Value.int IntKind.u64 (Em.id e)), I (Em.block e)]]] (V.own (2 : Nat)) [none, some (Obj.arr (6 : Nat) [Em.row e]), some (Obj.arr (6 : Nat) (List.map Em.row (insE l j e)))],
      Int.ofNat (List.length (List.map Em.row (insE l j e))) = Int.ofNat (List.length (insE l j e)),
      LoopC Try.prog (1 : Nat) (45 : Nat) putB { env := [((0 : Nat), V.own (805001 : Nat)), ((3 : Nat), V.ptr (1000 : Nat) (0 : Nat) (0 : Nat) (0 : Nat)), ((6 : Nat), I (0 : Int)), ((7 : Nat), I (0 : Int)), ((22 : Nat), V.own (805001 : Nat)), ((23 : Nat), I (Int.ofNat (List.length (insE l j e)))), ((24 : Nat), I (0 : Int))], st := [((1000 : Nat), Obj.box [Sg (Em.svc e), Sg (Em.op e), V.val (Value.int IntKind.u64 (Em.hi e)), V.val (Value.int IntKind.u64 (Em.lo e)), V.val (Value.int IntKind.u64 (Em.id e)), I (Em.block e)]), ((805001 : Nat), Obj.arr (6 : Nat) (List.map Em.row (insE l j e)))], ids := [(1000 : Nat), (805001 : Nat), (0 : Nat)] } (Ex.exit (0 : Nat)) { env := [((0 : Nat), V.own (805001 : Nat)), ((3 : Nat), V.ptr (1000 : Nat) (0 : Nat) (0 : Nat) (0 : Nat)), ((6 : Nat), I (Int.ofNat c)), ((7 : Nat), I (Int.ofNat last)), ((22 : Nat), V.own (805001 : Nat)), ((23 : Nat), I (Int.ofNat (List.length (insE l j e)))), ((24 : Nat), I (Int.ofNat (List.length (insE l j e))))], st := [((1000 : Nat), Obj.box (Em.row e)), ((805001 : Nat), Obj.arr (6 : Nat) (List.map Em.row (insE l j e)))], ids := [(1000 : Nat), (805001 : Nat), (0 : Nat)] },
      decide (Int.ofNat c > (2 : Int)) = false] (by kernel_rfl)
    (by
      simp only [allP]
      and_intros <;> first
        | omega
        | with_reducible assumption
        | exact ixP l e (by omega)
        | exact hl
        | exact insO' l e j (by omega) hs
        | (simp; omega)
        | (simp; done)
        | decide)

theorem cPut (l : List Em) (e : Em) (hs : l.length ≤ 1000000000) : Contract Try.prog 17 [.own 0, e.v] [.arr 6 (l.map Em.row)] (.own 1) [none, some (.arr 6 ((putE l e).map Em.row))] := by
  have key : ∀ j, j ≤ l.length → LoopC Try.prog 1 45 putB (putS (insE l j e) e 0 0 0) (.exit 0) (putS (insE l j e) e (scanE e (insE l j e) 0 0 0).1 (scanE e (insE l j e) 0 0 0).2 (insE l j e).length) := by
    intro j hj
    have h := putLoop (insE l j e) e (by rw [insE_len]; omega) (insE l j e).length 0 0 0 (by omega) (by omega)
    simpa only [List.drop_zero] using h
  have hlast : ∀ j, 2 < (scanE e (insE l j e) 0 0 0).1 → (scanE e (insE l j e) 0 0 0).2 < (insE l j e).length := by
    intro j h
    have := (scan_last e (insE l j e) 0 0 0).2.2
    omega
  unfold putE atE
  cases hf : l.findIdx? (pPut e) with
  | none =>
    have hi : idxI (pPut e) l = -1 := by unfold idxI; rw [hf]
    simp only [Option.getD_none]
    split
    · rename_i h; exact putC l e _ _ _ hs hi rfl (key _ (Nat.le_refl _)) h (hlast _ h)
    · rename_i h; exact putD l e _ _ _ hs hi rfl (key _ (Nat.le_refl _)) (by omega)
  | some j =>
    have hi : idxI (pPut e) l = (j : Int) := by unfold idxI; rw [hf]
    have hj : j ≤ l.length := by have := (List.findIdx?_eq_some_iff_getElem.1 hf).1; omega
    simp only [Option.getD_some]
    split
    · rename_i h; exact putA l e _ _ _ hs hi hj (key _ hj) h (hlast _ h)
    · rename_i h; exact putB2 l e _ _ _ hs hi hj (key _ hj) (by omega)

end Go.Proofs.Ytemjhlmdiicdcaa
