/- Proved here: whatever the input, gleaninglaw12.SlotsPlay returns true and leaves what it is handed as it was. No conditions beyond the row. -/
import Derived.Test.YtemjhlmdiicdcaaRows
import Derived.Test.YtemjhlmdiicdcaaSlG
namespace Go.Proofs.Ytemjhlmdiicdcaa
open E Go.ChangeShapes Go.WideShapes Go.ChangeAt Go.RowKit
set_option maxRecDepth 100000
set_option linter.unusedVariables false
set_option linter.unusedSimpArgs false


def FAlive : List V → Option V := fun _ => some (Bo true)
def em0 : Em := Em.mk ⟨#[97]⟩ ⟨#[98]⟩ 0 0 4 0
def keepE (b : Int) (l : List Em) : List Em := l.filter (fun y => !pDrop b y)
structure Doing where
  way : Int
  block : Int
  to : Int
  es : List Em
def Doing.row (a : Doing) : List V := [I a.way, I a.block, I a.to, .sl 6 (a.es.map Em.row)]
def paS (l : List Doing) (s o : ByteArray) (r : Bool) (A : List Em) (i : Nat) : SL := ⟨[(0, .sl 4 (l.map Doing.row)), (1, Sg s), (2, Sg o), (6, Bo r), (8, .sl 6 (A.map Em.row)), (9, .sl 6 (A.map Em.row)), (10, I (i : Int))], [], []⟩
noncomputable def paB : Code := codeAt Try.prog 4 [true, true, true, true, false, true, false, false]

theorem put0 : putE [] em0 = [em0] := by simp [putE, atE, insE, scanE, cmpE, cmpS_self, orI]

theorem cAlive  : Contract Try.prog 6 [] [] (Bo true) [] :=
  vcP hmix [.reg 1 [(2, [.call [] [] (.own 0) [some (.arr 6 [em0.row])]], none)], .reg 2 [(0, [.call [] [] (.own 0) [some (.arr 6 [])]], none)]] [] [
      Contract Try.prog (7 : Nat) [V.sl (6 : Nat) [], V.sl (6 : Nat) [[Sg { data := { toList := [(97 : UInt8)] } }, Sg { data := { toList := [(98 : UInt8)] } }, V.val (Value.int IntKind.u64 (0 : Int)), V.val (Value.int IntKind.u64 (0 : Int)), V.val (Value.int IntKind.u64 (4 : Int)), I (0 : Int)]]] [] (V.own (0 : Nat)) [some (Obj.arr (6 : Nat) [Em.row { svc := { data := { toList := [(97 : UInt8)] } }, op := { data := { toList := [(98 : UInt8)] } }, hi := (0 : Int), lo := (0 : Int), id := (4 : Int), block := (0 : Int) }])],
      true = true,
      FlatRows [Em.row { svc := { data := { toList := [(97 : UInt8)] } }, op := { data := { toList := [(98 : UInt8)] } }, hi := (0 : Int), lo := (0 : Int), id := (4 : Int), block := (0 : Int) }],
      Contract Try.prog (8 : Nat) [V.sl (6 : Nat) [], Sg { data := { toList := [(97 : UInt8)] } }, Sg { data := { toList := [(98 : UInt8)] } }] [] (V.own (0 : Nat)) [some (Obj.arr (6 : Nat) [])],
      (0 : Int) ≤ (0 : Int),
      (0 : Int) < (1 : Int)] (by kernel_rfl)
    (by
      simp only [allP]
      and_intros <;> first
        | omega
        | with_reducible assumption
        | (have h := cPuts [] [em0] (by simp); simp only [List.foldl_cons, List.foldl_nil, put0] at h; exact h)
        | exact cFind [] _ _ (by simp)
        | exact flatRow [em0]
        | exact flatRow []
        | (simp; done)
        | decide)

theorem cPutsR' (l es : List Em) (hf : few l) (hb : l.length + es.length ≤ 999999999) : Contract Try.prog 9 [.sl 6 (l.map Em.row), .sl 6 (es.map Em.row)] [] (.sl 6 ((es.foldl putE l).map Em.row)) [] := by
  rw [(puts_one es l hf).1]
  exact cPutsR l es hb
theorem cDropR' (l : List Em) (b : Int) (hb : l.length ≤ 1000000000) : Contract Try.prog 11 [.sl 6 (l.map Em.row), I b] [] (.own 0) [some (.arr 6 ((keepE b l).map Em.row))] := cDropR l b hb
theorem cDrop' (l : List Em) (b : Int) (hb : l.length ≤ 1000000000) : Contract Try.prog 10 [.sl 6 (l.map Em.row), I b] [] (.own 0) [some (.arr 6 ((keepE b l).map Em.row))] := cDrop l b hb

theorem paPut (l : List Doing) (s o : ByteArray) (A : List Em) (x : Doing) (i : Nat) (h : i < l.length) (hx : l[i]? = some x) (hs : l.length ≤ 1000000000) (he : x.es.length ≤ 20) (hf : few A) (hA : A.length ≤ 100000) (hw : x.way = 0) (hB : (x.es.foldl putE A).length ≤ 1000000000) : CodeC Try.prog 0 119 paB (paS l s o false A i) .normal (paS l s o false (x.es.foldl putE A) (i + 1)) :=
  runP hmix [.reg 6 [(3, [], some true)], .reg 8 [(4, [.row (Doing.row x)], none), (6, [], some false)], .reg 10 [(4, [.row (Doing.row x)], none)], .reg 11 [(0, [], some true)], .reg 12 [(4, [.row (Doing.row x)], none), (5, [.row (Doing.row x)], none), (6, [.call [] [] (.own 0) [some (.arr 6 ((x.es.foldl putE A).map Em.row))]], none), (7, [.idx 1], none)], .reg 13 [(4, [.row (Doing.row x)], none), (5, [.row (Doing.row x)], none), (6, [.call [] [] (.sl 6 ((x.es.foldl putE A).map Em.row)) []], none)], .reg 20 [(2, [.call [] [] (Bo true) []], none)], .reg 7 [(1, [.be (I ((i + 1 : Nat) : Int))], none)]] ⟨[0, 1, 2, 6, 8, 9, 10], [], []⟩ [
      decide (Int.ofNat i < Int.ofNat (List.length (List.map Doing.row l))) = true,
      (0 : Int) ≤ Int.ofNat i,
      Int.ofNat i < Int.ofNat (List.length (List.map Doing.row l)),
      (List.map Doing.row l)[i]? = some (Doing.row x),
      decide (Int.ofNat (List.length (List.map Em.row (Doing.es x))) > (20 : Int)) = false,
      (0 : Int) ≤ Int.ofNat i,
      Int.ofNat i < Int.ofNat (List.length (List.map Doing.row l)),
      (List.map Doing.row l)[i]? = some (Doing.row x),
      (Doing.way x == (0 : Int)) = true,
      (0 : Int) ≤ Int.ofNat i,
      Int.ofNat i < Int.ofNat (List.length (List.map Doing.row l)),
      (List.map Doing.row l)[i]? = some (Doing.row x),
      Contract Try.prog (7 : Nat) [V.sl (6 : Nat) (List.map Em.row A), V.sl (6 : Nat) (List.map Em.row (Doing.es x))] [] (V.own (0 : Nat)) [some (Obj.arr (6 : Nat) (List.map Em.row (List.foldl putE A (Doing.es x))))],
      (0 : Int) ≤ Int.ofNat i,
      Int.ofNat i < Int.ofNat (List.length (List.map Doing.row l)),
      (List.map Doing.row l)[i]? = some (Doing.row x),
      Contract Try.prog (9 : Nat) [V.sl (6 : Nat) (List.map Em.row A), V.sl (6 : Nat) (List.map Em.row (Doing.es x))] [] (V.sl (6 : Nat) (List.map Em.row (List.foldl putE A (Doing.es x)))) [],
      Contract Try.prog (14 : Nat) [V.sl (6 : Nat) (List.map Em.row (List.foldl putE A (Doing.es x))), V.sl (6 : Nat) (List.map Em.row (List.foldl putE A (Doing.es x)))] [] (Bo true) [],
      IntKind.wrap IntKind.i64 (Int.ofNat (i + (1 : Nat))) = Int.ofNat (i + (1 : Nat))] (by kernel_rfl)
    (by
      simp only [allP]
      and_intros <;> first
        | omega
        | with_reducible assumption
        | exact cSame _ hB
        | exact cPuts A x.es (by omega)
        | exact cPutsR' A x.es hf (by omega)
        | (simp; omega)
        | (simp [hx]; done)
        | exact i64_small (by simp; omega)
        | exact flatRow _
        | (simp [hw]; done)
        | (simp; done)
        | decide)

theorem paDrop (l : List Doing) (s o : ByteArray) (A : List Em) (x : Doing) (i : Nat) (h : i < l.length) (hx : l[i]? = some x) (hs : l.length ≤ 1000000000) (he : x.es.length ≤ 20) (hf : few A) (hA : A.length ≤ 100000) (hw : x.way = 1) (hB : (keepE x.block A).length ≤ 1000000000) : CodeC Try.prog 0 119 paB (paS l s o false A i) .normal (paS l s o false (keepE x.block A) (i + 1)) :=
  runP hmix [.reg 6 [(3, [], some true)], .reg 8 [(4, [.row (Doing.row x)], none), (6, [], some false)], .reg 10 [(4, [.row (Doing.row x)], none)], .reg 11 [(0, [], some false)], .reg 14 [(0, [], some true)], .reg 15 [(5, [.row (Doing.row x)], none), (6, [.call [] [] (.own 0) [some (.arr 6 ((keepE x.block A).map Em.row))]], none), (7, [.idx 1], none)], .reg 16 [(5, [.row (Doing.row x)], none), (6, [.call [] [] (.own 0) [some (.arr 6 ((keepE x.block A).map Em.row))]], none), (7, [.idx 1], none)], .reg 20 [(2, [.call [] [] (Bo true) []], none)], .reg 7 [(1, [.be (I ((i + 1 : Nat) : Int))], none)]] ⟨[0, 1, 2, 6, 8, 9, 10], [], []⟩ [
      decide (Int.ofNat i < Int.ofNat (List.length (List.map Doing.row l))) = true,
      (0 : Int) ≤ Int.ofNat i,
      Int.ofNat i < Int.ofNat (List.length (List.map Doing.row l)),
      (List.map Doing.row l)[i]? = some (Doing.row x),
      decide (Int.ofNat (List.length (List.map Em.row (Doing.es x))) > (20 : Int)) = false,
      (0 : Int) ≤ Int.ofNat i,
      Int.ofNat i < Int.ofNat (List.length (List.map Doing.row l)),
      (List.map Doing.row l)[i]? = some (Doing.row x),
      (Doing.way x == (0 : Int)) = false,
      (Doing.way x == (1 : Int)) = true,
      (0 : Int) ≤ Int.ofNat i,
      Int.ofNat i < Int.ofNat (List.length (List.map Doing.row l)),
      (List.map Doing.row l)[i]? = some (Doing.row x),
      Contract Try.prog (10 : Nat) [V.sl (6 : Nat) (List.map Em.row A), I (Doing.block x)] [] (V.own (0 : Nat)) [some (Obj.arr (6 : Nat) (List.map Em.row (keepE (Doing.block x) A)))],
      (0 : Int) ≤ Int.ofNat i,
      Int.ofNat i < Int.ofNat (List.length (List.map Doing.row l)),
      (List.map Doing.row l)[i]? = some (Doing.row x),
      Contract Try.prog (11 : Nat) [V.sl (6 : Nat) (List.map Em.row A), I (Doing.block x)] [] (V.own (0 : Nat)) [some (Obj.arr (6 : Nat) (List.map Em.row (keepE (Doing.block x) A)))],
      Contract Try.prog (14 : Nat) [V.sl (6 : Nat) (List.map Em.row (keepE (Doing.block x) A)), V.sl (6 : Nat) (List.map Em.row (keepE (Doing.block x) A))] [] (Bo true) [],
      IntKind.wrap IntKind.i64 (Int.ofNat (i + (1 : Nat))) = Int.ofNat (i + (1 : Nat))] (by kernel_rfl)
    (by
      simp only [allP]
      and_intros <;> first
        | omega
        | with_reducible assumption
        | exact cSame _ hB
        | exact cDrop' A x.block (by omega)
        | exact cDropR' A x.block (by omega)
        | (simp; omega)
        | (simp [hx]; done)
        | exact i64_small (by simp; omega)
        | exact flatRow _
        | (simp [hw]; done)
        | (simp; done)
        | decide)

theorem paMove (l : List Doing) (s o : ByteArray) (A : List Em) (x : Doing) (i : Nat) (h : i < l.length) (hx : l[i]? = some x) (hs : l.length ≤ 1000000000) (he : x.es.length ≤ 20) (hf : few A) (hA : A.length ≤ 100000) (hw : x.way = 2) (hB : (A.map (movE x.block x.to)).length ≤ 1000000000) : CodeC Try.prog 0 119 paB (paS l s o false A i) .normal (paS l s o false (A.map (movE x.block x.to)) (i + 1)) :=
  runP hmix [.reg 6 [(3, [], some true)], .reg 8 [(4, [.row (Doing.row x)], none), (6, [], some false)], .reg 10 [(4, [.row (Doing.row x)], none)], .reg 11 [(0, [], some false)], .reg 14 [(0, [], some false)], .reg 17 [(0, [], some true)], .reg 18 [(5, [.row (Doing.row x)], none), (10, [.row (Doing.row x)], none), (11, [.call [] [] (.own 0) [some (.arr 6 ((A.map (movE x.block x.to)).map Em.row))]], none), (12, [.idx 1], none)], .reg 19 [(5, [.row (Doing.row x)], none), (10, [.row (Doing.row x)], none), (11, [.call [] [] (.own 0) [some (.arr 6 ((A.map (movE x.block x.to)).map Em.row))]], none), (12, [.idx 1], none)], .reg 20 [(2, [.call [] [] (Bo true) []], none)], .reg 7 [(1, [.be (I ((i + 1 : Nat) : Int))], none)]] ⟨[0, 1, 2, 6, 8, 9, 10], [], []⟩ [
      decide (Int.ofNat i < Int.ofNat (List.length (List.map Doing.row l))) = true,
      (0 : Int) ≤ Int.ofNat i,
      Int.ofNat i < Int.ofNat (List.length (List.map Doing.row l)),
      (List.map Doing.row l)[i]? = some (Doing.row x),
      decide (Int.ofNat (List.length (List.map Em.row (Doing.es x))) > (20 : Int)) = false,
      (0 : Int) ≤ Int.ofNat i,
      Int.ofNat i < Int.ofNat (List.length (List.map Doing.row l)),
      (List.map Doing.row l)[i]? = some (Doing.row x),
      (Doing.way x == (0 : Int)) = false,
      (Doing.way x == (1 : Int)) = false,
      (Doing.way x == (2 : Int)) = true,
      (0 : Int) ≤ Int.ofNat i,
      Int.ofNat i < Int.ofNat (List.length (List.map Doing.row l)),
      (List.map Doing.row l)[i]? = some (Doing.row x),
      (0 : Int) ≤ Int.ofNat i,
      Int.ofNat i < Int.ofNat (List.length (List.map Doing.row l)),
      (List.map Doing.row l)[i]? = some (Doing.row x),
      Contract Try.prog (12 : Nat) [V.sl (6 : Nat) (List.map Em.row A), I (Doing.block x), I (Doing.to x)] [] (V.own (0 : Nat)) [some (Obj.arr (6 : Nat) (List.map Em.row (List.map (movE (Doing.block x) (Doing.to x)) A)))],
      (0 : Int) ≤ Int.ofNat i,
      Int.ofNat i < Int.ofNat (List.length (List.map Doing.row l)),
      (List.map Doing.row l)[i]? = some (Doing.row x),
      (0 : Int) ≤ Int.ofNat i,
      Int.ofNat i < Int.ofNat (List.length (List.map Doing.row l)),
      (List.map Doing.row l)[i]? = some (Doing.row x),
      Contract Try.prog (13 : Nat) [V.sl (6 : Nat) (List.map Em.row A), I (Doing.block x), I (Doing.to x)] [] (V.own (0 : Nat)) [some (Obj.arr (6 : Nat) (List.map Em.row (List.map (movE (Doing.block x) (Doing.to x)) A)))],
      Contract Try.prog (14 : Nat) [V.sl (6 : Nat) (List.map Em.row (List.map (movE (Doing.block x) (Doing.to x)) A)), V.sl (6 : Nat) (List.map Em.row (List.map (movE (Doing.block x) (Doing.to x)) A))] [] (Bo true) [],
      IntKind.wrap IntKind.i64 (Int.ofNat (i + (1 : Nat))) = Int.ofNat (i + (1 : Nat))] (by kernel_rfl)
    (by
      simp only [allP]
      and_intros <;> first
        | omega
        | with_reducible assumption
        | exact cSame _ hB
        | exact cMove A x.block x.to (by omega)
        | exact cMoveR A x.block x.to (by omega)
        | (simp; omega)
        | (simp [hx]; done)
        | exact i64_small (by simp; omega)
        | exact flatRow _
        | (simp [hw]; done)
        | (simp; done)
        | decide)

theorem paNone (l : List Doing) (s o : ByteArray) (A : List Em) (x : Doing) (i : Nat) (h : i < l.length) (hx : l[i]? = some x) (hs : l.length ≤ 1000000000) (he : x.es.length ≤ 20) (hf : few A) (hA : A.length ≤ 100000) (h0 : ¬ x.way = 0) (h1 : ¬ x.way = 1) (h2 : ¬ x.way = 2) (hw : True) (hB : (A).length ≤ 1000000000) : CodeC Try.prog 0 119 paB (paS l s o false A i) .normal (paS l s o false (A) (i + 1)) :=
  runP hmix [.reg 6 [(3, [], some true)], .reg 8 [(4, [.row (Doing.row x)], none), (6, [], some false)], .reg 10 [(4, [.row (Doing.row x)], none)], .reg 11 [(0, [], some false)], .reg 14 [(0, [], some false)], .reg 17 [(0, [], some false)], .reg 20 [(2, [.call [] [] (Bo true) []], none)], .reg 7 [(1, [.be (I ((i + 1 : Nat) : Int))], none)]] ⟨[0, 1, 2, 6, 8, 9, 10], [], []⟩ [
      decide (Int.ofNat i < Int.ofNat (List.length (List.map Doing.row l))) = true,
      (0 : Int) ≤ Int.ofNat i,
      Int.ofNat i < Int.ofNat (List.length (List.map Doing.row l)),
      (List.map Doing.row l)[i]? = some (Doing.row x),
      decide (Int.ofNat (List.length (List.map Em.row (Doing.es x))) > (20 : Int)) = false,
      (0 : Int) ≤ Int.ofNat i,
      Int.ofNat i < Int.ofNat (List.length (List.map Doing.row l)),
      (List.map Doing.row l)[i]? = some (Doing.row x),
      (Doing.way x == (0 : Int)) = false,
      (Doing.way x == (1 : Int)) = false,
      (Doing.way x == (2 : Int)) = false,
      Contract Try.prog (14 : Nat) [V.sl (6 : Nat) (List.map Em.row A), V.sl (6 : Nat) (List.map Em.row A)] [] (Bo true) [],
      IntKind.wrap IntKind.i64 (Int.ofNat (i + (1 : Nat))) = Int.ofNat (i + (1 : Nat))] (by kernel_rfl)
    (by
      simp only [allP]
      and_intros <;> first
        | omega
        | with_reducible assumption
        | exact cSame _ hB
        | (simp [h0]; done)
        | (simp [h1]; done)
        | (simp [h2]; done)
        | (simp; omega)
        | (simp [hx]; done)
        | exact i64_small (by simp; omega)
        | exact flatRow _
        | (simp [hw]; done)
        | (simp; done)
        | decide)

theorem paLong (l : List Doing) (s o : ByteArray) (A : List Em) (x : Doing) (i : Nat) (h : i < l.length) (hx : l[i]? = some x) (hs : l.length ≤ 1000000000) (he : 20 < x.es.length) : CodeC Try.prog 0 119 paB (paS l s o false A i) .ret (paS l s o true A i) :=
  runP hmix [.reg 6 [(3, [], some true)], .reg 8 [(4, [.row (Doing.row x)], none), (6, [], some true)]] ⟨[0, 1, 2, 6, 8, 9, 10], [], []⟩ [
      decide (Int.ofNat i < Int.ofNat (List.length (List.map Doing.row l))) = true,
      (0 : Int) ≤ Int.ofNat i,
      Int.ofNat i < Int.ofNat (List.length (List.map Doing.row l)),
      (List.map Doing.row l)[i]? = some (Doing.row x),
      decide (Int.ofNat (List.length (List.map Em.row (Doing.es x))) > (20 : Int)) = true] (by kernel_rfl)
    (by
      simp only [allP]
      and_intros <;> first
        | omega
        | with_reducible assumption
        | (simp; omega)
        | (simp [hx]; done)
        | (simp; done)
        | decide)

theorem paEnd (l : List Doing) (s o : ByteArray) (A : List Em) (i : Nat) (h : l.length ≤ i) : CodeC Try.prog 0 119 paB (paS l s o false A i) (.exit 0) (paS l s o false A i) :=
  runP hmix [.reg 6 [(3, [], some false)]] ⟨[0, 1, 2, 6, 8, 9, 10], [], []⟩ [
      decide (Int.ofNat i < Int.ofNat (List.length (List.map Doing.row l))) = false] (by kernel_rfl)
    (by
      simp only [allP]
      and_intros <;> first
        | omega
        | with_reducible assumption
        | (simp; omega)
        | (simp; done)
        | decide)

theorem paLoop (l : List Doing) (s o : ByteArray) (hs : l.length ≤ 40) : ∀ (m i : Nat) (A : List Em), i + m = l.length → few A → A.length ≤ 20 * i →
    (∃ B j, LoopC Try.prog 0 119 paB (paS l s o false A i) .ret (paS l s o true B j)) ∨ ∃ B, B.length ≤ 800 ∧ LoopC Try.prog 0 119 paB (paS l s o false A i) (.exit 0) (paS l s o false B l.length)
  | 0, i, A, hi, hf, hA => by
    have : i = l.length := by omega
    subst this
    exact .inr ⟨A, by omega, LoopC.last (paEnd l s o A _ (Nat.le_refl _)) (by simp)⟩
  | m + 1, i, A, hi, hf, hA => by
    have hlt : i < l.length := by omega
    have hx : l[i]? = some l[i] := List.getElem?_eq_getElem hlt
    have hb : l.length ≤ 1000000000 := by omega
    have go : ∀ B : List Em, CodeC Try.prog 0 119 paB (paS l s o false A i) .normal (paS l s o false B (i + 1)) → few B → B.length ≤ 20 * (i + 1) →
        (∃ B j, LoopC Try.prog 0 119 paB (paS l s o false A i) .ret (paS l s o true B j)) ∨ ∃ B, B.length ≤ 800 ∧ LoopC Try.prog 0 119 paB (paS l s o false A i) (.exit 0) (paS l s o false B l.length) := by
      intro B hc hB hl
      rcases paLoop l s o hs m (i + 1) B (by omega) hB hl with ⟨C, j, k⟩ | ⟨C, hC, k⟩
      · exact .inl ⟨C, j, LoopC.next hc k⟩
      · exact .inr ⟨C, hC, LoopC.next hc k⟩
    by_cases he : 20 < l[i].es.length
    · exact .inl ⟨A, i, LoopC.last (paLong l s o A l[i] i hlt hx hb he) (by simp)⟩
    have he' : l[i].es.length ≤ 20 := by omega
    have hA' : A.length ≤ 100000 := by omega
    by_cases h0 : l[i].way = 0
    · have hl := foldl_len l[i].es A
      exact go _ (paPut l s o A l[i] i hlt hx hb he' hf hA' h0 (by omega)) (puts_one _ _ hf).2 (by omega)
    by_cases h1 : l[i].way = 1
    · have hl : (keepE l[i].block A).length ≤ A.length := List.length_filter_le _ _
      exact go _ (paDrop l s o A l[i] i hlt hx hb he' hf hA' h1 (by omega)) (few_filter _ hf) (by omega)
    by_cases h2 : l[i].way = 2
    · have hl : (A.map (movE l[i].block l[i].to)).length = A.length := List.length_map _
      exact go _ (paMove l s o A l[i] i hlt hx hb he' hf hA' h2 (by omega)) (few_mov _ _ hf) (by omega)
    exact go _ (paNone l s o A l[i] i hlt hx hb he' hf hA' h0 h1 h2 trivial (by omega)) hf (by omega)

theorem playRet (l : List Doing) (s o : ByteArray) (B : List Em) (j : Nat) (h1 : l.length ≤ 40) (h2 : s.size ≤ 50) (h3 : o.size ≤ 50) (hl : LoopC Try.prog 0 119 paB (paS l s o false [] 0) .ret (paS l s o true B j)) : Contract Try.prog 4 [.sl 4 (l.map Doing.row), Sg s, Sg o] [] (Bo true) [] :=
  vcP hmix [.reg 2 [(5, [], some false), (10, [], some false), (15, [], some false)], .reg 4 [(0, [.idx 6, .idx 1], none), (1, [.idx 6, .idx 1], none)], .cut ⟨[0, 1, 2, 6, 8, 9, 10], [], []⟩ .ret (paS l s o true B j), .tab [(6, FAlive)]] [] [
      Contract Try.prog (6 : Nat) [] [] (Bo true) [],
      decide (Int.ofNat (List.length (List.map Doing.row l)) > (40 : Int)) = false,
      decide (Int.ofNat (ByteArray.size s) > (50 : Int)) = false,
      decide (Int.ofNat (ByteArray.size o) > (50 : Int)) = false,
      LoopC Try.prog (0 : Nat) (119 : Nat) paB { env := [((0 : Nat), V.sl (4 : Nat) (List.map Doing.row l)), ((1 : Nat), Sg s), ((2 : Nat), Sg o), ((6 : Nat), Bo false), ((8 : Nat), V.sl (6 : Nat) []), ((9 : Nat), V.sl (6 : Nat) []), ((10 : Nat), I (0 : Int))], st := [], ids := [] } Ex.ret { env := [((0 : Nat), V.sl (4 : Nat) (List.map Doing.row l)), ((1 : Nat), Sg s), ((2 : Nat), Sg o), ((6 : Nat), Bo true), ((8 : Nat), V.sl (6 : Nat) (List.map Em.row B)), ((9 : Nat), V.sl (6 : Nat) (List.map Em.row B)), ((10 : Nat), I (Int.ofNat j))], st := [], ids := [] }] (by kernel_rfl)
    (by
      simp only [allP]
      and_intros <;> first
        | omega
        | with_reducible assumption
        | exact cAlive
        | exact hl
        | (simp; omega)
        | (simp; done)
        | decide)

theorem playExit (l : List Doing) (s o : ByteArray) (B : List Em) (h1 : l.length ≤ 40) (h2 : s.size ≤ 50) (h3 : o.size ≤ 50) (hB : B.length ≤ 800) (hl : LoopC Try.prog 0 119 paB (paS l s o false [] 0) (.exit 0) (paS l s o false B l.length)) : Contract Try.prog 4 [.sl 4 (l.map Doing.row), Sg s, Sg o] [] (Bo true) [] :=
  vcP hmix [.reg 2 [(5, [], some false), (10, [], some false), (15, [], some false)], .reg 4 [(0, [.idx 6, .idx 1], none), (1, [.idx 6, .idx 1], none)], .cut ⟨[0, 1, 2, 6, 8, 9, 10], [], []⟩ (.exit 0) (paS l s o false B l.length), .reg 22 [(3, [.call [] [] (.own 0) [some (.arr 6 ((B.filter (sameK s o)).map Em.row))]], none), (7, [.call [] [] (.own 0) [some (.arr 6 ((B.filter (sameK s o)).map Em.row))]], none), (8, [.call [] [4404001, 4408001] (Bo true) []], none)], .tab [(6, FAlive)]] [] [
      Contract Try.prog (6 : Nat) [] [] (Bo true) [],
      decide (Int.ofNat (List.length (List.map Doing.row l)) > (40 : Int)) = false,
      decide (Int.ofNat (ByteArray.size s) > (50 : Int)) = false,
      decide (Int.ofNat (ByteArray.size o) > (50 : Int)) = false,
      LoopC Try.prog (0 : Nat) (119 : Nat) paB { env := [((0 : Nat), V.sl (4 : Nat) (List.map Doing.row l)), ((1 : Nat), Sg s), ((2 : Nat), Sg o), ((6 : Nat), Bo false), ((8 : Nat), V.sl (6 : Nat) []), ((9 : Nat), V.sl (6 : Nat) []), ((10 : Nat), I (0 : Int))], st := [], ids := [] } (Ex.exit (0 : Nat)) { env := [((0 : Nat), V.sl (4 : Nat) (List.map Doing.row l)), ((1 : Nat), Sg s), ((2 : Nat), Sg o), ((6 : Nat), Bo false), ((8 : Nat), V.sl (6 : Nat) (List.map Em.row B)), ((9 : Nat), V.sl (6 : Nat) (List.map Em.row B)), ((10 : Nat), I (Int.ofNat (List.length l)))], st := [], ids := [] },
      Contract Try.prog (8 : Nat) [V.sl (6 : Nat) (List.map Em.row B), Sg s, Sg o] [] (V.own (0 : Nat)) [some (Obj.arr (6 : Nat) (List.map Em.row (List.filter (sameK s o) B)))],
      Contract Try.prog (15 : Nat) [V.sl (6 : Nat) (List.map Em.row B), Sg s, Sg o] [] (V.own (0 : Nat)) [some (Obj.arr (6 : Nat) (List.map Em.row (List.filter (sameK s o) B)))],
      Contract Try.prog (14 : Nat) [V.sl (6 : Nat) (List.map Em.row (List.filter (sameK s o) B)), V.sl (6 : Nat) (List.map Em.row (List.filter (sameK s o) B))] [] (Bo true) []] (by kernel_rfl)
    (by
      simp only [allP]
      and_intros <;> first
        | omega
        | with_reducible assumption
        | exact cAlive
        | exact hl
        | exact cFind B s o (by omega)
        | exact cFindR B s o (by omega)
        | exact cSame _ (by have := List.length_filter_le (sameK s o) B; omega)
        | exact flatRow _
        | (simp; omega)
        | (simp; done)
        | decide)

theorem playA (l : List Doing) (s o : ByteArray) (h : 40 < l.length) : Contract Try.prog 4 [.sl 4 (l.map Doing.row), Sg s, Sg o] [] (Bo true) [] :=
  vcP hmix [.reg 2 [(5, [], some true)], .tab [(6, FAlive)]] [] [
      Contract Try.prog (6 : Nat) [] [] (Bo true) [],
      decide (Int.ofNat (List.length (List.map Doing.row l)) > (40 : Int)) = true] (by kernel_rfl)
    (by
      simp only [allP]
      and_intros <;> first
        | omega
        | with_reducible assumption
        | exact cAlive
        | (simp; omega)
        | (simp; done)
        | decide)

theorem playB (l : List Doing) (s o : ByteArray) (h : l.length ≤ 40) (h2 : 50 < s.size) : Contract Try.prog 4 [.sl 4 (l.map Doing.row), Sg s, Sg o] [] (Bo true) [] :=
  vcP hmix [.reg 2 [(5, [], some false), (10, [], some true)], .tab [(6, FAlive)]] [] [
      Contract Try.prog (6 : Nat) [] [] (Bo true) [],
      decide (Int.ofNat (List.length (List.map Doing.row l)) > (40 : Int)) = false,
      decide (Int.ofNat (ByteArray.size s) > (50 : Int)) = true] (by kernel_rfl)
    (by
      simp only [allP]
      and_intros <;> first
        | omega
        | with_reducible assumption
        | exact cAlive
        | (simp; omega)
        | (simp; done)
        | decide)

theorem playC (l : List Doing) (s o : ByteArray) (h : l.length ≤ 40) (h2 : s.size ≤ 50) (h3 : 50 < o.size) : Contract Try.prog 4 [.sl 4 (l.map Doing.row), Sg s, Sg o] [] (Bo true) [] :=
  vcP hmix [.reg 2 [(5, [], some false), (10, [], some false), (15, [], some true)], .tab [(6, FAlive)]] [] [
      Contract Try.prog (6 : Nat) [] [] (Bo true) [],
      decide (Int.ofNat (List.length (List.map Doing.row l)) > (40 : Int)) = false,
      decide (Int.ofNat (ByteArray.size s) > (50 : Int)) = false,
      decide (Int.ofNat (ByteArray.size o) > (50 : Int)) = true] (by kernel_rfl)
    (by
      simp only [allP]
      and_intros <;> first
        | omega
        | with_reducible assumption
        | exact cAlive
        | (simp; omega)
        | (simp; done)
        | decide)

theorem cPlay (l : List Doing) (s o : ByteArray) : Contract Try.prog 4 [.sl 4 (l.map Doing.row), Sg s, Sg o] [] (Bo true) [] := by
  by_cases h1 : 40 < l.length
  · exact playA l s o h1
  by_cases h2 : 50 < s.size
  · exact playB l s o (by omega) h2
  by_cases h3 : 50 < o.size
  · exact playC l s o (by omega) (by omega) h3
  rcases paLoop l s o (by omega) l.length 0 [] (by omega) (fun e => by rw [zN_nil]; omega) (by simp) with ⟨B, j, k⟩ | ⟨B, hB, k⟩
  · exact playRet l s o B j (by omega) (by omega) (by omega) k
  · exact playExit l s o B (by omega) (by omega) (by omega) hB k

theorem typed_em {r : List V} {d : Nat} (h : Typed Try.prog (d + 3) 29 r) : ∃ e : Em, r = e.row := by
  obtain ⟨_, _, rfl, h0, _, _, rfl, h1, _, _, rfl, h2, _, _, rfl, h3, _, _, rfl, h4, rfl⟩ :
    catFields (Typed Try.prog (d + 2)) [⟨"Service", 9, 0, false, "", "", 0⟩, ⟨"Op", 9, 1, false, "", "", 16⟩, ⟨"Trace", 27, 2, false, "", "", 32⟩, ⟨"Id", 25, 4, false, "", "", 48⟩, ⟨"Block", 3, 5, false, "", "", 56⟩] r := typed_struct Try.underlying29 h
  obtain ⟨_, _, rfl, g0, _, _, rfl, g1, rfl⟩ : catFields (Typed Try.prog (d + 1)) [⟨"Hi", 25, 0, false, "", "", 0⟩, ⟨"Lo", 25, 1, false, "", "", 8⟩] _ := typed_struct Try.underlying27 h2
  obtain ⟨svc, rfl, _⟩ := typed_string Try.underlying9 h0
  obtain ⟨op, rfl, _⟩ := typed_string Try.underlying9 h1
  obtain ⟨hi, rfl, _⟩ := typed_int Try.underlying25 g0
  obtain ⟨lo, rfl, _⟩ := typed_int Try.underlying25 g1
  obtain ⟨id, rfl, _⟩ := typed_int Try.underlying25 h3
  obtain ⟨bl, rfl, _⟩ := typed_int Try.underlying3 h4
  exact ⟨Em.mk svc op hi lo id bl, rfl⟩

theorem typed_all {α : Type} {f : α → List V} {rows : List (List V)} (h : ∀ r ∈ rows, ∃ e : α, r = f e) : ∃ es : List α, rows = es.map f := by
  induction rows with
  | nil => exact ⟨[], rfl⟩
  | cons r rows ih =>
    obtain ⟨e, rfl⟩ := h r (by simp)
    obtain ⟨es, rfl⟩ := ih fun r hr => h r (by simp [hr])
    exact ⟨e :: es, rfl⟩

theorem typed_act {r : List V} (h : Typed Try.prog 7 34 r) : ∃ a : Doing, r = a.row := by
  obtain ⟨_, _, rfl, h0, _, _, rfl, h1, _, _, rfl, h2, _, _, rfl, h3, rfl⟩ :
    catFields (Typed Try.prog 6) [⟨"Way", 3, 0, false, "", "", 0⟩, ⟨"Block", 3, 1, false, "", "", 8⟩, ⟨"To", 3, 2, false, "", "", 16⟩, ⟨"E", 23, 3, false, "", "", 24⟩] r := typed_struct Try.underlying34 h
  obtain ⟨w, rfl, _⟩ := typed_int Try.underlying3 h0
  obtain ⟨b, rfl, _⟩ := typed_int Try.underlying3 h1
  obtain ⟨t, rfl, _⟩ := typed_int Try.underlying3 h2
  obtain ⟨rows, rfl, _, hr⟩ := typed_slice Try.underlying23 h3
  obtain ⟨es, rfl⟩ := typed_all (f := Em.row) fun r h => typed_em (d := 2) (hr r h)
  exact ⟨Doing.mk w b t es, rfl⟩

theorem own : ownKnob Try.prog.godebug = none := by kernel_rfl
theorem laidOut : laidOutB Try.prog = true := by kernel_rfl

theorem play_lifted (os : Os) (started : os.Started) (H : Type) (enc : TypeId × Value → H) :
    ReturnsInHanded {} Try.checked os 4 .any (Rows.slotsPlaySpec.pre6 enc Try.prog Try.f4 Rows.slotsPlayRow.domain false) (Rows.slotsPlaySpec.post enc Try.prog Try.f4 false true false false) := by
  refine returnsInHanded_of_change (C := Try.checked) own started (by kernel_rfl) Try.func4
    (ChangeSpec.witness6 (enc := enc) (C := Try.checked) false ⟨#[], #[.slice none 0 0, .string ByteArray.empty, .string ByteArray.empty], []⟩ 8 (by kernel_rfl) (by kernel_rfl) (by kernel_rfl) (by kernel_rfl)) ?_
  intro W base args ds gs before hval hW _ _
  refine row_of (P := Try.prog) (tb := 4) laidOut rfl (by kernel_rfl) (by kernel_rfl) (by kernel_rfl) Try.underlying4 (fun ds h => ?_) (fun us h => ?_) W base args ds gs before hval hW
  · match ds, h with
    | [_, _, _], _ => rfl
  · obtain ⟨u0, _, rfl, h0, u1, _, rfl, h1, u2, _, rfl, h2, rfl⟩ := h
    obtain ⟨rows, rfl, _, hr⟩ := arg_slice Try.underlying32 h0
    obtain ⟨s, rfl, _⟩ := arg_string Try.underlying9 h1
    obtain ⟨o, rfl, _⟩ := arg_string Try.underlying9 h2
    obtain ⟨l, rfl⟩ := typed_all (f := Doing.row) fun r h => typed_act (hr r h)
    exact cPlay l s o

theorem SlotsPlay_proved : Rows.SlotsPlaySaid :=
  OpenClaim.holds_of_wide 4 Try.f4 rfl rfl rfl rfl rfl rfl rfl ⟨rfl, rfl, rfl, rfl, rfl⟩ rfl rfl rfl rfl rfl (by kernel_rfl) Try.func4 (by kernel_rfl)
    (of_decide_eq_true (by kernel_rfl)) (by unfold Func.isWrapper; first | (rw [if_pos (by decide +kernel)]; kernel_rfl) | (rw [if_neg (by decide +kernel)]; exact ⟨rfl, rfl⟩))
    (fun os started H enc _ => play_lifted os started H enc)
#print axioms SlotsPlay_proved
end Go.Proofs.Ytemjhlmdiicdcaa
