/- slots: what slices gives of exemplars. -/
import Derived.Test.YtemjhlmdiicdcaaSlA
namespace Go.Proofs.Ytemjhlmdiicdcaa
open E
set_option maxRecDepth 100000
set_option linter.unusedVariables false
set_option linter.unusedSimpArgs false

def pPut (e y : Em) : Bool := decide (0 ≤ cmpE y e)
def pDrop (b : Int) (y : Em) : Bool := y.block == b
theorem clnNil (c : Nat) : Contract Try.prog 16 [.val (.slice none 0 c)] [] (.own 0) [some (.arr 6 [])] :=
  vcP hmix [.reg 2 [(0, [.idx 6], none)]] [401000] [
      ] (by kernel_rfl)
    trivial

theorem clnVal (A : Addr) (c : Nat) : Contract Try.prog 16 [.val (.slice (some A) 0 c)] [] (.own 0) [some (.arr 6 [])] :=
  vcP hmix [] [603000] [
      (0 : Nat) ≤ (140737488355328 : Nat)] (by kernel_rfl)
    (by
      simp only [allP]
      and_intros <;> first
        | omega
        | with_reducible assumption
        | (simp; done)
        | decide)

theorem clnCons (rows : List (List V)) (h : rows ≠ []) (hb : rows.length * 64 ≤ 140737488355328) : Contract Try.prog 16 [.sl 6 rows] [] (.own 0) [some (.arr 6 rows)] :=
  vcP hmix [] [603000] [
      rows ≠ [],
      ((0 : Nat) + List.length rows) * (64 : Nat) ≤ (140737488355328 : Nat)] (by kernel_rfl)
    (by
      simp only [allP]
      and_intros <;> first
        | omega
        | with_reducible assumption
        | (simp; omega)
        | (simp; done)
        | decide)

theorem cln (rows : List (List V)) (hb : rows.length * 64 ≤ 140737488355328) : Contract Try.prog 16 [.sl 6 rows] [] (.own 0) [some (.arr 6 rows)] := by
  by_cases h : rows = []
  · subst h
    exact Contract.slNil clnNil clnVal
  · exact clnCons rows h hb

theorem del (rows : List (List V)) (i j : Nat) (hi : i < j) (hj : j ≤ rows.length) : Contract Try.prog 25 [.own 0, I (i : Int), I (j : Int)] [.arr 6 rows] (.own 1) [none, some (.arr 6 (rows.take i ++ rows.drop j))] :=
  vcP hmix [.reg 1 [(5, [.idx 0], none)], .reg 2 [(2, [], some false)], .reg 5 [(2, [.idx 0], none), (5, [.idx 0], none), (6, [.be (.vw 0 6 0 (i + (rows.length - j))), .beO (rows.take i ++ rows.drop j ++ rows.drop (i + (rows.length - j)))], none)], .reg 6 [(4, [.be (.vw 0 6 (i + (rows.length - j)) rows.length)], none), (5, [.beO (rows.take i ++ rows.drop j ++ List.replicate (j - i) [Sg ByteArray.empty, Sg ByteArray.empty, V.val (Value.int IntKind.u64 0), V.val (Value.int IntKind.u64 0), V.val (Value.int IntKind.u64 0), I 0])], none)], .reg 7 [(0, [.idx 0, .beO (rows.take i ++ rows.drop j)], none)]] [1401000] [
      (0 : Int) ≤ Int.ofNat i,
      Int.ofNat i ≤ Int.ofNat j,
      Int.ofNat j ≤ Int.ofNat (List.length rows),
      List.length rows ≤ List.length rows,
      (Int.ofNat i == Int.ofNat j) = false,
      (0 : Int) ≤ (0 : Int),
      (0 : Int) ≤ Int.ofNat i,
      i ≤ List.length rows,
      (0 : Int) ≤ Int.ofNat j,
      Int.ofNat j ≤ Int.ofNat (List.length rows),
      List.length rows ≤ List.length rows,
      i ≤ List.length rows,
      List.length rows ≤ List.length rows,
      i + (List.length rows - j) ≤ List.length rows,
      (0 : Nat) = (0 : Nat),
      i + (List.length rows - j) = i + (List.length rows - j),
      over rows i (List.take (List.length rows - j) (List.drop j rows)) = List.take i rows ++ List.drop j rows ++ List.drop (i + (List.length rows - j)) rows,
      (0 : Int) ≤ Int.ofNat (i + (List.length rows - j)),
      Int.ofNat (i + (List.length rows - j)) ≤ Int.ofNat (List.length rows),
      (0 : Nat) + List.length rows ≤ List.length (List.take i rows ++ List.drop j rows ++ List.drop (i + (List.length rows - j)) rows),
      (0 : Nat) + (i + (List.length rows - j)) = i + (List.length rows - j),
      (0 : Nat) + List.length rows = List.length rows,
      i + (List.length rows - j) ≤ List.length (List.take i rows ++ List.drop j rows ++ List.drop (i + (List.length rows - j)) rows),
      List.length rows ≤ List.length (List.take i rows ++ List.drop j rows ++ List.drop (i + (List.length rows - j)) rows),
      over (List.take i rows ++ List.drop j rows ++ List.drop (i + (List.length rows - j)) rows) (i + (List.length rows - j)) (List.replicate (List.length rows - (i + (List.length rows - j))) [Sg { data := { toList := [] } }, Sg { data := { toList := [] } }, V.val (Value.int IntKind.u64 (0 : Int)), V.val (Value.int IntKind.u64 (0 : Int)), V.val (Value.int IntKind.u64 (0 : Int)), I (0 : Int)]) = List.take i rows ++ List.drop j rows ++ List.replicate (j - i) [Sg { data := { toList := [] } }, Sg { data := { toList := [] } }, V.val (Value.int IntKind.u64 (0 : Int)), V.val (Value.int IntKind.u64 (0 : Int)), V.val (Value.int IntKind.u64 (0 : Int)), I (0 : Int)],
      i + (List.length rows - j) ≤ List.length (List.take i rows ++ List.drop j rows ++ List.replicate (j - i) [Sg { data := { toList := [] } }, Sg { data := { toList := [] } }, V.val (Value.int IntKind.u64 (0 : Int)), V.val (Value.int IntKind.u64 (0 : Int)), V.val (Value.int IntKind.u64 (0 : Int)), I (0 : Int)]),
      List.take (i + (List.length rows - j)) (List.take i rows ++ List.drop j rows ++ List.replicate (j - i) [Sg { data := { toList := [] } }, Sg { data := { toList := [] } }, V.val (Value.int IntKind.u64 (0 : Int)), V.val (Value.int IntKind.u64 (0 : Int)), V.val (Value.int IntKind.u64 (0 : Int)), I (0 : Int)]) = List.take i rows ++ List.drop j rows] (by kernel_rfl)
    (by
      simp only [allP]
      and_intros <;> first
        | omega
        | with_reducible assumption
        | (simp; omega)
        | exact del1 (by simp) (by omega)
        | exact del2 (by omega) (by omega)
        | exact del3 (by omega) (by omega)
        | (simp; done)
        | decide)

def ixPS (l : List Em) (e : Em) (i : Nat) (r : Int) : SL := ⟨[(0, .sl 6 (l.map Em.row)), (1, .clo (.func 22) [] [.ptr 0 0 0 0]), (4, I r), (7, I (l.length : Int)), (8, I (i : Int))], [(0, .box e.row)], [0, 0]⟩
noncomputable def ixPB : Code := codeAt Try.prog 21 [true, false, true, false, false]

theorem ixPNo (l : List Em) (e : Em) (x : Em) (i : Nat) (h : i < l.length) (hx : l[i]? = some x) (hs : l.length ≤ 1000000000000000) (hp : (pPut e) x = false) : CodeC Try.prog 1 19 ixPB (ixPS l e i 0) .normal (ixPS l e (i + 1) 0) :=
  runP hmix [.reg 2 [(0, [], some true)], .reg 4 [(4, [.row (Em.row x)], none), (5, [.call [0] [] (Bo ((pPut e) x)) [some (.box e.row)]], some false)], .reg 6 [(0, [.be (I ((i + 1 : Nat) : Int))], none)]] ⟨[0, 1, 4, 7, 8], [(0, 0)], []⟩ [
      decide (Int.ofNat i < Int.ofNat (List.length l)) = true,
      (0 : Int) ≤ Int.ofNat i,
      Int.ofNat i < Int.ofNat (List.length (List.map Em.row l)),
      (List.map Em.row l)[i]? = some (Em.row x),
      Contract Try.prog (22 : Nat) [V.agg [Sg (Em.svc x), Sg (Em.op x), V.val (Value.int IntKind.u64 (Em.hi x)), V.val (Value.int IntKind.u64 (Em.lo x)), V.val (Value.int IntKind.u64 (Em.id x)), I (Em.block x)], V.ptr (0 : Nat) (0 : Nat) (0 : Nat) (0 : Nat)] [Obj.box [Sg (Em.svc e), Sg (Em.op e), V.val (Value.int IntKind.u64 (Em.hi e)), V.val (Value.int IntKind.u64 (Em.lo e)), V.val (Value.int IntKind.u64 (Em.id e)), I (Em.block e)]] (Bo (pPut e x)) [some (Obj.box (Em.row e))],
      pPut e x = false,
      IntKind.wrap IntKind.i64 (Int.ofNat (i + (1 : Nat))) = Int.ofNat (i + (1 : Nat))] (by kernel_rfl)
    (by
      simp only [allP]
      and_intros <;> first
        | omega
        | with_reducible assumption
        | exact cPut1 x e
        | (simp; omega)
        | (simp [hx]; done)
        | exact i64_small (by simp; omega)
        | (simp; done)
        | decide)

theorem ixPYes (l : List Em) (e : Em) (x : Em) (i : Nat) (h : i < l.length) (hx : l[i]? = some x) (hs : l.length ≤ 1000000000000000) (hp : (pPut e) x = true) : CodeC Try.prog 1 19 ixPB (ixPS l e i 0) .ret (ixPS l e i (i : Int)) :=
  runP hmix [.reg 2 [(0, [], some true)], .reg 4 [(4, [.row (Em.row x)], none), (5, [.call [0] [] (Bo ((pPut e) x)) [some (.box e.row)]], some true)]] ⟨[0, 1, 4, 7, 8], [(0, 0)], []⟩ [
      decide (Int.ofNat i < Int.ofNat (List.length l)) = true,
      (0 : Int) ≤ Int.ofNat i,
      Int.ofNat i < Int.ofNat (List.length (List.map Em.row l)),
      (List.map Em.row l)[i]? = some (Em.row x),
      Contract Try.prog (22 : Nat) [V.agg [Sg (Em.svc x), Sg (Em.op x), V.val (Value.int IntKind.u64 (Em.hi x)), V.val (Value.int IntKind.u64 (Em.lo x)), V.val (Value.int IntKind.u64 (Em.id x)), I (Em.block x)], V.ptr (0 : Nat) (0 : Nat) (0 : Nat) (0 : Nat)] [Obj.box [Sg (Em.svc e), Sg (Em.op e), V.val (Value.int IntKind.u64 (Em.hi e)), V.val (Value.int IntKind.u64 (Em.lo e)), V.val (Value.int IntKind.u64 (Em.id e)), I (Em.block e)]] (Bo (pPut e x)) [some (Obj.box (Em.row e))],
      pPut e x = true] (by kernel_rfl)
    (by
      simp only [allP]
      and_intros <;> first
        | omega
        | with_reducible assumption
        | exact cPut1 x e
        | (simp; omega)
        | (simp [hx]; done)
        | exact i64_small (by simp; omega)
        | (simp; done)
        | decide)

theorem ixPEnd (l : List Em) (e : Em) (i : Nat) (h : l.length ≤ i) : CodeC Try.prog 1 19 ixPB (ixPS l e i 0) (.exit 0) (ixPS l e i 0) :=
  runP hmix [.reg 2 [(0, [], some false)]] ⟨[0, 1, 4, 7, 8], [(0, 0)], []⟩ [
      decide (Int.ofNat i < Int.ofNat (List.length l)) = false] (by kernel_rfl)
    (by
      simp only [allP]
      and_intros <;> first
        | omega
        | with_reducible assumption
        | (simp; omega)
        | (simp; done)
        | decide)

theorem ixPLoop (l : List Em) (e : Em) (hs : l.length ≤ 1000000000000000) : ∀ (n i : Nat), i + n = l.length →
    match (l.drop i).findIdx? (pPut e) with
    | some j => LoopC Try.prog 1 19 ixPB (ixPS l e i 0) .ret (ixPS l e (i + j) ((i + j : Nat) : Int))
    | none => LoopC Try.prog 1 19 ixPB (ixPS l e i 0) (.exit 0) (ixPS l e l.length 0)
  | 0, i, hi => by
    rw [List.drop_of_length_le (by omega)]
    have : i = l.length := by omega
    subst this
    exact LoopC.last (ixPEnd l e _ (by omega)) (by simp)
  | n + 1, i, hi => by
    have hlt : i < l.length := by omega
    have hx : l[i]? = some l[i] := by simp [hlt]
    have ih := ixPLoop l e hs n (i + 1) (by omega)
    rw [List.drop_eq_getElem_cons hlt, List.findIdx?_cons]
    cases hp : (pPut e) l[i] with
    | true =>
      simp only [if_true, Nat.add_zero]
      exact LoopC.last (ixPYes l e l[i] i hlt hx hs hp) (by simp)
    | false =>
      have r := ixPNo l e l[i] i hlt hx hs hp
      simp only [Bool.false_eq_true, if_false]
      cases hf : (l.drop (i + 1)).findIdx? (pPut e) with
      | none => rw [hf] at ih; exact LoopC.next r ih
      | some j =>
        rw [hf] at ih
        simp only [Option.map_some]
        rw [show i + (j + 1) = i + 1 + j by omega]
        exact LoopC.next r ih

theorem ixPSome (l : List Em) (e : Em) (j : Nat) (hs : l.length ≤ 1000000000000000) (h : l.findIdx? (pPut e) = some j) : Contract Try.prog 21 [.sl 6 (l.map Em.row), .clo (.func 22) [] [.ptr 0 0 0 0]] [.box e.row] (I (j : Int)) [some (.box e.row)] :=
  have hl := ixPLoop l e hs l.length 0 (by omega)
  have hl : LoopC Try.prog 1 19 ixPB (ixPS l e 0 0) .ret (ixPS l e j ((j : Nat) : Int)) := by rw [List.drop_zero, h] at hl; simpa using hl
  vcP hmix [.reg 1 [(1, [.be (I (l.length : Int))], none)], .cut ⟨[0, 1, 4, 7, 8], [(0, 0)], []⟩ .ret (ixPS l e j (j : Int))] [] [(((l.map Em.row).length : Nat) : Int) = (l.length : Int), LoopC Try.prog 1 19 ixPB (ixPS l e 0 0) .ret (ixPS l e j ((j : Nat) : Int))] (by kernel_rfl) ⟨by simp, hl⟩

theorem ixPNone (l : List Em) (e : Em) (hs : l.length ≤ 1000000000000000) (h : l.findIdx? (pPut e) = none) : Contract Try.prog 21 [.sl 6 (l.map Em.row), .clo (.func 22) [] [.ptr 0 0 0 0]] [.box e.row] (I (-1)) [some (.box e.row)] :=
  have hl := ixPLoop l e hs l.length 0 (by omega)
  have hl : LoopC Try.prog 1 19 ixPB (ixPS l e 0 0) (.exit 0) (ixPS l e l.length 0) := by rw [List.drop_zero, h] at hl; exact hl
  vcP hmix [.reg 1 [(1, [.be (I (l.length : Int))], none)], .cut ⟨[0, 1, 4, 7, 8], [(0, 0)], []⟩ (.exit 0) (ixPS l e l.length 0)] [] [(((l.map Em.row).length : Nat) : Int) = (l.length : Int), LoopC Try.prog 1 19 ixPB (ixPS l e 0 0) (.exit 0) (ixPS l e l.length 0)] (by kernel_rfl) ⟨by simp, hl⟩

theorem ixP (l : List Em) (e : Em) (hs : l.length ≤ 1000000000000000) : Contract Try.prog 21 [.sl 6 (l.map Em.row), .clo (.func 22) [] [.ptr 0 0 0 0]] [.box e.row] (I (idxI (pPut e) l)) [some (.box e.row)] := by
  unfold idxI
  cases h : l.findIdx? (pPut e) with
  | none => exact ixPNone l e hs h
  | some j => exact ixPSome l e j hs h

def ixDS (l : List Em) (b : Int) (i : Nat) (r : Int) : SL := ⟨[(0, .sl 6 (l.map Em.row)), (1, .clo (.func 20) [] [.ptr 0 0 0 0]), (4, I r), (7, I (l.length : Int)), (8, I (i : Int))], [(0, .box [I b])], [0, 0]⟩
noncomputable def ixDB : Code := codeAt Try.prog 21 [true, false, true, false, false]

theorem ixDNo (l : List Em) (b : Int) (x : Em) (i : Nat) (h : i < l.length) (hx : l[i]? = some x) (hs : l.length ≤ 1000000000000000) (hp : (pDrop b) x = false) : CodeC Try.prog 1 19 ixDB (ixDS l b i 0) .normal (ixDS l b (i + 1) 0) :=
  runP hmix [.reg 2 [(0, [], some true)], .reg 4 [(4, [.row (Em.row x)], none), (5, [.call [0] [] (Bo ((pDrop b) x)) [some (.box [I b])]], some false)], .reg 6 [(0, [.be (I ((i + 1 : Nat) : Int))], none)]] ⟨[0, 1, 4, 7, 8], [(0, 0)], []⟩ [
      decide (Int.ofNat i < Int.ofNat (List.length l)) = true,
      (0 : Int) ≤ Int.ofNat i,
      Int.ofNat i < Int.ofNat (List.length (List.map Em.row l)),
      (List.map Em.row l)[i]? = some (Em.row x),
      Contract Try.prog (20 : Nat) [V.agg [Sg (Em.svc x), Sg (Em.op x), V.val (Value.int IntKind.u64 (Em.hi x)), V.val (Value.int IntKind.u64 (Em.lo x)), V.val (Value.int IntKind.u64 (Em.id x)), I (Em.block x)], V.ptr (0 : Nat) (0 : Nat) (0 : Nat) (0 : Nat)] [Obj.box [I b]] (Bo (pDrop b x)) [some (Obj.box [I b])],
      pDrop b x = false,
      IntKind.wrap IntKind.i64 (Int.ofNat (i + (1 : Nat))) = Int.ofNat (i + (1 : Nat))] (by kernel_rfl)
    (by
      simp only [allP]
      and_intros <;> first
        | omega
        | with_reducible assumption
        | exact cDrop1 x b
        | (simp; omega)
        | (simp [hx]; done)
        | exact i64_small (by simp; omega)
        | (simp; done)
        | decide)

theorem ixDYes (l : List Em) (b : Int) (x : Em) (i : Nat) (h : i < l.length) (hx : l[i]? = some x) (hs : l.length ≤ 1000000000000000) (hp : (pDrop b) x = true) : CodeC Try.prog 1 19 ixDB (ixDS l b i 0) .ret (ixDS l b i (i : Int)) :=
  runP hmix [.reg 2 [(0, [], some true)], .reg 4 [(4, [.row (Em.row x)], none), (5, [.call [0] [] (Bo ((pDrop b) x)) [some (.box [I b])]], some true)]] ⟨[0, 1, 4, 7, 8], [(0, 0)], []⟩ [
      decide (Int.ofNat i < Int.ofNat (List.length l)) = true,
      (0 : Int) ≤ Int.ofNat i,
      Int.ofNat i < Int.ofNat (List.length (List.map Em.row l)),
      (List.map Em.row l)[i]? = some (Em.row x),
      Contract Try.prog (20 : Nat) [V.agg [Sg (Em.svc x), Sg (Em.op x), V.val (Value.int IntKind.u64 (Em.hi x)), V.val (Value.int IntKind.u64 (Em.lo x)), V.val (Value.int IntKind.u64 (Em.id x)), I (Em.block x)], V.ptr (0 : Nat) (0 : Nat) (0 : Nat) (0 : Nat)] [Obj.box [I b]] (Bo (pDrop b x)) [some (Obj.box [I b])],
      pDrop b x = true] (by kernel_rfl)
    (by
      simp only [allP]
      and_intros <;> first
        | omega
        | with_reducible assumption
        | exact cDrop1 x b
        | (simp; omega)
        | (simp [hx]; done)
        | exact i64_small (by simp; omega)
        | (simp; done)
        | decide)

theorem ixDEnd (l : List Em) (b : Int) (i : Nat) (h : l.length ≤ i) : CodeC Try.prog 1 19 ixDB (ixDS l b i 0) (.exit 0) (ixDS l b i 0) :=
  runP hmix [.reg 2 [(0, [], some false)]] ⟨[0, 1, 4, 7, 8], [(0, 0)], []⟩ [
      decide (Int.ofNat i < Int.ofNat (List.length l)) = false] (by kernel_rfl)
    (by
      simp only [allP]
      and_intros <;> first
        | omega
        | with_reducible assumption
        | (simp; omega)
        | (simp; done)
        | decide)

theorem ixDLoop (l : List Em) (b : Int) (hs : l.length ≤ 1000000000000000) : ∀ (n i : Nat), i + n = l.length →
    match (l.drop i).findIdx? (pDrop b) with
    | some j => LoopC Try.prog 1 19 ixDB (ixDS l b i 0) .ret (ixDS l b (i + j) ((i + j : Nat) : Int))
    | none => LoopC Try.prog 1 19 ixDB (ixDS l b i 0) (.exit 0) (ixDS l b l.length 0)
  | 0, i, hi => by
    rw [List.drop_of_length_le (by omega)]
    have : i = l.length := by omega
    subst this
    exact LoopC.last (ixDEnd l b _ (by omega)) (by simp)
  | n + 1, i, hi => by
    have hlt : i < l.length := by omega
    have hx : l[i]? = some l[i] := by simp [hlt]
    have ih := ixDLoop l b hs n (i + 1) (by omega)
    rw [List.drop_eq_getElem_cons hlt, List.findIdx?_cons]
    cases hp : (pDrop b) l[i] with
    | true =>
      simp only [if_true, Nat.add_zero]
      exact LoopC.last (ixDYes l b l[i] i hlt hx hs hp) (by simp)
    | false =>
      have r := ixDNo l b l[i] i hlt hx hs hp
      simp only [Bool.false_eq_true, if_false]
      cases hf : (l.drop (i + 1)).findIdx? (pDrop b) with
      | none => rw [hf] at ih; exact LoopC.next r ih
      | some j =>
        rw [hf] at ih
        simp only [Option.map_some]
        rw [show i + (j + 1) = i + 1 + j by omega]
        exact LoopC.next r ih

theorem ixDSome (l : List Em) (b : Int) (j : Nat) (hs : l.length ≤ 1000000000000000) (h : l.findIdx? (pDrop b) = some j) : Contract Try.prog 21 [.sl 6 (l.map Em.row), .clo (.func 20) [] [.ptr 0 0 0 0]] [.box [I b]] (I (j : Int)) [some (.box [I b])] :=
  have hl := ixDLoop l b hs l.length 0 (by omega)
  have hl : LoopC Try.prog 1 19 ixDB (ixDS l b 0 0) .ret (ixDS l b j ((j : Nat) : Int)) := by rw [List.drop_zero, h] at hl; simpa using hl
  vcP hmix [.reg 1 [(1, [.be (I (l.length : Int))], none)], .cut ⟨[0, 1, 4, 7, 8], [(0, 0)], []⟩ .ret (ixDS l b j (j : Int))] [] [(((l.map Em.row).length : Nat) : Int) = (l.length : Int), LoopC Try.prog 1 19 ixDB (ixDS l b 0 0) .ret (ixDS l b j ((j : Nat) : Int))] (by kernel_rfl) ⟨by simp, hl⟩

theorem ixDNone (l : List Em) (b : Int) (hs : l.length ≤ 1000000000000000) (h : l.findIdx? (pDrop b) = none) : Contract Try.prog 21 [.sl 6 (l.map Em.row), .clo (.func 20) [] [.ptr 0 0 0 0]] [.box [I b]] (I (-1)) [some (.box [I b])] :=
  have hl := ixDLoop l b hs l.length 0 (by omega)
  have hl : LoopC Try.prog 1 19 ixDB (ixDS l b 0 0) (.exit 0) (ixDS l b l.length 0) := by rw [List.drop_zero, h] at hl; exact hl
  vcP hmix [.reg 1 [(1, [.be (I (l.length : Int))], none)], .cut ⟨[0, 1, 4, 7, 8], [(0, 0)], []⟩ (.exit 0) (ixDS l b l.length 0)] [] [(((l.map Em.row).length : Nat) : Int) = (l.length : Int), LoopC Try.prog 1 19 ixDB (ixDS l b 0 0) (.exit 0) (ixDS l b l.length 0)] (by kernel_rfl) ⟨by simp, hl⟩

theorem ixD (l : List Em) (b : Int) (hs : l.length ≤ 1000000000000000) : Contract Try.prog 21 [.sl 6 (l.map Em.row), .clo (.func 20) [] [.ptr 0 0 0 0]] [.box [I b]] (I (idxI (pDrop b) l)) [some (.box [I b])] := by
  unfold idxI
  cases h : l.findIdx? (pDrop b) with
  | none => exact ixDNone l b hs h
  | some j => exact ixDSome l b j hs h

end Go.Proofs.Ytemjhlmdiicdcaa
