/- edges: what slices gives of edges and attributes. -/
import Derived.Test.YtieffigehkjifaaEdA
import Derived.Test.YtieffigehkjifaaEdIns
namespace Go.Proofs.Ytieffigehkjifaa
open E
set_option maxRecDepth 100000
set_option linter.unusedVariables false
set_option linter.unusedSimpArgs false

theorem clnNil (c : Nat) : Contract Try.prog 12 [.val (.slice none 0 c)] [] (.own 0) [some (.arr 4 [])] :=
  vcP hmix [.reg 2 [(0, [.idx 4], none)]] [401000] [
      ] (by kernel_rfl)
    trivial

theorem clnVal (A : Addr) (c : Nat) : Contract Try.prog 12 [.val (.slice (some A) 0 c)] [] (.own 0) [some (.arr 4 [])] :=
  vcP hmix [] [603000] [
      (0 : Nat) ≤ (140737488355328 : Nat)] (by kernel_rfl)
    (by
      simp only [allP]
      and_intros <;> first
        | omega
        | with_reducible assumption
        | (simp; done)
        | decide)

theorem clnCons (rows : List (List V)) (h : rows ≠ []) (hb : rows.length * 48 ≤ 140737488355328) : Contract Try.prog 12 [.sl 4 rows] [] (.own 0) [some (.arr 4 rows)] :=
  vcP hmix [] [603000] [
      rows ≠ [],
      ((0 : Nat) + List.length rows) * (48 : Nat) ≤ (140737488355328 : Nat)] (by kernel_rfl)
    (by
      simp only [allP]
      and_intros <;> first
        | omega
        | with_reducible assumption
        | (simp; omega)
        | (simp; done)
        | decide)

theorem cln (rows : List (List V)) (hb : rows.length * 48 ≤ 140737488355328) : Contract Try.prog 12 [.sl 4 rows] [] (.own 0) [some (.arr 4 rows)] := by
  by_cases h : rows = []
  · subst h
    exact Contract.slNil clnNil clnVal
  · exact clnCons rows h hb

def ixES (l : List Ed) (e : Ed) (i : Nat) (r : Int) : SL := ⟨[(0, .sl 4 (l.map Ed.row)), (1, .clo (.func 19) [] [.ptr 0 0 0 0]), (4, I r), (7, I (l.length : Int)), (8, I (i : Int))], [(0, .box e.row)], [0, 0]⟩
noncomputable def ixEB : Code := codeAt Try.prog 18 [true, false, true, false, false]

theorem ixENo (l : List Ed) (e : Ed) (x : Ed) (i : Nat) (h : i < l.length) (hx : l[i]? = some x) (hs : l.length ≤ 1000000000000000) (hp : (pEq e) x = false) : CodeC Try.prog 1 19 ixEB (ixES l e i 0) .normal (ixES l e (i + 1) 0) :=
  runP hmix [.reg 2 [(0, [], some true)], .reg 4 [(4, [.row (Ed.row x)], none), (5, [.call [0] [] (Bo ((pEq e) x)) [some (.box e.row)]], some false)], .reg 6 [(0, [.be (I ((i + 1 : Nat) : Int))], none)]] ⟨[0, 1, 4, 7, 8], [(0, 0)], []⟩ [
      decide (Int.ofNat i < Int.ofNat (List.length l)) = true,
      (0 : Int) ≤ Int.ofNat i,
      Int.ofNat i < Int.ofNat (List.length (List.map Ed.row l)),
      (List.map Ed.row l)[i]? = some (Ed.row x),
      Contract Try.prog (19 : Nat) [V.agg [Sg (Ed.fr x), Sg (Ed.to x), I (Ed.cnt x), I (Ed.errs x)], V.ptr (0 : Nat) (0 : Nat) (0 : Nat) (0 : Nat)] [Obj.box [Sg (Ed.fr e), Sg (Ed.to e), I (Ed.cnt e), I (Ed.errs e)]] (Bo (pEq e x)) [some (Obj.box (Ed.row e))],
      pEq e x = false,
      IntKind.wrap IntKind.i64 (Int.ofNat (i + (1 : Nat))) = Int.ofNat (i + (1 : Nat))] (by kernel_rfl)
    (by
      simp only [allP]
      and_intros <;> first
        | omega
        | with_reducible assumption
        | exact cEq1 x e
        | (simp; omega)
        | (simp [hx]; done)
        | exact i64_small (by simp; omega)
        | (simp; done)
        | decide)

theorem ixEYes (l : List Ed) (e : Ed) (x : Ed) (i : Nat) (h : i < l.length) (hx : l[i]? = some x) (hs : l.length ≤ 1000000000000000) (hp : (pEq e) x = true) : CodeC Try.prog 1 19 ixEB (ixES l e i 0) .ret (ixES l e i (i : Int)) :=
  runP hmix [.reg 2 [(0, [], some true)], .reg 4 [(4, [.row (Ed.row x)], none), (5, [.call [0] [] (Bo ((pEq e) x)) [some (.box e.row)]], some true)]] ⟨[0, 1, 4, 7, 8], [(0, 0)], []⟩ [
      decide (Int.ofNat i < Int.ofNat (List.length l)) = true,
      (0 : Int) ≤ Int.ofNat i,
      Int.ofNat i < Int.ofNat (List.length (List.map Ed.row l)),
      (List.map Ed.row l)[i]? = some (Ed.row x),
      Contract Try.prog (19 : Nat) [V.agg [Sg (Ed.fr x), Sg (Ed.to x), I (Ed.cnt x), I (Ed.errs x)], V.ptr (0 : Nat) (0 : Nat) (0 : Nat) (0 : Nat)] [Obj.box [Sg (Ed.fr e), Sg (Ed.to e), I (Ed.cnt e), I (Ed.errs e)]] (Bo (pEq e x)) [some (Obj.box (Ed.row e))],
      pEq e x = true] (by kernel_rfl)
    (by
      simp only [allP]
      and_intros <;> first
        | omega
        | with_reducible assumption
        | exact cEq1 x e
        | (simp; omega)
        | (simp [hx]; done)
        | exact i64_small (by simp; omega)
        | (simp; done)
        | decide)

theorem ixEEnd (l : List Ed) (e : Ed) (i : Nat) (h : l.length ≤ i) : CodeC Try.prog 1 19 ixEB (ixES l e i 0) (.exit 0) (ixES l e i 0) :=
  runP hmix [.reg 2 [(0, [], some false)]] ⟨[0, 1, 4, 7, 8], [(0, 0)], []⟩ [
      decide (Int.ofNat i < Int.ofNat (List.length l)) = false] (by kernel_rfl)
    (by
      simp only [allP]
      and_intros <;> first
        | omega
        | with_reducible assumption
        | (simp; omega)
        | (simp; done)
        | decide)

theorem ixELoop (l : List Ed) (e : Ed) (hs : l.length ≤ 1000000000000000) : ∀ (n i : Nat), i + n = l.length →
    match (l.drop i).findIdx? (pEq e) with
    | some j => LoopC Try.prog 1 19 ixEB (ixES l e i 0) .ret (ixES l e (i + j) ((i + j : Nat) : Int))
    | none => LoopC Try.prog 1 19 ixEB (ixES l e i 0) (.exit 0) (ixES l e l.length 0)
  | 0, i, hi => by
    rw [List.drop_of_length_le (by omega)]
    have : i = l.length := by omega
    subst this
    exact LoopC.last (ixEEnd l e _ (by omega)) (by simp)
  | n + 1, i, hi => by
    have hlt : i < l.length := by omega
    have hx : l[i]? = some l[i] := by simp [hlt]
    have ih := ixELoop l e hs n (i + 1) (by omega)
    rw [List.drop_eq_getElem_cons hlt, List.findIdx?_cons]
    cases hp : (pEq e) l[i] with
    | true =>
      simp only [if_true, Nat.add_zero]
      exact LoopC.last (ixEYes l e l[i] i hlt hx hs hp) (by simp)
    | false =>
      have r := ixENo l e l[i] i hlt hx hs hp
      simp only [Bool.false_eq_true, if_false]
      cases hf : (l.drop (i + 1)).findIdx? (pEq e) with
      | none => rw [hf] at ih; exact LoopC.next r ih
      | some j =>
        rw [hf] at ih
        simp only [Option.map_some]
        rw [show i + (j + 1) = i + 1 + j by omega]
        exact LoopC.next r ih

theorem ixESome (l : List Ed) (e : Ed) (j : Nat) (hs : l.length ≤ 1000000000000000) (h : l.findIdx? (pEq e) = some j) : Contract Try.prog 18 [.sl 4 (l.map Ed.row), .clo (.func 19) [] [.ptr 0 0 0 0]] [.box e.row] (I (j : Int)) [some (.box e.row)] :=
  have hl := ixELoop l e hs l.length 0 (by omega)
  have hl : LoopC Try.prog 1 19 ixEB (ixES l e 0 0) .ret (ixES l e j ((j : Nat) : Int)) := by rw [List.drop_zero, h] at hl; simpa using hl
  vcP hmix [.reg 1 [(1, [.be (I (l.length : Int))], none)], .cut ⟨[0, 1, 4, 7, 8], [(0, 0)], []⟩ .ret (ixES l e j (j : Int))] [] [(((l.map Ed.row).length : Nat) : Int) = (l.length : Int), LoopC Try.prog 1 19 ixEB (ixES l e 0 0) .ret (ixES l e j ((j : Nat) : Int))] (by kernel_rfl) ⟨by simp, hl⟩

theorem ixENone (l : List Ed) (e : Ed) (hs : l.length ≤ 1000000000000000) (h : l.findIdx? (pEq e) = none) : Contract Try.prog 18 [.sl 4 (l.map Ed.row), .clo (.func 19) [] [.ptr 0 0 0 0]] [.box e.row] (I (-1)) [some (.box e.row)] :=
  have hl := ixELoop l e hs l.length 0 (by omega)
  have hl : LoopC Try.prog 1 19 ixEB (ixES l e 0 0) (.exit 0) (ixES l e l.length 0) := by rw [List.drop_zero, h] at hl; exact hl
  vcP hmix [.reg 1 [(1, [.be (I (l.length : Int))], none)], .cut ⟨[0, 1, 4, 7, 8], [(0, 0)], []⟩ (.exit 0) (ixES l e l.length 0)] [] [(((l.map Ed.row).length : Nat) : Int) = (l.length : Int), LoopC Try.prog 1 19 ixEB (ixES l e 0 0) (.exit 0) (ixES l e l.length 0)] (by kernel_rfl) ⟨by simp, hl⟩

theorem ixE (l : List Ed) (e : Ed) (hs : l.length ≤ 1000000000000000) : Contract Try.prog 18 [.sl 4 (l.map Ed.row), .clo (.func 19) [] [.ptr 0 0 0 0]] [.box e.row] (I (idxI (pEq e) l)) [some (.box e.row)] := by
  unfold idxI
  cases h : l.findIdx? (pEq e) with
  | none => exact ixENone l e hs h
  | some j => exact ixESome l e j hs h

def ixGS (l : List Ed) (e : Ed) (i : Nat) (r : Int) : SL := ⟨[(0, .sl 4 (l.map Ed.row)), (1, .clo (.func 21) [] [.ptr 0 0 0 0]), (4, I r), (7, I (l.length : Int)), (8, I (i : Int))], [(0, .box e.row)], [0, 0]⟩
noncomputable def ixGB : Code := codeAt Try.prog 18 [true, false, true, false, false]

theorem ixGNo (l : List Ed) (e : Ed) (x : Ed) (i : Nat) (h : i < l.length) (hx : l[i]? = some x) (hs : l.length ≤ 1000000000000000) (hp : (pGt e) x = false) : CodeC Try.prog 1 19 ixGB (ixGS l e i 0) .normal (ixGS l e (i + 1) 0) :=
  runP hmix [.reg 2 [(0, [], some true)], .reg 4 [(4, [.row (Ed.row x)], none), (5, [.call [0] [] (Bo ((pGt e) x)) [some (.box e.row)]], some false)], .reg 6 [(0, [.be (I ((i + 1 : Nat) : Int))], none)]] ⟨[0, 1, 4, 7, 8], [(0, 0)], []⟩ [
      decide (Int.ofNat i < Int.ofNat (List.length l)) = true,
      (0 : Int) ≤ Int.ofNat i,
      Int.ofNat i < Int.ofNat (List.length (List.map Ed.row l)),
      (List.map Ed.row l)[i]? = some (Ed.row x),
      Contract Try.prog (21 : Nat) [V.agg [Sg (Ed.fr x), Sg (Ed.to x), I (Ed.cnt x), I (Ed.errs x)], V.ptr (0 : Nat) (0 : Nat) (0 : Nat) (0 : Nat)] [Obj.box [Sg (Ed.fr e), Sg (Ed.to e), I (Ed.cnt e), I (Ed.errs e)]] (Bo (pGt e x)) [some (Obj.box (Ed.row e))],
      pGt e x = false,
      IntKind.wrap IntKind.i64 (Int.ofNat (i + (1 : Nat))) = Int.ofNat (i + (1 : Nat))] (by kernel_rfl)
    (by
      simp only [allP]
      and_intros <;> first
        | omega
        | with_reducible assumption
        | exact cGt1 x e
        | (simp; omega)
        | (simp [hx]; done)
        | exact i64_small (by simp; omega)
        | (simp; done)
        | decide)

theorem ixGYes (l : List Ed) (e : Ed) (x : Ed) (i : Nat) (h : i < l.length) (hx : l[i]? = some x) (hs : l.length ≤ 1000000000000000) (hp : (pGt e) x = true) : CodeC Try.prog 1 19 ixGB (ixGS l e i 0) .ret (ixGS l e i (i : Int)) :=
  runP hmix [.reg 2 [(0, [], some true)], .reg 4 [(4, [.row (Ed.row x)], none), (5, [.call [0] [] (Bo ((pGt e) x)) [some (.box e.row)]], some true)]] ⟨[0, 1, 4, 7, 8], [(0, 0)], []⟩ [
      decide (Int.ofNat i < Int.ofNat (List.length l)) = true,
      (0 : Int) ≤ Int.ofNat i,
      Int.ofNat i < Int.ofNat (List.length (List.map Ed.row l)),
      (List.map Ed.row l)[i]? = some (Ed.row x),
      Contract Try.prog (21 : Nat) [V.agg [Sg (Ed.fr x), Sg (Ed.to x), I (Ed.cnt x), I (Ed.errs x)], V.ptr (0 : Nat) (0 : Nat) (0 : Nat) (0 : Nat)] [Obj.box [Sg (Ed.fr e), Sg (Ed.to e), I (Ed.cnt e), I (Ed.errs e)]] (Bo (pGt e x)) [some (Obj.box (Ed.row e))],
      pGt e x = true] (by kernel_rfl)
    (by
      simp only [allP]
      and_intros <;> first
        | omega
        | with_reducible assumption
        | exact cGt1 x e
        | (simp; omega)
        | (simp [hx]; done)
        | exact i64_small (by simp; omega)
        | (simp; done)
        | decide)

theorem ixGEnd (l : List Ed) (e : Ed) (i : Nat) (h : l.length ≤ i) : CodeC Try.prog 1 19 ixGB (ixGS l e i 0) (.exit 0) (ixGS l e i 0) :=
  runP hmix [.reg 2 [(0, [], some false)]] ⟨[0, 1, 4, 7, 8], [(0, 0)], []⟩ [
      decide (Int.ofNat i < Int.ofNat (List.length l)) = false] (by kernel_rfl)
    (by
      simp only [allP]
      and_intros <;> first
        | omega
        | with_reducible assumption
        | (simp; omega)
        | (simp; done)
        | decide)

theorem ixGLoop (l : List Ed) (e : Ed) (hs : l.length ≤ 1000000000000000) : ∀ (n i : Nat), i + n = l.length →
    match (l.drop i).findIdx? (pGt e) with
    | some j => LoopC Try.prog 1 19 ixGB (ixGS l e i 0) .ret (ixGS l e (i + j) ((i + j : Nat) : Int))
    | none => LoopC Try.prog 1 19 ixGB (ixGS l e i 0) (.exit 0) (ixGS l e l.length 0)
  | 0, i, hi => by
    rw [List.drop_of_length_le (by omega)]
    have : i = l.length := by omega
    subst this
    exact LoopC.last (ixGEnd l e _ (by omega)) (by simp)
  | n + 1, i, hi => by
    have hlt : i < l.length := by omega
    have hx : l[i]? = some l[i] := by simp [hlt]
    have ih := ixGLoop l e hs n (i + 1) (by omega)
    rw [List.drop_eq_getElem_cons hlt, List.findIdx?_cons]
    cases hp : (pGt e) l[i] with
    | true =>
      simp only [if_true, Nat.add_zero]
      exact LoopC.last (ixGYes l e l[i] i hlt hx hs hp) (by simp)
    | false =>
      have r := ixGNo l e l[i] i hlt hx hs hp
      simp only [Bool.false_eq_true, if_false]
      cases hf : (l.drop (i + 1)).findIdx? (pGt e) with
      | none => rw [hf] at ih; exact LoopC.next r ih
      | some j =>
        rw [hf] at ih
        simp only [Option.map_some]
        rw [show i + (j + 1) = i + 1 + j by omega]
        exact LoopC.next r ih

theorem ixGSome (l : List Ed) (e : Ed) (j : Nat) (hs : l.length ≤ 1000000000000000) (h : l.findIdx? (pGt e) = some j) : Contract Try.prog 18 [.sl 4 (l.map Ed.row), .clo (.func 21) [] [.ptr 0 0 0 0]] [.box e.row] (I (j : Int)) [some (.box e.row)] :=
  have hl := ixGLoop l e hs l.length 0 (by omega)
  have hl : LoopC Try.prog 1 19 ixGB (ixGS l e 0 0) .ret (ixGS l e j ((j : Nat) : Int)) := by rw [List.drop_zero, h] at hl; simpa using hl
  vcP hmix [.reg 1 [(1, [.be (I (l.length : Int))], none)], .cut ⟨[0, 1, 4, 7, 8], [(0, 0)], []⟩ .ret (ixGS l e j (j : Int))] [] [(((l.map Ed.row).length : Nat) : Int) = (l.length : Int), LoopC Try.prog 1 19 ixGB (ixGS l e 0 0) .ret (ixGS l e j ((j : Nat) : Int))] (by kernel_rfl) ⟨by simp, hl⟩

theorem ixGNone (l : List Ed) (e : Ed) (hs : l.length ≤ 1000000000000000) (h : l.findIdx? (pGt e) = none) : Contract Try.prog 18 [.sl 4 (l.map Ed.row), .clo (.func 21) [] [.ptr 0 0 0 0]] [.box e.row] (I (-1)) [some (.box e.row)] :=
  have hl := ixGLoop l e hs l.length 0 (by omega)
  have hl : LoopC Try.prog 1 19 ixGB (ixGS l e 0 0) (.exit 0) (ixGS l e l.length 0) := by rw [List.drop_zero, h] at hl; exact hl
  vcP hmix [.reg 1 [(1, [.be (I (l.length : Int))], none)], .cut ⟨[0, 1, 4, 7, 8], [(0, 0)], []⟩ (.exit 0) (ixGS l e l.length 0)] [] [(((l.map Ed.row).length : Nat) : Int) = (l.length : Int), LoopC Try.prog 1 19 ixGB (ixGS l e 0 0) (.exit 0) (ixGS l e l.length 0)] (by kernel_rfl) ⟨by simp, hl⟩

theorem ixG (l : List Ed) (e : Ed) (hs : l.length ≤ 1000000000000000) : Contract Try.prog 18 [.sl 4 (l.map Ed.row), .clo (.func 21) [] [.ptr 0 0 0 0]] [.box e.row] (I (idxI (pGt e) l)) [some (.box e.row)] := by
  unfold idxI
  cases h : l.findIdx? (pGt e) with
  | none => exact ixGNone l e hs h
  | some j => exact ixGSome l e j hs h

def ixKS (l : List At) (a : At) (i : Nat) (r : Int) : SL := ⟨[(0, .sl 2 (l.map At.row)), (1, .clo (.func 25) [] [.ptr 0 0 0 0]), (4, I r), (7, I (l.length : Int)), (8, I (i : Int))], [(0, .box a.row)], [0, 0]⟩
noncomputable def ixKB : Code := codeAt Try.prog 30 [true, false, true, false, false]

theorem ixKNo (l : List At) (a : At) (x : At) (i : Nat) (h : i < l.length) (hx : l[i]? = some x) (hs : l.length ≤ 1000000000000000) (hp : (pKey a) x = false) : CodeC Try.prog 1 19 ixKB (ixKS l a i 0) .normal (ixKS l a (i + 1) 0) :=
  runP hmix [.reg 2 [(0, [], some true)], .reg 4 [(4, [.row (At.row x)], none), (5, [.call [0] [] (Bo ((pKey a) x)) [some (.box a.row)]], some false)], .reg 6 [(0, [.be (I ((i + 1 : Nat) : Int))], none)]] ⟨[0, 1, 4, 7, 8], [(0, 0)], []⟩ [
      decide (Int.ofNat i < Int.ofNat (List.length l)) = true,
      (0 : Int) ≤ Int.ofNat i,
      Int.ofNat i < Int.ofNat (List.length (List.map At.row l)),
      (List.map At.row l)[i]? = some (At.row x),
      Contract Try.prog (25 : Nat) [V.agg [Sg (At.key x), Sg (At.val x)], V.ptr (0 : Nat) (0 : Nat) (0 : Nat) (0 : Nat)] [Obj.box [Sg (At.key a), Sg (At.val a)]] (Bo (pKey a x)) [some (Obj.box (At.row a))],
      pKey a x = false,
      IntKind.wrap IntKind.i64 (Int.ofNat (i + (1 : Nat))) = Int.ofNat (i + (1 : Nat))] (by kernel_rfl)
    (by
      simp only [allP]
      and_intros <;> first
        | omega
        | with_reducible assumption
        | exact cKey1 x a
        | (simp; omega)
        | (simp [hx]; done)
        | exact i64_small (by simp; omega)
        | (simp; done)
        | decide)

theorem ixKYes (l : List At) (a : At) (x : At) (i : Nat) (h : i < l.length) (hx : l[i]? = some x) (hs : l.length ≤ 1000000000000000) (hp : (pKey a) x = true) : CodeC Try.prog 1 19 ixKB (ixKS l a i 0) .ret (ixKS l a i (i : Int)) :=
  runP hmix [.reg 2 [(0, [], some true)], .reg 4 [(4, [.row (At.row x)], none), (5, [.call [0] [] (Bo ((pKey a) x)) [some (.box a.row)]], some true)]] ⟨[0, 1, 4, 7, 8], [(0, 0)], []⟩ [
      decide (Int.ofNat i < Int.ofNat (List.length l)) = true,
      (0 : Int) ≤ Int.ofNat i,
      Int.ofNat i < Int.ofNat (List.length (List.map At.row l)),
      (List.map At.row l)[i]? = some (At.row x),
      Contract Try.prog (25 : Nat) [V.agg [Sg (At.key x), Sg (At.val x)], V.ptr (0 : Nat) (0 : Nat) (0 : Nat) (0 : Nat)] [Obj.box [Sg (At.key a), Sg (At.val a)]] (Bo (pKey a x)) [some (Obj.box (At.row a))],
      pKey a x = true] (by kernel_rfl)
    (by
      simp only [allP]
      and_intros <;> first
        | omega
        | with_reducible assumption
        | exact cKey1 x a
        | (simp; omega)
        | (simp [hx]; done)
        | exact i64_small (by simp; omega)
        | (simp; done)
        | decide)

theorem ixKEnd (l : List At) (a : At) (i : Nat) (h : l.length ≤ i) : CodeC Try.prog 1 19 ixKB (ixKS l a i 0) (.exit 0) (ixKS l a i 0) :=
  runP hmix [.reg 2 [(0, [], some false)]] ⟨[0, 1, 4, 7, 8], [(0, 0)], []⟩ [
      decide (Int.ofNat i < Int.ofNat (List.length l)) = false] (by kernel_rfl)
    (by
      simp only [allP]
      and_intros <;> first
        | omega
        | with_reducible assumption
        | (simp; omega)
        | (simp; done)
        | decide)

theorem ixKLoop (l : List At) (a : At) (hs : l.length ≤ 1000000000000000) : ∀ (n i : Nat), i + n = l.length →
    match (l.drop i).findIdx? (pKey a) with
    | some j => LoopC Try.prog 1 19 ixKB (ixKS l a i 0) .ret (ixKS l a (i + j) ((i + j : Nat) : Int))
    | none => LoopC Try.prog 1 19 ixKB (ixKS l a i 0) (.exit 0) (ixKS l a l.length 0)
  | 0, i, hi => by
    rw [List.drop_of_length_le (by omega)]
    have : i = l.length := by omega
    subst this
    exact LoopC.last (ixKEnd l a _ (by omega)) (by simp)
  | n + 1, i, hi => by
    have hlt : i < l.length := by omega
    have hx : l[i]? = some l[i] := by simp [hlt]
    have ih := ixKLoop l a hs n (i + 1) (by omega)
    rw [List.drop_eq_getElem_cons hlt, List.findIdx?_cons]
    cases hp : (pKey a) l[i] with
    | true =>
      simp only [if_true, Nat.add_zero]
      exact LoopC.last (ixKYes l a l[i] i hlt hx hs hp) (by simp)
    | false =>
      have r := ixKNo l a l[i] i hlt hx hs hp
      simp only [Bool.false_eq_true, if_false]
      cases hf : (l.drop (i + 1)).findIdx? (pKey a) with
      | none => rw [hf] at ih; exact LoopC.next r ih
      | some j =>
        rw [hf] at ih
        simp only [Option.map_some]
        rw [show i + (j + 1) = i + 1 + j by omega]
        exact LoopC.next r ih

theorem ixKSome (l : List At) (a : At) (j : Nat) (hs : l.length ≤ 1000000000000000) (h : l.findIdx? (pKey a) = some j) : Contract Try.prog 30 [.sl 2 (l.map At.row), .clo (.func 25) [] [.ptr 0 0 0 0]] [.box a.row] (I (j : Int)) [some (.box a.row)] :=
  have hl := ixKLoop l a hs l.length 0 (by omega)
  have hl : LoopC Try.prog 1 19 ixKB (ixKS l a 0 0) .ret (ixKS l a j ((j : Nat) : Int)) := by rw [List.drop_zero, h] at hl; simpa using hl
  vcP hmix [.reg 1 [(1, [.be (I (l.length : Int))], none)], .cut ⟨[0, 1, 4, 7, 8], [(0, 0)], []⟩ .ret (ixKS l a j (j : Int))] [] [(((l.map At.row).length : Nat) : Int) = (l.length : Int), LoopC Try.prog 1 19 ixKB (ixKS l a 0 0) .ret (ixKS l a j ((j : Nat) : Int))] (by kernel_rfl) ⟨by simp, hl⟩

theorem ixKNone (l : List At) (a : At) (hs : l.length ≤ 1000000000000000) (h : l.findIdx? (pKey a) = none) : Contract Try.prog 30 [.sl 2 (l.map At.row), .clo (.func 25) [] [.ptr 0 0 0 0]] [.box a.row] (I (-1)) [some (.box a.row)] :=
  have hl := ixKLoop l a hs l.length 0 (by omega)
  have hl : LoopC Try.prog 1 19 ixKB (ixKS l a 0 0) (.exit 0) (ixKS l a l.length 0) := by rw [List.drop_zero, h] at hl; exact hl
  vcP hmix [.reg 1 [(1, [.be (I (l.length : Int))], none)], .cut ⟨[0, 1, 4, 7, 8], [(0, 0)], []⟩ (.exit 0) (ixKS l a l.length 0)] [] [(((l.map At.row).length : Nat) : Int) = (l.length : Int), LoopC Try.prog 1 19 ixKB (ixKS l a 0 0) (.exit 0) (ixKS l a l.length 0)] (by kernel_rfl) ⟨by simp, hl⟩

theorem ixK (l : List At) (a : At) (hs : l.length ≤ 1000000000000000) : Contract Try.prog 30 [.sl 2 (l.map At.row), .clo (.func 25) [] [.ptr 0 0 0 0]] [.box a.row] (I (idxI (pKey a) l)) [some (.box a.row)] := by
  unfold idxI
  cases h : l.findIdx? (pKey a) with
  | none => exact ixKNone l a hs h
  | some j => exact ixKSome l a j hs h

end Go.Proofs.Ytieffigehkjifaa
