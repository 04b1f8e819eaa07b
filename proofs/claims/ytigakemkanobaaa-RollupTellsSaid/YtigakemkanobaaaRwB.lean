/- rollup: what slices gives of rows. -/
import Derived.Test.YtigakemkanobaaaRwA
import Derived.Test.YtigakemkanobaaaRwI
namespace Go.Proofs.Ytigakemkanobaaa
open E
set_option maxRecDepth 100000
set_option linter.unusedVariables false
set_option linter.unusedSimpArgs false

theorem clnNil (c : Nat) : Contract Try.prog 30 [.val (.slice none 0 c)] [] (.own 0) [some (.arr 14 [])] :=
  vcP hmix [.reg 2 [(0, [.idx 14], none)]] [401000] [
      ] (by kernel_rfl)
    trivial

theorem clnVal (A : Addr) (c : Nat) : Contract Try.prog 30 [.val (.slice (some A) 0 c)] [] (.own 0) [some (.arr 14 [])] :=
  vcP hmix [] [603000] [
      (0 : Nat) ≤ (140737488355328 : Nat)] (by kernel_rfl)
    (by
      simp only [allP]
      and_intros <;> first
        | omega)

theorem clnCons (rows : List (List V)) (h : rows ≠ []) (hb : rows.length * 128 ≤ 140737488355328) : Contract Try.prog 30 [.sl 14 rows] [] (.own 0) [some (.arr 14 rows)] :=
  vcP hmix [] [603000] [
      rows ≠ [],
      ((0 : Nat) + List.length rows) * (128 : Nat) ≤ (140737488355328 : Nat)] (by kernel_rfl)
    (by
      simp only [allP]
      and_intros <;> first
        | omega)

theorem cln (rows : List (List V)) (hb : rows.length * 128 ≤ 140737488355328) : Contract Try.prog 30 [.sl 14 rows] [] (.own 0) [some (.arr 14 rows)] := by
  by_cases h : rows = []
  · subst h
    exact Contract.slNil clnNil clnVal
  · exact clnCons rows h hb

def ixES (l : List Rw) (e : Rw) (i : Nat) (r : Int) : SL := ⟨[(0, .sl 14 (l.map Rw.row)), (1, .clo (.func 43) [] [.ptr 0 0 0 0]), (4, I r), (7, I (l.length : Int)), (8, I (i : Int))], [(0, .box e.row)], [0, 0]⟩
noncomputable def ixEB : Code := codeAt Try.prog 42 [true, false, true, false, false]

theorem ixENo (l : List Rw) (e : Rw) (x : Rw) (i : Nat) (h : i < l.length) (hx : l[i]? = some x) (hs : l.length ≤ 1000000000000000) (hp : (pEqR e) x = false) : CodeC Try.prog 1 19 ixEB (ixES l e i 0) .normal (ixES l e (i + 1) 0) :=
  runP hmix [.reg 2 [(0, [], some true)], .reg 4 [(4, [.row (Rw.row x)], none), (5, [.call [0] [] (Bo ((pEqR e) x)) [some (.box e.row)]], some false)], .reg 6 [(0, [.be (I ((i + 1 : Nat) : Int))], none)]] ⟨[0, 1, 4, 7, 8], [(0, 0)], []⟩ [
      decide (Int.ofNat i < Int.ofNat (List.length l)) = true,
      (0 : Int) ≤ Int.ofNat i,
      Int.ofNat i < Int.ofNat (List.length (List.map Rw.row l)),
      (List.map Rw.row l)[i]? = some (Rw.row x),
      Contract Try.prog (43 : Nat) [V.agg [I (Rw.lev x), I (Rw.win x), Sg (Rw.svc x), Sg (Rw.op x), I (Rw.c x (0 : Nat)), I (Rw.c x (1 : Nat)), I (Rw.c x (2 : Nat)), I (Rw.c x (3 : Nat)), I (Rw.c x (4 : Nat)), I (Rw.c x (5 : Nat)), I (Rw.c x (6 : Nat)), I (Rw.c x (7 : Nat)), I (Rw.c x (8 : Nat)), I (Rw.c x (9 : Nat))], V.ptr (0 : Nat) (0 : Nat) (0 : Nat) (0 : Nat)] [Obj.box [I (Rw.lev e), I (Rw.win e), Sg (Rw.svc e), Sg (Rw.op e), I (Rw.c e (0 : Nat)), I (Rw.c e (1 : Nat)), I (Rw.c e (2 : Nat)), I (Rw.c e (3 : Nat)), I (Rw.c e (4 : Nat)), I (Rw.c e (5 : Nat)), I (Rw.c e (6 : Nat)), I (Rw.c e (7 : Nat)), I (Rw.c e (8 : Nat)), I (Rw.c e (9 : Nat))]] (Bo (pEqR e x)) [some (Obj.box (Rw.row e))],
      pEqR e x = false,
      IntKind.wrap IntKind.i64 (Int.ofNat (i + (1 : Nat))) = Int.ofNat (i + (1 : Nat))] (by kernel_rfl)
    (by
      simp only [allP]
      and_intros <;> first
        | omega
        | exact cEq1 x e
        | (simp; omega)
        | (simp [hx]; done)
        | exact i64_small (by simp; omega))

theorem ixEYes (l : List Rw) (e : Rw) (x : Rw) (i : Nat) (h : i < l.length) (hx : l[i]? = some x) (hs : l.length ≤ 1000000000000000) (hp : (pEqR e) x = true) : CodeC Try.prog 1 19 ixEB (ixES l e i 0) .ret (ixES l e i (i : Int)) :=
  runP hmix [.reg 2 [(0, [], some true)], .reg 4 [(4, [.row (Rw.row x)], none), (5, [.call [0] [] (Bo ((pEqR e) x)) [some (.box e.row)]], some true)]] ⟨[0, 1, 4, 7, 8], [(0, 0)], []⟩ [
      decide (Int.ofNat i < Int.ofNat (List.length l)) = true,
      (0 : Int) ≤ Int.ofNat i,
      Int.ofNat i < Int.ofNat (List.length (List.map Rw.row l)),
      (List.map Rw.row l)[i]? = some (Rw.row x),
      Contract Try.prog (43 : Nat) [V.agg [I (Rw.lev x), I (Rw.win x), Sg (Rw.svc x), Sg (Rw.op x), I (Rw.c x (0 : Nat)), I (Rw.c x (1 : Nat)), I (Rw.c x (2 : Nat)), I (Rw.c x (3 : Nat)), I (Rw.c x (4 : Nat)), I (Rw.c x (5 : Nat)), I (Rw.c x (6 : Nat)), I (Rw.c x (7 : Nat)), I (Rw.c x (8 : Nat)), I (Rw.c x (9 : Nat))], V.ptr (0 : Nat) (0 : Nat) (0 : Nat) (0 : Nat)] [Obj.box [I (Rw.lev e), I (Rw.win e), Sg (Rw.svc e), Sg (Rw.op e), I (Rw.c e (0 : Nat)), I (Rw.c e (1 : Nat)), I (Rw.c e (2 : Nat)), I (Rw.c e (3 : Nat)), I (Rw.c e (4 : Nat)), I (Rw.c e (5 : Nat)), I (Rw.c e (6 : Nat)), I (Rw.c e (7 : Nat)), I (Rw.c e (8 : Nat)), I (Rw.c e (9 : Nat))]] (Bo (pEqR e x)) [some (Obj.box (Rw.row e))],
      pEqR e x = true] (by kernel_rfl)
    (by
      simp only [allP]
      and_intros <;> first
        | omega
        | exact cEq1 x e
        | (simp; omega)
        | (simp [hx]; done))

theorem ixEEnd (l : List Rw) (e : Rw) (i : Nat) (h : l.length ≤ i) : CodeC Try.prog 1 19 ixEB (ixES l e i 0) (.exit 0) (ixES l e i 0) :=
  runP hmix [.reg 2 [(0, [], some false)]] ⟨[0, 1, 4, 7, 8], [(0, 0)], []⟩ [
      decide (Int.ofNat i < Int.ofNat (List.length l)) = false] (by kernel_rfl)
    (by
      simp only [allP]
      and_intros <;> first
        | (simp; omega))

theorem ixELoop (l : List Rw) (e : Rw) (hs : l.length ≤ 1000000000000000) : ∀ (n i : Nat), i + n = l.length →
    match (l.drop i).findIdx? (pEqR e) with
    | some j => LoopC Try.prog 1 19 ixEB (ixES l e i 0) .ret (ixES l e (i + j) ((i + j : Nat) : Int))
    | none => LoopC Try.prog 1 19 ixEB (ixES l e i 0) (.exit 0) (ixES l e l.length 0)
  | 0, i, hi => by
    rw [List.drop_of_length_le (by omega)]
    have : i = l.length := by omega
    subst this
    exact LoopC.last (ixEEnd l e _ (by omega)) (by simp)
  | n + 1, i, hi => by
    have hlt : i < l.length := by omega
    have hx : l[i]? = some l[i] := by simp [hlt]
    have ih := ixELoop l e hs n (i + 1) (by omega)
    rw [List.drop_eq_getElem_cons hlt, List.findIdx?_cons]
    cases hp : (pEqR e) l[i] with
    | true =>
      simp only [if_true, Nat.add_zero]
      exact LoopC.last (ixEYes l e l[i] i hlt hx hs hp) (by simp)
    | false =>
      have r := ixENo l e l[i] i hlt hx hs hp
      simp only [Bool.false_eq_true, if_false]
      cases hf : (l.drop (i + 1)).findIdx? (pEqR e) with
      | none => rw [hf] at ih; exact LoopC.next r ih
      | some j =>
        rw [hf] at ih
        simp only [Option.map_some]
        rw [show i + (j + 1) = i + 1 + j by omega]
        exact LoopC.next r ih

theorem ixESome (l : List Rw) (e : Rw) (j : Nat) (hs : l.length ≤ 1000000000000000) (h : l.findIdx? (pEqR e) = some j) : Contract Try.prog 42 [.sl 14 (l.map Rw.row), .clo (.func 43) [] [.ptr 0 0 0 0]] [.box e.row] (I (j : Int)) [some (.box e.row)] :=
  have hl := ixELoop l e hs l.length 0 (by omega)
  have hl : LoopC Try.prog 1 19 ixEB (ixES l e 0 0) .ret (ixES l e j ((j : Nat) : Int)) := by rw [List.drop_zero, h] at hl; simpa using hl
  vcP hmix [.reg 1 [(1, [.be (I (l.length : Int))], none)], .cut ⟨[0, 1, 4, 7, 8], [(0, 0)], []⟩ .ret (ixES l e j (j : Int))] [] [(((l.map Rw.row).length : Nat) : Int) = (l.length : Int), LoopC Try.prog 1 19 ixEB (ixES l e 0 0) .ret (ixES l e j ((j : Nat) : Int))] (by kernel_rfl) ⟨by simp, hl⟩

theorem ixENone (l : List Rw) (e : Rw) (hs : l.length ≤ 1000000000000000) (h : l.findIdx? (pEqR e) = none) : Contract Try.prog 42 [.sl 14 (l.map Rw.row), .clo (.func 43) [] [.ptr 0 0 0 0]] [.box e.row] (I (-1)) [some (.box e.row)] :=
  have hl := ixELoop l e hs l.length 0 (by omega)
  have hl : LoopC Try.prog 1 19 ixEB (ixES l e 0 0) (.exit 0) (ixES l e l.length 0) := by rw [List.drop_zero, h] at hl; exact hl
  vcP hmix [.reg 1 [(1, [.be (I (l.length : Int))], none)], .cut ⟨[0, 1, 4, 7, 8], [(0, 0)], []⟩ (.exit 0) (ixES l e l.length 0)] [] [(((l.map Rw.row).length : Nat) : Int) = (l.length : Int), LoopC Try.prog 1 19 ixEB (ixES l e 0 0) (.exit 0) (ixES l e l.length 0)] (by kernel_rfl) ⟨by simp, hl⟩

theorem ixE (l : List Rw) (e : Rw) (hs : l.length ≤ 1000000000000000) : Contract Try.prog 42 [.sl 14 (l.map Rw.row), .clo (.func 43) [] [.ptr 0 0 0 0]] [.box e.row] (I (idxI (pEqR e) l)) [some (.box e.row)] := by
  unfold idxI
  cases h : l.findIdx? (pEqR e) with
  | none => exact ixENone l e hs h
  | some j => exact ixESome l e j hs h

def ixGS (l : List Rw) (e : Rw) (i : Nat) (r : Int) : SL := ⟨[(0, .sl 14 (l.map Rw.row)), (1, .clo (.func 45) [] [.ptr 0 0 0 0]), (4, I r), (7, I (l.length : Int)), (8, I (i : Int))], [(0, .box e.row)], [0, 0]⟩
noncomputable def ixGB : Code := codeAt Try.prog 42 [true, false, true, false, false]

theorem ixGNo (l : List Rw) (e : Rw) (x : Rw) (i : Nat) (h : i < l.length) (hx : l[i]? = some x) (hs : l.length ≤ 1000000000000000) (hp : (pGtR e) x = false) : CodeC Try.prog 1 19 ixGB (ixGS l e i 0) .normal (ixGS l e (i + 1) 0) :=
  runP hmix [.reg 2 [(0, [], some true)], .reg 4 [(4, [.row (Rw.row x)], none), (5, [.call [0] [] (Bo ((pGtR e) x)) [some (.box e.row)]], some false)], .reg 6 [(0, [.be (I ((i + 1 : Nat) : Int))], none)]] ⟨[0, 1, 4, 7, 8], [(0, 0)], []⟩ [
      decide (Int.ofNat i < Int.ofNat (List.length l)) = true,
      (0 : Int) ≤ Int.ofNat i,
      Int.ofNat i < Int.ofNat (List.length (List.map Rw.row l)),
      (List.map Rw.row l)[i]? = some (Rw.row x),
      Contract Try.prog (45 : Nat) [V.agg [I (Rw.lev x), I (Rw.win x), Sg (Rw.svc x), Sg (Rw.op x), I (Rw.c x (0 : Nat)), I (Rw.c x (1 : Nat)), I (Rw.c x (2 : Nat)), I (Rw.c x (3 : Nat)), I (Rw.c x (4 : Nat)), I (Rw.c x (5 : Nat)), I (Rw.c x (6 : Nat)), I (Rw.c x (7 : Nat)), I (Rw.c x (8 : Nat)), I (Rw.c x (9 : Nat))], V.ptr (0 : Nat) (0 : Nat) (0 : Nat) (0 : Nat)] [Obj.box [I (Rw.lev e), I (Rw.win e), Sg (Rw.svc e), Sg (Rw.op e), I (Rw.c e (0 : Nat)), I (Rw.c e (1 : Nat)), I (Rw.c e (2 : Nat)), I (Rw.c e (3 : Nat)), I (Rw.c e (4 : Nat)), I (Rw.c e (5 : Nat)), I (Rw.c e (6 : Nat)), I (Rw.c e (7 : Nat)), I (Rw.c e (8 : Nat)), I (Rw.c e (9 : Nat))]] (Bo (pGtR e x)) [some (Obj.box (Rw.row e))],
      pGtR e x = false,
      IntKind.wrap IntKind.i64 (Int.ofNat (i + (1 : Nat))) = Int.ofNat (i + (1 : Nat))] (by kernel_rfl)
    (by
      simp only [allP]
      and_intros <;> first
        | omega
        | exact cGt1 x e
        | (simp; omega)
        | (simp [hx]; done)
        | exact i64_small (by simp; omega))

theorem ixGYes (l : List Rw) (e : Rw) (x : Rw) (i : Nat) (h : i < l.length) (hx : l[i]? = some x) (hs : l.length ≤ 1000000000000000) (hp : (pGtR e) x = true) : CodeC Try.prog 1 19 ixGB (ixGS l e i 0) .ret (ixGS l e i (i : Int)) :=
  runP hmix [.reg 2 [(0, [], some true)], .reg 4 [(4, [.row (Rw.row x)], none), (5, [.call [0] [] (Bo ((pGtR e) x)) [some (.box e.row)]], some true)]] ⟨[0, 1, 4, 7, 8], [(0, 0)], []⟩ [
      decide (Int.ofNat i < Int.ofNat (List.length l)) = true,
      (0 : Int) ≤ Int.ofNat i,
      Int.ofNat i < Int.ofNat (List.length (List.map Rw.row l)),
      (List.map Rw.row l)[i]? = some (Rw.row x),
      Contract Try.prog (45 : Nat) [V.agg [I (Rw.lev x), I (Rw.win x), Sg (Rw.svc x), Sg (Rw.op x), I (Rw.c x (0 : Nat)), I (Rw.c x (1 : Nat)), I (Rw.c x (2 : Nat)), I (Rw.c x (3 : Nat)), I (Rw.c x (4 : Nat)), I (Rw.c x (5 : Nat)), I (Rw.c x (6 : Nat)), I (Rw.c x (7 : Nat)), I (Rw.c x (8 : Nat)), I (Rw.c x (9 : Nat))], V.ptr (0 : Nat) (0 : Nat) (0 : Nat) (0 : Nat)] [Obj.box [I (Rw.lev e), I (Rw.win e), Sg (Rw.svc e), Sg (Rw.op e), I (Rw.c e (0 : Nat)), I (Rw.c e (1 : Nat)), I (Rw.c e (2 : Nat)), I (Rw.c e (3 : Nat)), I (Rw.c e (4 : Nat)), I (Rw.c e (5 : Nat)), I (Rw.c e (6 : Nat)), I (Rw.c e (7 : Nat)), I (Rw.c e (8 : Nat)), I (Rw.c e (9 : Nat))]] (Bo (pGtR e x)) [some (Obj.box (Rw.row e))],
      pGtR e x = true] (by kernel_rfl)
    (by
      simp only [allP]
      and_intros <;> first
        | omega
        | exact cGt1 x e
        | (simp; omega)
        | (simp [hx]; done))

theorem ixGEnd (l : List Rw) (e : Rw) (i : Nat) (h : l.length ≤ i) : CodeC Try.prog 1 19 ixGB (ixGS l e i 0) (.exit 0) (ixGS l e i 0) :=
  runP hmix [.reg 2 [(0, [], some false)]] ⟨[0, 1, 4, 7, 8], [(0, 0)], []⟩ [
      decide (Int.ofNat i < Int.ofNat (List.length l)) = false] (by kernel_rfl)
    (by
      simp only [allP]
      and_intros <;> first
        | (simp; omega))

theorem ixGLoop (l : List Rw) (e : Rw) (hs : l.length ≤ 1000000000000000) : ∀ (n i : Nat), i + n = l.length →
    match (l.drop i).findIdx? (pGtR e) with
    | some j => LoopC Try.prog 1 19 ixGB (ixGS l e i 0) .ret (ixGS l e (i + j) ((i + j : Nat) : Int))
    | none => LoopC Try.prog 1 19 ixGB (ixGS l e i 0) (.exit 0) (ixGS l e l.length 0)
  | 0, i, hi => by
    rw [List.drop_of_length_le (by omega)]
    have : i = l.length := by omega
    subst this
    exact LoopC.last (ixGEnd l e _ (by omega)) (by simp)
  | n + 1, i, hi => by
    have hlt : i < l.length := by omega
    have hx : l[i]? = some l[i] := by simp [hlt]
    have ih := ixGLoop l e hs n (i + 1) (by omega)
    rw [List.drop_eq_getElem_cons hlt, List.findIdx?_cons]
    cases hp : (pGtR e) l[i] with
    | true =>
      simp only [if_true, Nat.add_zero]
      exact LoopC.last (ixGYes l e l[i] i hlt hx hs hp) (by simp)
    | false =>
      have r := ixGNo l e l[i] i hlt hx hs hp
      simp only [Bool.false_eq_true, if_false]
      cases hf : (l.drop (i + 1)).findIdx? (pGtR e) with
      | none => rw [hf] at ih; exact LoopC.next r ih
      | some j =>
        rw [hf] at ih
        simp only [Option.map_some]
        rw [show i + (j + 1) = i + 1 + j by omega]
        exact LoopC.next r ih

theorem ixGSome (l : List Rw) (e : Rw) (j : Nat) (hs : l.length ≤ 1000000000000000) (h : l.findIdx? (pGtR e) = some j) : Contract Try.prog 42 [.sl 14 (l.map Rw.row), .clo (.func 45) [] [.ptr 0 0 0 0]] [.box e.row] (I (j : Int)) [some (.box e.row)] :=
  have hl := ixGLoop l e hs l.length 0 (by omega)
  have hl : LoopC Try.prog 1 19 ixGB (ixGS l e 0 0) .ret (ixGS l e j ((j : Nat) : Int)) := by rw [List.drop_zero, h] at hl; simpa using hl
  vcP hmix [.reg 1 [(1, [.be (I (l.length : Int))], none)], .cut ⟨[0, 1, 4, 7, 8], [(0, 0)], []⟩ .ret (ixGS l e j (j : Int))] [] [(((l.map Rw.row).length : Nat) : Int) = (l.length : Int), LoopC Try.prog 1 19 ixGB (ixGS l e 0 0) .ret (ixGS l e j ((j : Nat) : Int))] (by kernel_rfl) ⟨by simp, hl⟩

theorem ixGNone (l : List Rw) (e : Rw) (hs : l.length ≤ 1000000000000000) (h : l.findIdx? (pGtR e) = none) : Contract Try.prog 42 [.sl 14 (l.map Rw.row), .clo (.func 45) [] [.ptr 0 0 0 0]] [.box e.row] (I (-1)) [some (.box e.row)] :=
  have hl := ixGLoop l e hs l.length 0 (by omega)
  have hl : LoopC Try.prog 1 19 ixGB (ixGS l e 0 0) (.exit 0) (ixGS l e l.length 0) := by rw [List.drop_zero, h] at hl; exact hl
  vcP hmix [.reg 1 [(1, [.be (I (l.length : Int))], none)], .cut ⟨[0, 1, 4, 7, 8], [(0, 0)], []⟩ (.exit 0) (ixGS l e l.length 0)] [] [(((l.map Rw.row).length : Nat) : Int) = (l.length : Int), LoopC Try.prog 1 19 ixGB (ixGS l e 0 0) (.exit 0) (ixGS l e l.length 0)] (by kernel_rfl) ⟨by simp, hl⟩

theorem ixG (l : List Rw) (e : Rw) (hs : l.length ≤ 1000000000000000) : Contract Try.prog 42 [.sl 14 (l.map Rw.row), .clo (.func 45) [] [.ptr 0 0 0 0]] [.box e.row] (I (idxI (pGtR e) l)) [some (.box e.row)] := by
  unfold idxI
  cases h : l.findIdx? (pGtR e) with
  | none => exact ixGNone l e hs h
  | some j => exact ixGSome l e j hs h

end Go.Proofs.Ytigakemkanobaaa
