/- a block has of each trace just the episodes that were put in. -/
import Derived.Test.YtdomjccibhgbjaaBlFindsP5
namespace Go.Proofs.Ytdomjccibhgbjaa
open E
set_option maxRecDepth 100000
set_option linter.unusedVariables false
set_option linter.unusedSimpArgs false

def lfS (l : List Ep) (h o : Int) (r : Bool) (R : List Ep) (i : Nat) : SL := ⟨[(0, .sl 6 (l.map Ep.row)), (3, .ptr 1000 0 0 0), (4, Bo r), (6, .own 900), (7, I (i : Int))], [(1000, .box [U h, U o]), (900, .arr 6 (R.map Ep.row))], [1000, 900]⟩
noncomputable def lfB : Code := codeAt Try.prog 6 [true, true, true, true, false, true, false, false]

theorem lfY_0 (l : List Ep) (h o : Int) (R : List Ep) (x : Ep) (i : Nat) (hx : l[i]? = some x) (hi : i < l.length) (hs : l.length ≤ 1000000) (hR : R.length ≤ 1000000) (hm : x.spans.length ≤ 1048576) (hq : rightE x = true) (hb : eqT h o x = true) : CodeC Try.prog 0 83 lfB (lfS l h o false R i) (Ex.normal) ({ env := [((0 : Nat), V.sl (6 : Nat) (List.map (fun e0 => [V.val (Value.int IntKind.u64 (Ep.hi e0)), V.val (Value.int IntKind.u64 (Ep.lo e0)), I (Ep.first e0), I (Ep.last e0), Bo (Ep.sure e0), V.sl (10 : Nat) (List.map Sp.row (Ep.spans e0))]) l)), ((3 : Nat), V.ptr (1000 : Nat) (0 : Nat) (0 : Nat) (0 : Nat)), ((4 : Nat), Bo false), ((6 : Nat), V.own (900 : Nat)), ((7 : Nat), I (Int.ofNat (i + (1 : Nat))))], st := [((1000 : Nat), Obj.box [V.val (Value.int IntKind.u64 h), V.val (Value.int IntKind.u64 o)]), ((900 : Nat), Obj.arr (6 : Nat) (List.map (fun e0 => [V.val (Value.int IntKind.u64 (Ep.hi e0)), V.val (Value.int IntKind.u64 (Ep.lo e0)), I (Ep.first e0), I (Ep.last e0), Bo (Ep.sure e0), V.sl (10 : Nat) (List.map Sp.row (Ep.spans e0))]) (R ++ [x])))], ids := [(1000 : Nat), (900 : Nat)] }) :=
  runP hmix [.reg 6 [(3, [], some true)], .reg 8 [(3, [.row (Ep.row x)], none), (4, [.call [] [] (Bo (rightE x)) []], none), (5, [], some false)], .reg 10 [(4, [.row (Ep.row x)], none), (6, [], some true)], .reg 11 [(4, [.row (Ep.row x)], none), (6, [.beO ((R ++ [x]).map Ep.row)], none)], .reg 7 [(1, [.be (I ((i + 1 : Nat) : Int))], none)]] ⟨[0, 3, 4, 6, 7], [(1000, 1000), (2207000, 900)], []⟩ [
      decide (Int.ofNat i < Int.ofNat (List.length (List.map (fun e0 => [V.val (Value.int IntKind.u64 (Ep.hi e0)), V.val (Value.int IntKind.u64 (Ep.lo e0)), I (Ep.first e0), I (Ep.last e0), Bo (Ep.sure e0), V.sl (10 : Nat) (List.map Sp.row (Ep.spans e0))]) l))) = true,
      (0 : Int) ≤ Int.ofNat i,
      Int.ofNat i < Int.ofNat (List.length (List.map (fun e0 => [V.val (Value.int IntKind.u64 (Ep.hi e0)), V.val (Value.int IntKind.u64 (Ep.lo e0)), I (Ep.first e0), I (Ep.last e0), Bo (Ep.sure e0), V.sl (10 : Nat) (List.map Sp.row (Ep.spans e0))]) l)),
      (List.map (fun e0 => [V.val (Value.int IntKind.u64 (Ep.hi e0)), V.val (Value.int IntKind.u64 (Ep.lo e0)), I (Ep.first e0), I (Ep.last e0), Bo (Ep.sure e0), V.sl (10 : Nat) (List.map Sp.row (Ep.spans e0))]) l)[i]? = some [V.val (Value.int IntKind.u64 (Ep.hi x)), V.val (Value.int IntKind.u64 (Ep.lo x)), I (Ep.first x), I (Ep.last x), Bo (Ep.sure x), V.sl (10 : Nat) (List.map Sp.row (Ep.spans x))],
      Contract Try.prog (24 : Nat) [V.agg [V.val (Value.int IntKind.u64 (Ep.hi x)), V.val (Value.int IntKind.u64 (Ep.lo x)), I (Ep.first x), I (Ep.last x), Bo (Ep.sure x), V.sl (10 : Nat) (List.map Sp.row (Ep.spans x))]] [] (Bo (rightE x)) [],
      (!rightE x) = false,
      (0 : Int) ≤ Int.ofNat i,
      Int.ofNat i < Int.ofNat (List.length (List.map (fun e0 => [V.val (Value.int IntKind.u64 (Ep.hi e0)), V.val (Value.int IntKind.u64 (Ep.lo e0)), I (Ep.first e0), I (Ep.last e0), Bo (Ep.sure e0), V.sl (10 : Nat) (List.map Sp.row (Ep.spans e0))]) l)),
      (List.map (fun e0 => [V.val (Value.int IntKind.u64 (Ep.hi e0)), V.val (Value.int IntKind.u64 (Ep.lo e0)), I (Ep.first e0), I (Ep.last e0), Bo (Ep.sure e0), V.sl (10 : Nat) (List.map Sp.row (Ep.spans e0))]) l)[i]? = some [V.val (Value.int IntKind.u64 (Ep.hi x)), V.val (Value.int IntKind.u64 (Ep.lo x)), I (Ep.first x), I (Ep.last x), Bo (Ep.sure x), V.sl (10 : Nat) (List.map Sp.row (Ep.spans x))],
      (decide (Ep.hi x = h) && (decide (Ep.lo x = o) && true)) = true,
      (0 : Int) ≤ Int.ofNat i,
      Int.ofNat i < Int.ofNat (List.length (List.map (fun e0 => [V.val (Value.int IntKind.u64 (Ep.hi e0)), V.val (Value.int IntKind.u64 (Ep.lo e0)), I (Ep.first e0), I (Ep.last e0), Bo (Ep.sure e0), V.sl (10 : Nat) (List.map Sp.row (Ep.spans e0))]) l)),
      (List.map (fun e0 => [V.val (Value.int IntKind.u64 (Ep.hi e0)), V.val (Value.int IntKind.u64 (Ep.lo e0)), I (Ep.first e0), I (Ep.last e0), Bo (Ep.sure e0), V.sl (10 : Nat) (List.map Sp.row (Ep.spans e0))]) l)[i]? = some [V.val (Value.int IntKind.u64 (Ep.hi x)), V.val (Value.int IntKind.u64 (Ep.lo x)), I (Ep.first x), I (Ep.last x), Bo (Ep.sure x), V.sl (10 : Nat) (List.map Sp.row (Ep.spans x))],
      (List.length (List.map (fun e0 => [V.val (Value.int IntKind.u64 (Ep.hi e0)), V.val (Value.int IntKind.u64 (Ep.lo e0)), I (Ep.first e0), I (Ep.last e0), Bo (Ep.sure e0), V.sl (10 : Nat) (List.map Sp.row (Ep.spans e0))]) R) + (1 : Nat)) * (64 : Nat) ≤ (140737488355328 : Nat),
      List.map (fun e0 => [V.val (Value.int IntKind.u64 (Ep.hi e0)), V.val (Value.int IntKind.u64 (Ep.lo e0)), I (Ep.first e0), I (Ep.last e0), Bo (Ep.sure e0), V.sl (10 : Nat) (List.map Sp.row (Ep.spans e0))]) R ++ [[V.val (Value.int IntKind.u64 (Ep.hi x)), V.val (Value.int IntKind.u64 (Ep.lo x)), I (Ep.first x), I (Ep.last x), Bo (Ep.sure x), V.sl (10 : Nat) (List.map Sp.row (Ep.spans x))]] = List.map (fun e0 => [V.val (Value.int IntKind.u64 (Ep.hi e0)), V.val (Value.int IntKind.u64 (Ep.lo e0)), I (Ep.first e0), I (Ep.last e0), Bo (Ep.sure e0), V.sl (10 : Nat) (List.map Sp.row (Ep.spans e0))]) (R ++ [x]),
      IntKind.wrap IntKind.i64 (Int.ofNat (i + (1 : Nat))) = Int.ofNat (i + (1 : Nat))] (by kernel_rfl)
    (by
      simp only [allP]
      and_intros <;> first
        | exact cRightE x hm
        | (simp [hx]; done)
        | (simp; omega)
        | exact i64_small (by simp; omega)
        | (unfold eqT at hb; simp at hb ⊢; exact hb))

theorem lfY (l : List Ep) (h o : Int) (R : List Ep) (x : Ep) (i : Nat) (hx : l[i]? = some x) (hi : i < l.length) (hs : l.length ≤ 1000000) (hR : R.length ≤ 1000000) (hm : x.spans.length ≤ 1048576) (hq : rightE x = true) (hb : eqT h o x = true)  : CodeC Try.prog 0 83 lfB (lfS l h o false R i) .normal (lfS l h o false (R ++ [x]) (i + 1)) := by
  exact CodeC.cast (by
    first
      | rfl) (lfY_0 l h o R x i hx hi hs hR hm hq hb )

theorem lfN_0 (l : List Ep) (h o : Int) (R : List Ep) (x : Ep) (i : Nat) (hx : l[i]? = some x) (hi : i < l.length) (hs : l.length ≤ 1000000) (hR : R.length ≤ 1000000) (hm : x.spans.length ≤ 1048576) (hq : rightE x = true) (hb : eqT h o x = false) : CodeC Try.prog 0 83 lfB (lfS l h o false R i) (Ex.normal) ({ env := [((0 : Nat), V.sl (6 : Nat) (List.map (fun e0 => [V.val (Value.int IntKind.u64 (Ep.hi e0)), V.val (Value.int IntKind.u64 (Ep.lo e0)), I (Ep.first e0), I (Ep.last e0), Bo (Ep.sure e0), V.sl (10 : Nat) (List.map Sp.row (Ep.spans e0))]) l)), ((3 : Nat), V.ptr (1000 : Nat) (0 : Nat) (0 : Nat) (0 : Nat)), ((4 : Nat), Bo false), ((6 : Nat), V.own (900 : Nat)), ((7 : Nat), I (Int.ofNat (i + (1 : Nat))))], st := [((1000 : Nat), Obj.box [V.val (Value.int IntKind.u64 h), V.val (Value.int IntKind.u64 o)]), ((900 : Nat), Obj.arr (6 : Nat) (List.map (fun e0 => [V.val (Value.int IntKind.u64 (Ep.hi e0)), V.val (Value.int IntKind.u64 (Ep.lo e0)), I (Ep.first e0), I (Ep.last e0), Bo (Ep.sure e0), V.sl (10 : Nat) (List.map Sp.row (Ep.spans e0))]) R))], ids := [(1000 : Nat), (900 : Nat)] }) :=
  runP hmix [.reg 6 [(3, [], some true)], .reg 8 [(3, [.row (Ep.row x)], none), (4, [.call [] [] (Bo (rightE x)) []], none), (5, [], some false)], .reg 10 [(4, [.row (Ep.row x)], none), (6, [], some false)], .reg 7 [(1, [.be (I ((i + 1 : Nat) : Int))], none)]] ⟨[0, 3, 4, 6, 7], [(1000, 1000), (900, 900)], []⟩ [
      decide (Int.ofNat i < Int.ofNat (List.length (List.map (fun e0 => [V.val (Value.int IntKind.u64 (Ep.hi e0)), V.val (Value.int IntKind.u64 (Ep.lo e0)), I (Ep.first e0), I (Ep.last e0), Bo (Ep.sure e0), V.sl (10 : Nat) (List.map Sp.row (Ep.spans e0))]) l))) = true,
      (0 : Int) ≤ Int.ofNat i,
      Int.ofNat i < Int.ofNat (List.length (List.map (fun e0 => [V.val (Value.int IntKind.u64 (Ep.hi e0)), V.val (Value.int IntKind.u64 (Ep.lo e0)), I (Ep.first e0), I (Ep.last e0), Bo (Ep.sure e0), V.sl (10 : Nat) (List.map Sp.row (Ep.spans e0))]) l)),
      (List.map (fun e0 => [V.val (Value.int IntKind.u64 (Ep.hi e0)), V.val (Value.int IntKind.u64 (Ep.lo e0)), I (Ep.first e0), I (Ep.last e0), Bo (Ep.sure e0), V.sl (10 : Nat) (List.map Sp.row (Ep.spans e0))]) l)[i]? = some [V.val (Value.int IntKind.u64 (Ep.hi x)), V.val (Value.int IntKind.u64 (Ep.lo x)), I (Ep.first x), I (Ep.last x), Bo (Ep.sure x), V.sl (10 : Nat) (List.map Sp.row (Ep.spans x))],
      Contract Try.prog (24 : Nat) [V.agg [V.val (Value.int IntKind.u64 (Ep.hi x)), V.val (Value.int IntKind.u64 (Ep.lo x)), I (Ep.first x), I (Ep.last x), Bo (Ep.sure x), V.sl (10 : Nat) (List.map Sp.row (Ep.spans x))]] [] (Bo (rightE x)) [],
      (!rightE x) = false,
      (0 : Int) ≤ Int.ofNat i,
      Int.ofNat i < Int.ofNat (List.length (List.map (fun e0 => [V.val (Value.int IntKind.u64 (Ep.hi e0)), V.val (Value.int IntKind.u64 (Ep.lo e0)), I (Ep.first e0), I (Ep.last e0), Bo (Ep.sure e0), V.sl (10 : Nat) (List.map Sp.row (Ep.spans e0))]) l)),
      (List.map (fun e0 => [V.val (Value.int IntKind.u64 (Ep.hi e0)), V.val (Value.int IntKind.u64 (Ep.lo e0)), I (Ep.first e0), I (Ep.last e0), Bo (Ep.sure e0), V.sl (10 : Nat) (List.map Sp.row (Ep.spans e0))]) l)[i]? = some [V.val (Value.int IntKind.u64 (Ep.hi x)), V.val (Value.int IntKind.u64 (Ep.lo x)), I (Ep.first x), I (Ep.last x), Bo (Ep.sure x), V.sl (10 : Nat) (List.map Sp.row (Ep.spans x))],
      (decide (Ep.hi x = h) && (decide (Ep.lo x = o) && true)) = false,
      IntKind.wrap IntKind.i64 (Int.ofNat (i + (1 : Nat))) = Int.ofNat (i + (1 : Nat))] (by kernel_rfl)
    (by
      simp only [allP]
      and_intros <;> first
        | exact cRightE x hm
        | (simp [hx]; done)
        | (simp; omega)
        | exact i64_small (by simp; omega)
        | (unfold eqT at hb; simp at hb ⊢; exact hb))

theorem lfN (l : List Ep) (h o : Int) (R : List Ep) (x : Ep) (i : Nat) (hx : l[i]? = some x) (hi : i < l.length) (hs : l.length ≤ 1000000) (hR : R.length ≤ 1000000) (hm : x.spans.length ≤ 1048576) (hq : rightE x = true) (hb : eqT h o x = false)  : CodeC Try.prog 0 83 lfB (lfS l h o false R i) .normal (lfS l h o false R (i + 1)) := by
  exact CodeC.cast (by
    first
      | rfl) (lfN_0 l h o R x i hx hi hs hR hm hq hb )

theorem lfW_0 (l : List Ep) (h o : Int) (R : List Ep) (x : Ep) (i : Nat) (hx : l[i]? = some x) (hi : i < l.length) (hs : l.length ≤ 1000000) (hR : R.length ≤ 1000000) (hm : x.spans.length ≤ 1048576) (hq : rightE x = false) : CodeC Try.prog 0 83 lfB (lfS l h o false R i) (Ex.ret) ({ env := [((0 : Nat), V.sl (6 : Nat) (List.map (fun e0 => [V.val (Value.int IntKind.u64 (Ep.hi e0)), V.val (Value.int IntKind.u64 (Ep.lo e0)), I (Ep.first e0), I (Ep.last e0), Bo (Ep.sure e0), V.sl (10 : Nat) (List.map Sp.row (Ep.spans e0))]) l)), ((3 : Nat), V.ptr (1000 : Nat) (0 : Nat) (0 : Nat) (0 : Nat)), ((4 : Nat), Bo true), ((6 : Nat), V.own (900 : Nat)), ((7 : Nat), I (Int.ofNat i))], st := [((1000 : Nat), Obj.box [V.val (Value.int IntKind.u64 h), V.val (Value.int IntKind.u64 o)]), ((900 : Nat), Obj.arr (6 : Nat) (List.map (fun e0 => [V.val (Value.int IntKind.u64 (Ep.hi e0)), V.val (Value.int IntKind.u64 (Ep.lo e0)), I (Ep.first e0), I (Ep.last e0), Bo (Ep.sure e0), V.sl (10 : Nat) (List.map Sp.row (Ep.spans e0))]) R))], ids := [(1000 : Nat), (900 : Nat)] }) :=
  runP hmix [.reg 6 [(3, [], some true)], .reg 8 [(3, [.row (Ep.row x)], none), (4, [.call [] [] (Bo (rightE x)) []], none), (5, [], some true)]] ⟨[0, 3, 4, 6, 7], [(1000, 1000), (900, 900)], []⟩ [
      decide (Int.ofNat i < Int.ofNat (List.length (List.map (fun e0 => [V.val (Value.int IntKind.u64 (Ep.hi e0)), V.val (Value.int IntKind.u64 (Ep.lo e0)), I (Ep.first e0), I (Ep.last e0), Bo (Ep.sure e0), V.sl (10 : Nat) (List.map Sp.row (Ep.spans e0))]) l))) = true,
      (0 : Int) ≤ Int.ofNat i,
      Int.ofNat i < Int.ofNat (List.length (List.map (fun e0 => [V.val (Value.int IntKind.u64 (Ep.hi e0)), V.val (Value.int IntKind.u64 (Ep.lo e0)), I (Ep.first e0), I (Ep.last e0), Bo (Ep.sure e0), V.sl (10 : Nat) (List.map Sp.row (Ep.spans e0))]) l)),
      (List.map (fun e0 => [V.val (Value.int IntKind.u64 (Ep.hi e0)), V.val (Value.int IntKind.u64 (Ep.lo e0)), I (Ep.first e0), I (Ep.last e0), Bo (Ep.sure e0), V.sl (10 : Nat) (List.map Sp.row (Ep.spans e0))]) l)[i]? = some [V.val (Value.int IntKind.u64 (Ep.hi x)), V.val (Value.int IntKind.u64 (Ep.lo x)), I (Ep.first x), I (Ep.last x), Bo (Ep.sure x), V.sl (10 : Nat) (List.map Sp.row (Ep.spans x))],
      Contract Try.prog (24 : Nat) [V.agg [V.val (Value.int IntKind.u64 (Ep.hi x)), V.val (Value.int IntKind.u64 (Ep.lo x)), I (Ep.first x), I (Ep.last x), Bo (Ep.sure x), V.sl (10 : Nat) (List.map Sp.row (Ep.spans x))]] [] (Bo (rightE x)) [],
      (!rightE x) = true] (by kernel_rfl)
    (by
      simp only [allP]
      and_intros <;> first
        | exact cRightE x hm
        | (simp [hx]; done)
        | (simp; omega))

theorem lfW (l : List Ep) (h o : Int) (R : List Ep) (x : Ep) (i : Nat) (hx : l[i]? = some x) (hi : i < l.length) (hs : l.length ≤ 1000000) (hR : R.length ≤ 1000000) (hm : x.spans.length ≤ 1048576) (hq : rightE x = false)  : CodeC Try.prog 0 83 lfB (lfS l h o false R i) .ret (lfS l h o true R i) := by
  exact CodeC.cast (by
    first
      | rfl) (lfW_0 l h o R x i hx hi hs hR hm hq )

theorem lfE_0 (l : List Ep) (h o : Int) (R : List Ep) (i : Nat) (hi : l.length ≤ i) : CodeC Try.prog 0 83 lfB (lfS l h o false R i) (Ex.exit (0 : Nat)) ({ env := [((0 : Nat), V.sl (6 : Nat) (List.map (fun e0 => [V.val (Value.int IntKind.u64 (Ep.hi e0)), V.val (Value.int IntKind.u64 (Ep.lo e0)), I (Ep.first e0), I (Ep.last e0), Bo (Ep.sure e0), V.sl (10 : Nat) (List.map Sp.row (Ep.spans e0))]) l)), ((3 : Nat), V.ptr (1000 : Nat) (0 : Nat) (0 : Nat) (0 : Nat)), ((4 : Nat), Bo false), ((6 : Nat), V.own (900 : Nat)), ((7 : Nat), I (Int.ofNat i))], st := [((1000 : Nat), Obj.box [V.val (Value.int IntKind.u64 h), V.val (Value.int IntKind.u64 o)]), ((900 : Nat), Obj.arr (6 : Nat) (List.map (fun e0 => [V.val (Value.int IntKind.u64 (Ep.hi e0)), V.val (Value.int IntKind.u64 (Ep.lo e0)), I (Ep.first e0), I (Ep.last e0), Bo (Ep.sure e0), V.sl (10 : Nat) (List.map Sp.row (Ep.spans e0))]) R))], ids := [(1000 : Nat), (900 : Nat)] }) :=
  runP hmix [.reg 6 [(3, [], some false)]] ⟨[0, 3, 4, 6, 7], [(1000, 1000), (900, 900)], []⟩ [
      decide (Int.ofNat i < Int.ofNat (List.length (List.map (fun e0 => [V.val (Value.int IntKind.u64 (Ep.hi e0)), V.val (Value.int IntKind.u64 (Ep.lo e0)), I (Ep.first e0), I (Ep.last e0), Bo (Ep.sure e0), V.sl (10 : Nat) (List.map Sp.row (Ep.spans e0))]) l))) = false] (by kernel_rfl)
    (by
      simp only [allP]
      and_intros <;> first
        | (simp; omega))

theorem lfE (l : List Ep) (h o : Int) (R : List Ep) (i : Nat) (hi : l.length ≤ i)  : CodeC Try.prog 0 83 lfB (lfS l h o false R i) (.exit 0) (lfS l h o false R i) := by
  exact CodeC.cast (by
    first
      | rfl) (lfE_0 l h o R i hi )

theorem lfAll (l : List Ep) (h o : Int) (hs : l.length ≤ 1000000) (hm : ∀ e ∈ l, e.spans.length ≤ 1048576) : ∀ (m i : Nat) (R : List Ep), i + m = l.length → R.length ≤ i → (∃ R' i', LoopC Try.prog 0 83 lfB (lfS l h o false R i) .ret (lfS l h o true R' i')) ∨ ((∀ e ∈ l.drop i, rightE e = true) ∧ LoopC Try.prog 0 83 lfB (lfS l h o false R i) (.exit 0) (lfS l h o false (R ++ (l.drop i).filter (eqT h o)) l.length))
  | 0, i, R, hi, hR => by
    have : i = l.length := by omega
    subst this
    rw [List.drop_length]
    refine .inr ⟨by simp, ?_⟩
    rw [List.filter_nil, List.append_nil]
    exact LoopC.last (lfE l h o R _ (Nat.le_refl _)) (by simp)
  | m + 1, i, R, hi, hR => by
    have hlt : i < l.length := by omega
    have hx : l[i]? = some l[i] := List.getElem?_eq_getElem hlt
    have hmx := hm _ (List.getElem_mem hlt)
    rw [List.drop_eq_getElem_cons hlt]
    cases hq : rightE l[i] with
    | false => exact .inl ⟨R, i, LoopC.last (lfW l h o R _ i hx hlt hs (by omega) hmx hq) (by simp)⟩
    | true =>
      cases hb : eqT h o l[i] with
      | true =>
        rcases lfAll l h o hs hm m (i + 1) (R ++ [l[i]]) (by omega) (by simp; omega) with ⟨R', i', k⟩ | ⟨k1, k2⟩
        · exact .inl ⟨R', i', LoopC.next (lfY l h o R _ i hx hlt hs (by omega) hmx hq hb) k⟩
        · refine .inr ⟨?_, ?_⟩
          · intro e he
            rcases List.mem_cons.1 he with rfl | he
            · exact hq
            · exact k1 e he
          · rw [List.filter_cons, hb, if_pos rfl]
            rw [List.append_assoc] at k2
            exact LoopC.next (lfY l h o R _ i hx hlt hs (by omega) hmx hq hb) k2
      | false =>
        rcases lfAll l h o hs hm m (i + 1) R (by omega) (by omega) with ⟨R', i', k⟩ | ⟨k1, k2⟩
        · exact .inl ⟨R', i', LoopC.next (lfN l h o R _ i hx hlt hs (by omega) hmx hq hb) k⟩
        · refine .inr ⟨?_, ?_⟩
          · intro e he
            rcases List.mem_cons.1 he with rfl | he
            · exact hq
            · exact k1 e he
          · rw [List.filter_cons, hb, if_neg (by simp)]
            exact LoopC.next (lfN l h o R _ i hx hlt hs (by omega) hmx hq hb) k2
theorem fiN_0 (l : List Ep) (h o : Int) (hf : few15 l 0 = false) : Contract Try.prog 6 [.sl 6 (l.map Ep.row), .agg [U h, U o]] [] (Bo true) ([]) :=
  vcP hmix [.reg 1 [(0, [.call [] [] (Bo true) []], none)], .reg 2 [(4, [.call [] [] (Bo (few15 l 0)) []], none), (6, [], some true)]] [] [
      Contract Try.prog (8 : Nat) [] [] (Bo true) [],
      Contract Try.prog (10 : Nat) [V.sl (6 : Nat) (List.map (fun e0 => [V.val (Value.int IntKind.u64 (Ep.hi e0)), V.val (Value.int IntKind.u64 (Ep.lo e0)), I (Ep.first e0), I (Ep.last e0), Bo (Ep.sure e0), V.sl (10 : Nat) (List.map Sp.row (Ep.spans e0))]) l)] [] (Bo (few15 l (0 : Nat))) [],
      (!few15 l (0 : Nat)) = true] (by kernel_rfl)
    (by
      simp only [allP]
      and_intros <;> first
        | exact cAlive
        | exact cFew15 l
        | (simp [hf]; done))

theorem fiN (l : List Ep) (h o : Int) (hf : few15 l 0 = false) : Contract Try.prog 6 [.sl 6 (l.map Ep.row), .agg [U h, U o]] [] (Bo true) [] := by
  exact Contract.cast (by
    first
      | rfl) (by
    first
      | rfl) (fiN_0 l h o hf )

theorem fiW_0 (l R : List Ep) (h o : Int) (i : Nat) (hf : few15 l 0 = true) (hl : LoopC Try.prog 0 83 lfB (lfS l h o false [] 0) .ret (lfS l h o true R i)) : Contract Try.prog 6 [.sl 6 (l.map Ep.row), .agg [U h, U o]] [] (Bo true) ([]) :=
  vcP hmix [.reg 1 [(0, [.call [] [] (Bo true) []], none)], .reg 2 [(4, [.call [] [] (Bo (few15 l 0)) []], none), (6, [], some false)], .cut ⟨[0, 3, 4, 6, 7], [(1000, 1000)], [.slot 6 900 6]⟩ .ret (lfS l h o true R i)] [] [
      Contract Try.prog (8 : Nat) [] [] (Bo true) [],
      Contract Try.prog (10 : Nat) [V.sl (6 : Nat) (List.map (fun e0 => [V.val (Value.int IntKind.u64 (Ep.hi e0)), V.val (Value.int IntKind.u64 (Ep.lo e0)), I (Ep.first e0), I (Ep.last e0), Bo (Ep.sure e0), V.sl (10 : Nat) (List.map Sp.row (Ep.spans e0))]) l)] [] (Bo (few15 l (0 : Nat))) [],
      (!few15 l (0 : Nat)) = false,
      LoopC Try.prog (0 : Nat) (83 : Nat) lfB { env := [((0 : Nat), V.sl (6 : Nat) (List.map (fun e0 => [V.val (Value.int IntKind.u64 (Ep.hi e0)), V.val (Value.int IntKind.u64 (Ep.lo e0)), I (Ep.first e0), I (Ep.last e0), Bo (Ep.sure e0), V.sl (10 : Nat) (List.map Sp.row (Ep.spans e0))]) l)), ((3 : Nat), V.ptr (1000 : Nat) (0 : Nat) (0 : Nat) (0 : Nat)), ((4 : Nat), Bo false), ((6 : Nat), V.own (900 : Nat)), ((7 : Nat), I (0 : Int))], st := [((1000 : Nat), Obj.box [V.val (Value.int IntKind.u64 h), V.val (Value.int IntKind.u64 o)]), ((900 : Nat), Obj.arr (6 : Nat) [])], ids := [(1000 : Nat), (900 : Nat)] } Ex.ret { env := [((0 : Nat), V.sl (6 : Nat) (List.map (fun e0 => [V.val (Value.int IntKind.u64 (Ep.hi e0)), V.val (Value.int IntKind.u64 (Ep.lo e0)), I (Ep.first e0), I (Ep.last e0), Bo (Ep.sure e0), V.sl (10 : Nat) (List.map Sp.row (Ep.spans e0))]) l)), ((3 : Nat), V.ptr (1000 : Nat) (0 : Nat) (0 : Nat) (0 : Nat)), ((4 : Nat), Bo true), ((6 : Nat), V.own (900 : Nat)), ((7 : Nat), I (Int.ofNat i))], st := [((1000 : Nat), Obj.box [V.val (Value.int IntKind.u64 h), V.val (Value.int IntKind.u64 o)]), ((900 : Nat), Obj.arr (6 : Nat) (List.map (fun e0 => [V.val (Value.int IntKind.u64 (Ep.hi e0)), V.val (Value.int IntKind.u64 (Ep.lo e0)), I (Ep.first e0), I (Ep.last e0), Bo (Ep.sure e0), V.sl (10 : Nat) (List.map Sp.row (Ep.spans e0))]) R))], ids := [(1000 : Nat), (900 : Nat)] }] (by kernel_rfl)
    (by
      simp only [allP]
      and_intros <;> first
        | exact cAlive
        | exact cFew15 l
        | exact hl
        | (simp [hf]; done))

theorem fiW (l R : List Ep) (h o : Int) (i : Nat) (hf : few15 l 0 = true) (hl : LoopC Try.prog 0 83 lfB (lfS l h o false [] 0) .ret (lfS l h o true R i)) : Contract Try.prog 6 [.sl 6 (l.map Ep.row), .agg [U h, U o]] [] (Bo true) [] := by
  exact Contract.cast (by
    first
      | rfl) (by
    first
      | rfl) (fiW_0 l R h o i hf hl )

theorem fiY_0 (l S R : List Ep) (h o : Int) (hf : few15 l 0 = true) (hk : FewB l) (hS : S = srt soLt l) (hS2 : S.length ≤ 120) (hSm : ∀ e ∈ S, smE e) (hR : R.length ≤ 1000000) (hRo : ∀ e ∈ R, okE e) (hq : S.filter (eqT h o) = R) (hr : rightM (⟨1, 2, 3, S⟩ : Bk) = true) (hb : okB (⟨1, 2, 3, S⟩ : Bk)) (hlen : (bytesB (⟨1, 2, 3, S⟩ : Bk)).length ≤ 100000) (hsp : ∀ e ∈ S, e.spans.length ≤ 100 ∧ ∀ s ∈ e.spans, s.attrs.length ≤ 1000000000) (hw : ∀ e ∈ S, wfE e) (hl : LoopC Try.prog 0 83 lfB (lfS l h o false [] 0) (.exit 0) (lfS l h o false R l.length)) (tq0 : (Int.ofNat (List.length l) == Int.ofNat (List.length l)) = true) : Contract Try.prog 6 [.sl 6 (l.map Ep.row), .agg [U h, U o]] [] (Bo true) ([]) :=
  vcP hmix [.reg 1 [(0, [.call [] [] (Bo true) []], none)], .reg 2 [(4, [.call [] [] (Bo (few15 l 0)) []], none), (6, [], some false)], .cut ⟨[0, 3, 4, 6, 7], [(1000, 1000)], [.slot 6 900 6]⟩ (.exit 0) (lfS l h o false R l.length), .reg 12 [(1, [.call [] [] (.agg [I 1, I 2, I 3, .sl 6 (S.map Ep.row)]) []], none)], .reg 13 [(1, [.call [] [] (.sl 1 ((bytesB (⟨1, 2, 3, S⟩ : Bk)).map bR)) []], none), (2, [.call [] [] (.tup [(.agg [I 1, I 2, I 3, .sl 6 (S.map Ep.row)]), I 0]) []], none)], .reg 14 [(1, [.call [] [] (I 0) []], none), (6, [.call [] [] (.sl 6 (R.map Ep.row)) []], none), (8, [.call [] [] (Bo true) []], none), (13, [.call [] [] (.sl 6 (R.map Ep.row)) []], none), (15, [.call [] [] (Bo true) []], none), (20, [.be (I (l.length : Int))], none), (22, [.be (I (l.length : Int))], none), (25, [], some true), (27, [.call [] [] (Bo true) []], none)]] [] [
      Contract Try.prog (8 : Nat) [] [] (Bo true) [],
      Contract Try.prog (10 : Nat) [V.sl (6 : Nat) (List.map (fun e0 => [V.val (Value.int IntKind.u64 (Ep.hi e0)), V.val (Value.int IntKind.u64 (Ep.lo e0)), I (Ep.first e0), I (Ep.last e0), Bo (Ep.sure e0), V.sl (10 : Nat) (List.map Sp.row (Ep.spans e0))]) l)] [] (Bo (few15 l (0 : Nat))) [],
      (!few15 l (0 : Nat)) = false,
      LoopC Try.prog (0 : Nat) (83 : Nat) lfB { env := [((0 : Nat), V.sl (6 : Nat) (List.map (fun e0 => [V.val (Value.int IntKind.u64 (Ep.hi e0)), V.val (Value.int IntKind.u64 (Ep.lo e0)), I (Ep.first e0), I (Ep.last e0), Bo (Ep.sure e0), V.sl (10 : Nat) (List.map Sp.row (Ep.spans e0))]) l)), ((3 : Nat), V.ptr (1000 : Nat) (0 : Nat) (0 : Nat) (0 : Nat)), ((4 : Nat), Bo false), ((6 : Nat), V.own (900 : Nat)), ((7 : Nat), I (0 : Int))], st := [((1000 : Nat), Obj.box [V.val (Value.int IntKind.u64 h), V.val (Value.int IntKind.u64 o)]), ((900 : Nat), Obj.arr (6 : Nat) [])], ids := [(1000 : Nat), (900 : Nat)] } (Ex.exit (0 : Nat)) { env := [((0 : Nat), V.sl (6 : Nat) (List.map (fun e0 => [V.val (Value.int IntKind.u64 (Ep.hi e0)), V.val (Value.int IntKind.u64 (Ep.lo e0)), I (Ep.first e0), I (Ep.last e0), Bo (Ep.sure e0), V.sl (10 : Nat) (List.map Sp.row (Ep.spans e0))]) l)), ((3 : Nat), V.ptr (1000 : Nat) (0 : Nat) (0 : Nat) (0 : Nat)), ((4 : Nat), Bo false), ((6 : Nat), V.own (900 : Nat)), ((7 : Nat), I (Int.ofNat (List.length l)))], st := [((1000 : Nat), Obj.box [V.val (Value.int IntKind.u64 h), V.val (Value.int IntKind.u64 o)]), ((900 : Nat), Obj.arr (6 : Nat) (List.map (fun e0 => [V.val (Value.int IntKind.u64 (Ep.hi e0)), V.val (Value.int IntKind.u64 (Ep.lo e0)), I (Ep.first e0), I (Ep.last e0), Bo (Ep.sure e0), V.sl (10 : Nat) (List.map Sp.row (Ep.spans e0))]) R))], ids := [(1000 : Nat), (900 : Nat)] },
      Contract Try.prog (14 : Nat) [I (1 : Int), I (2 : Int), I (3 : Int), V.sl (6 : Nat) (List.map (fun e0 => [V.val (Value.int IntKind.u64 (Ep.hi e0)), V.val (Value.int IntKind.u64 (Ep.lo e0)), I (Ep.first e0), I (Ep.last e0), Bo (Ep.sure e0), V.sl (10 : Nat) (List.map Sp.row (Ep.spans e0))]) l)] [] (V.agg [I (1 : Int), I (2 : Int), I (3 : Int), V.sl (6 : Nat) (List.map (fun e0 => [V.val (Value.int IntKind.u64 (Ep.hi e0)), V.val (Value.int IntKind.u64 (Ep.lo e0)), I (Ep.first e0), I (Ep.last e0), Bo (Ep.sure e0), V.sl (10 : Nat) (List.map Sp.row (Ep.spans e0))]) S)]) [],
      Contract Try.prog (20 : Nat) [V.agg [I (1 : Int), I (2 : Int), I (3 : Int), V.sl (6 : Nat) (List.map (fun e0 => [V.val (Value.int IntKind.u64 (Ep.hi e0)), V.val (Value.int IntKind.u64 (Ep.lo e0)), I (Ep.first e0), I (Ep.last e0), Bo (Ep.sure e0), V.sl (10 : Nat) (List.map Sp.row (Ep.spans e0))]) S)]] [] (V.sl (1 : Nat) (List.map (fun b0 => [V.val (Value.int IntKind.u8 (Int.ofNat (UInt8.toNat b0)))]) (bytesB { num := (1 : Int), born := (2 : Int), tier := (3 : Int), eps := S }))) [],
      Contract Try.prog (11 : Nat) [V.sl (1 : Nat) (List.map (fun b0 => [V.val (Value.int IntKind.u8 (Int.ofNat (UInt8.toNat b0)))]) (bytesB { num := (1 : Int), born := (2 : Int), tier := (3 : Int), eps := S }))] [] (V.tup [V.agg [I (1 : Int), I (2 : Int), I (3 : Int), V.sl (6 : Nat) (List.map (fun e0 => [V.val (Value.int IntKind.u64 (Ep.hi e0)), V.val (Value.int IntKind.u64 (Ep.lo e0)), I (Ep.first e0), I (Ep.last e0), Bo (Ep.sure e0), V.sl (10 : Nat) (List.map Sp.row (Ep.spans e0))]) S)], I (0 : Int)]) [],
      Contract Try.prog (13 : Nat) [I (0 : Int)] [] (I (0 : Int)) [],
      Contract Try.prog (25 : Nat) [V.agg [I (1 : Int), I (2 : Int), I (3 : Int), V.sl (6 : Nat) (List.map (fun e0 => [V.val (Value.int IntKind.u64 (Ep.hi e0)), V.val (Value.int IntKind.u64 (Ep.lo e0)), I (Ep.first e0), I (Ep.last e0), Bo (Ep.sure e0), V.sl (10 : Nat) (List.map Sp.row (Ep.spans e0))]) S)], V.agg [V.val (Value.int IntKind.u64 h), V.val (Value.int IntKind.u64 o)]] [] (V.sl (6 : Nat) (List.map (fun e0 => [V.val (Value.int IntKind.u64 (Ep.hi e0)), V.val (Value.int IntKind.u64 (Ep.lo e0)), I (Ep.first e0), I (Ep.last e0), Bo (Ep.sure e0), V.sl (10 : Nat) (List.map Sp.row (Ep.spans e0))]) R)) [],
      Contract Try.prog (16 : Nat) [V.sl (6 : Nat) (List.map (fun e0 => [V.val (Value.int IntKind.u64 (Ep.hi e0)), V.val (Value.int IntKind.u64 (Ep.lo e0)), I (Ep.first e0), I (Ep.last e0), Bo (Ep.sure e0), V.sl (10 : Nat) (List.map Sp.row (Ep.spans e0))]) R), V.sl (6 : Nat) (List.map (fun e0 => [V.val (Value.int IntKind.u64 (Ep.hi e0)), V.val (Value.int IntKind.u64 (Ep.lo e0)), I (Ep.first e0), I (Ep.last e0), Bo (Ep.sure e0), V.sl (10 : Nat) (List.map Sp.row (Ep.spans e0))]) R)] [] (Bo true) [],
      true = true,
      Contract Try.prog (25 : Nat) [V.agg [I (1 : Int), I (2 : Int), I (3 : Int), V.sl (6 : Nat) (List.map (fun e0 => [V.val (Value.int IntKind.u64 (Ep.hi e0)), V.val (Value.int IntKind.u64 (Ep.lo e0)), I (Ep.first e0), I (Ep.last e0), Bo (Ep.sure e0), V.sl (10 : Nat) (List.map Sp.row (Ep.spans e0))]) S)], V.agg [V.val (Value.int IntKind.u64 h), V.val (Value.int IntKind.u64 o)]] [] (V.sl (6 : Nat) (List.map (fun e0 => [V.val (Value.int IntKind.u64 (Ep.hi e0)), V.val (Value.int IntKind.u64 (Ep.lo e0)), I (Ep.first e0), I (Ep.last e0), Bo (Ep.sure e0), V.sl (10 : Nat) (List.map Sp.row (Ep.spans e0))]) R)) [],
      Contract Try.prog (16 : Nat) [V.sl (6 : Nat) (List.map (fun e0 => [V.val (Value.int IntKind.u64 (Ep.hi e0)), V.val (Value.int IntKind.u64 (Ep.lo e0)), I (Ep.first e0), I (Ep.last e0), Bo (Ep.sure e0), V.sl (10 : Nat) (List.map Sp.row (Ep.spans e0))]) R), V.sl (6 : Nat) (List.map (fun e0 => [V.val (Value.int IntKind.u64 (Ep.hi e0)), V.val (Value.int IntKind.u64 (Ep.lo e0)), I (Ep.first e0), I (Ep.last e0), Bo (Ep.sure e0), V.sl (10 : Nat) (List.map Sp.row (Ep.spans e0))]) R)] [] (Bo true) [],
      true = true,
      Int.ofNat (List.length (List.map (fun e0 => [V.val (Value.int IntKind.u64 (Ep.hi e0)), V.val (Value.int IntKind.u64 (Ep.lo e0)), I (Ep.first e0), I (Ep.last e0), Bo (Ep.sure e0), V.sl (10 : Nat) (List.map Sp.row (Ep.spans e0))]) S)) = Int.ofNat (List.length l),
      Int.ofNat (List.length (List.map (fun e0 => [V.val (Value.int IntKind.u64 (Ep.hi e0)), V.val (Value.int IntKind.u64 (Ep.lo e0)), I (Ep.first e0), I (Ep.last e0), Bo (Ep.sure e0), V.sl (10 : Nat) (List.map Sp.row (Ep.spans e0))]) l)) = Int.ofNat (List.length l),
      (Int.ofNat (List.length l) == Int.ofNat (List.length l)) = true,
      Contract Try.prog (26 : Nat) [V.agg [I (1 : Int), I (2 : Int), I (3 : Int), V.sl (6 : Nat) (List.map (fun e0 => [V.val (Value.int IntKind.u64 (Ep.hi e0)), V.val (Value.int IntKind.u64 (Ep.lo e0)), I (Ep.first e0), I (Ep.last e0), Bo (Ep.sure e0), V.sl (10 : Nat) (List.map Sp.row (Ep.spans e0))]) S)]] [] (Bo true) []] (by kernel_rfl)
    (by
      have d0 := tq0
      try simp only [Int.ofNat_eq_natCast, List.length_map, Bool.not_eq_true', Bool.not_eq_false', decide_eq_true_eq, decide_eq_false_iff_not] at d0
      simp only [allP]
      and_intros <;> first
        | omega
        | exact cAlive
        | exact cFew15 l
        | exact hl
        | (have w := mk0 1 2 3 l (by have := hk.len; omega) (few_sm hk); rw [← hS] at w; exact w)
        | exact cBytes (⟨1, 2, 3, S⟩ : Bk) (by show S.length ≤ _; omega) hsp hw
        | exact cReadB hb hlen
        | exact cNumE _
        | (have w := cFind (⟨1, 2, 3, S⟩ : Bk) h o (by show S.length ≤ _; omega) hSm; rw [hq] at w; exact w)
        | exact cSameEps R hR hRo
        | (have w := cRightM (⟨1, 2, 3, S⟩ : Bk) (by show S.length ≤ _; omega) (fun e he => ⟨by have := (hsp e he).1; omega, (hsp e he).2⟩); rw [hr] at w; exact w)
        | (rw [List.length_map, hS, srt_len]; done)
        | (simp [hf]; done))

theorem fiY_1 (l S R : List Ep) (h o : Int) (hf : few15 l 0 = true) (hk : FewB l) (hS : S = srt soLt l) (hS2 : S.length ≤ 120) (hSm : ∀ e ∈ S, smE e) (hR : R.length ≤ 1000000) (hRo : ∀ e ∈ R, okE e) (hq : S.filter (eqT h o) = R) (hr : rightM (⟨1, 2, 3, S⟩ : Bk) = true) (hb : okB (⟨1, 2, 3, S⟩ : Bk)) (hlen : (bytesB (⟨1, 2, 3, S⟩ : Bk)).length ≤ 100000) (hsp : ∀ e ∈ S, e.spans.length ≤ 100 ∧ ∀ s ∈ e.spans, s.attrs.length ≤ 1000000000) (hw : ∀ e ∈ S, wfE e) (hl : LoopC Try.prog 0 83 lfB (lfS l h o false [] 0) (.exit 0) (lfS l h o false R l.length)) (tq0 : (Int.ofNat (List.length l) == Int.ofNat (List.length l)) = false) : Contract Try.prog 6 [.sl 6 (l.map Ep.row), .agg [U h, U o]] [] (Bo false) ([]) :=
  vcP hmix [.reg 1 [(0, [.call [] [] (Bo true) []], none)], .reg 2 [(4, [.call [] [] (Bo (few15 l 0)) []], none), (6, [], some false)], .cut ⟨[0, 3, 4, 6, 7], [(1000, 1000)], [.slot 6 900 6]⟩ (.exit 0) (lfS l h o false R l.length), .reg 12 [(1, [.call [] [] (.agg [I 1, I 2, I 3, .sl 6 (S.map Ep.row)]) []], none)], .reg 13 [(1, [.call [] [] (.sl 1 ((bytesB (⟨1, 2, 3, S⟩ : Bk)).map bR)) []], none), (2, [.call [] [] (.tup [(.agg [I 1, I 2, I 3, .sl 6 (S.map Ep.row)]), I 0]) []], none)], .reg 14 [(1, [.call [] [] (I 0) []], none), (6, [.call [] [] (.sl 6 (R.map Ep.row)) []], none), (8, [.call [] [] (Bo true) []], none), (13, [.call [] [] (.sl 6 (R.map Ep.row)) []], none), (15, [.call [] [] (Bo true) []], none), (20, [.be (I (l.length : Int))], none), (22, [.be (I (l.length : Int))], none), (25, [], some false), (27, [.call [] [] (Bo true) []], none)]] [] [
      Contract Try.prog (8 : Nat) [] [] (Bo true) [],
      Contract Try.prog (10 : Nat) [V.sl (6 : Nat) (List.map (fun e0 => [V.val (Value.int IntKind.u64 (Ep.hi e0)), V.val (Value.int IntKind.u64 (Ep.lo e0)), I (Ep.first e0), I (Ep.last e0), Bo (Ep.sure e0), V.sl (10 : Nat) (List.map Sp.row (Ep.spans e0))]) l)] [] (Bo (few15 l (0 : Nat))) [],
      (!few15 l (0 : Nat)) = false,
      LoopC Try.prog (0 : Nat) (83 : Nat) lfB { env := [((0 : Nat), V.sl (6 : Nat) (List.map (fun e0 => [V.val (Value.int IntKind.u64 (Ep.hi e0)), V.val (Value.int IntKind.u64 (Ep.lo e0)), I (Ep.first e0), I (Ep.last e0), Bo (Ep.sure e0), V.sl (10 : Nat) (List.map Sp.row (Ep.spans e0))]) l)), ((3 : Nat), V.ptr (1000 : Nat) (0 : Nat) (0 : Nat) (0 : Nat)), ((4 : Nat), Bo false), ((6 : Nat), V.own (900 : Nat)), ((7 : Nat), I (0 : Int))], st := [((1000 : Nat), Obj.box [V.val (Value.int IntKind.u64 h), V.val (Value.int IntKind.u64 o)]), ((900 : Nat), Obj.arr (6 : Nat) [])], ids := [(1000 : Nat), (900 : Nat)] } (Ex.exit (0 : Nat)) { env := [((0 : Nat), V.sl (6 : Nat) (List.map (fun e0 => [V.val (Value.int IntKind.u64 (Ep.hi e0)), V.val (Value.int IntKind.u64 (Ep.lo e0)), I (Ep.first e0), I (Ep.last e0), Bo (Ep.sure e0), V.sl (10 : Nat) (List.map Sp.row (Ep.spans e0))]) l)), ((3 : Nat), V.ptr (1000 : Nat) (0 : Nat) (0 : Nat) (0 : Nat)), ((4 : Nat), Bo false), ((6 : Nat), V.own (900 : Nat)), ((7 : Nat), I (Int.ofNat (List.length l)))], st := [((1000 : Nat), Obj.box [V.val (Value.int IntKind.u64 h), V.val (Value.int IntKind.u64 o)]), ((900 : Nat), Obj.arr (6 : Nat) (List.map (fun e0 => [V.val (Value.int IntKind.u64 (Ep.hi e0)), V.val (Value.int IntKind.u64 (Ep.lo e0)), I (Ep.first e0), I (Ep.last e0), Bo (Ep.sure e0), V.sl (10 : Nat) (List.map Sp.row (Ep.spans e0))]) R))], ids := [(1000 : Nat), (900 : Nat)] },
      Contract Try.prog (14 : Nat) [I (1 : Int), I (2 : Int), I (3 : Int), V.sl (6 : Nat) (List.map (fun e0 => [V.val (Value.int IntKind.u64 (Ep.hi e0)), V.val (Value.int IntKind.u64 (Ep.lo e0)), I (Ep.first e0), I (Ep.last e0), Bo (Ep.sure e0), V.sl (10 : Nat) (List.map Sp.row (Ep.spans e0))]) l)] [] (V.agg [I (1 : Int), I (2 : Int), I (3 : Int), V.sl (6 : Nat) (List.map (fun e0 => [V.val (Value.int IntKind.u64 (Ep.hi e0)), V.val (Value.int IntKind.u64 (Ep.lo e0)), I (Ep.first e0), I (Ep.last e0), Bo (Ep.sure e0), V.sl (10 : Nat) (List.map Sp.row (Ep.spans e0))]) S)]) [],
      Contract Try.prog (20 : Nat) [V.agg [I (1 : Int), I (2 : Int), I (3 : Int), V.sl (6 : Nat) (List.map (fun e0 => [V.val (Value.int IntKind.u64 (Ep.hi e0)), V.val (Value.int IntKind.u64 (Ep.lo e0)), I (Ep.first e0), I (Ep.last e0), Bo (Ep.sure e0), V.sl (10 : Nat) (List.map Sp.row (Ep.spans e0))]) S)]] [] (V.sl (1 : Nat) (List.map (fun b0 => [V.val (Value.int IntKind.u8 (Int.ofNat (UInt8.toNat b0)))]) (bytesB { num := (1 : Int), born := (2 : Int), tier := (3 : Int), eps := S }))) [],
      Contract Try.prog (11 : Nat) [V.sl (1 : Nat) (List.map (fun b0 => [V.val (Value.int IntKind.u8 (Int.ofNat (UInt8.toNat b0)))]) (bytesB { num := (1 : Int), born := (2 : Int), tier := (3 : Int), eps := S }))] [] (V.tup [V.agg [I (1 : Int), I (2 : Int), I (3 : Int), V.sl (6 : Nat) (List.map (fun e0 => [V.val (Value.int IntKind.u64 (Ep.hi e0)), V.val (Value.int IntKind.u64 (Ep.lo e0)), I (Ep.first e0), I (Ep.last e0), Bo (Ep.sure e0), V.sl (10 : Nat) (List.map Sp.row (Ep.spans e0))]) S)], I (0 : Int)]) [],
      Contract Try.prog (13 : Nat) [I (0 : Int)] [] (I (0 : Int)) [],
      Contract Try.prog (25 : Nat) [V.agg [I (1 : Int), I (2 : Int), I (3 : Int), V.sl (6 : Nat) (List.map (fun e0 => [V.val (Value.int IntKind.u64 (Ep.hi e0)), V.val (Value.int IntKind.u64 (Ep.lo e0)), I (Ep.first e0), I (Ep.last e0), Bo (Ep.sure e0), V.sl (10 : Nat) (List.map Sp.row (Ep.spans e0))]) S)], V.agg [V.val (Value.int IntKind.u64 h), V.val (Value.int IntKind.u64 o)]] [] (V.sl (6 : Nat) (List.map (fun e0 => [V.val (Value.int IntKind.u64 (Ep.hi e0)), V.val (Value.int IntKind.u64 (Ep.lo e0)), I (Ep.first e0), I (Ep.last e0), Bo (Ep.sure e0), V.sl (10 : Nat) (List.map Sp.row (Ep.spans e0))]) R)) [],
      Contract Try.prog (16 : Nat) [V.sl (6 : Nat) (List.map (fun e0 => [V.val (Value.int IntKind.u64 (Ep.hi e0)), V.val (Value.int IntKind.u64 (Ep.lo e0)), I (Ep.first e0), I (Ep.last e0), Bo (Ep.sure e0), V.sl (10 : Nat) (List.map Sp.row (Ep.spans e0))]) R), V.sl (6 : Nat) (List.map (fun e0 => [V.val (Value.int IntKind.u64 (Ep.hi e0)), V.val (Value.int IntKind.u64 (Ep.lo e0)), I (Ep.first e0), I (Ep.last e0), Bo (Ep.sure e0), V.sl (10 : Nat) (List.map Sp.row (Ep.spans e0))]) R)] [] (Bo true) [],
      true = true,
      Contract Try.prog (25 : Nat) [V.agg [I (1 : Int), I (2 : Int), I (3 : Int), V.sl (6 : Nat) (List.map (fun e0 => [V.val (Value.int IntKind.u64 (Ep.hi e0)), V.val (Value.int IntKind.u64 (Ep.lo e0)), I (Ep.first e0), I (Ep.last e0), Bo (Ep.sure e0), V.sl (10 : Nat) (List.map Sp.row (Ep.spans e0))]) S)], V.agg [V.val (Value.int IntKind.u64 h), V.val (Value.int IntKind.u64 o)]] [] (V.sl (6 : Nat) (List.map (fun e0 => [V.val (Value.int IntKind.u64 (Ep.hi e0)), V.val (Value.int IntKind.u64 (Ep.lo e0)), I (Ep.first e0), I (Ep.last e0), Bo (Ep.sure e0), V.sl (10 : Nat) (List.map Sp.row (Ep.spans e0))]) R)) [],
      Contract Try.prog (16 : Nat) [V.sl (6 : Nat) (List.map (fun e0 => [V.val (Value.int IntKind.u64 (Ep.hi e0)), V.val (Value.int IntKind.u64 (Ep.lo e0)), I (Ep.first e0), I (Ep.last e0), Bo (Ep.sure e0), V.sl (10 : Nat) (List.map Sp.row (Ep.spans e0))]) R), V.sl (6 : Nat) (List.map (fun e0 => [V.val (Value.int IntKind.u64 (Ep.hi e0)), V.val (Value.int IntKind.u64 (Ep.lo e0)), I (Ep.first e0), I (Ep.last e0), Bo (Ep.sure e0), V.sl (10 : Nat) (List.map Sp.row (Ep.spans e0))]) R)] [] (Bo true) [],
      true = true,
      Int.ofNat (List.length (List.map (fun e0 => [V.val (Value.int IntKind.u64 (Ep.hi e0)), V.val (Value.int IntKind.u64 (Ep.lo e0)), I (Ep.first e0), I (Ep.last e0), Bo (Ep.sure e0), V.sl (10 : Nat) (List.map Sp.row (Ep.spans e0))]) S)) = Int.ofNat (List.length l),
      Int.ofNat (List.length (List.map (fun e0 => [V.val (Value.int IntKind.u64 (Ep.hi e0)), V.val (Value.int IntKind.u64 (Ep.lo e0)), I (Ep.first e0), I (Ep.last e0), Bo (Ep.sure e0), V.sl (10 : Nat) (List.map Sp.row (Ep.spans e0))]) l)) = Int.ofNat (List.length l),
      (Int.ofNat (List.length l) == Int.ofNat (List.length l)) = false] (by kernel_rfl)
    (by
      have d0 := tq0
      try simp only [Int.ofNat_eq_natCast, List.length_map, Bool.not_eq_true', Bool.not_eq_false', decide_eq_true_eq, decide_eq_false_iff_not] at d0
      simp only [allP]
      and_intros <;> first
        | omega
        | exact cAlive
        | exact cFew15 l
        | exact hl
        | (have w := mk0 1 2 3 l (by have := hk.len; omega) (few_sm hk); rw [← hS] at w; exact w)
        | exact cBytes (⟨1, 2, 3, S⟩ : Bk) (by show S.length ≤ _; omega) hsp hw
        | exact cReadB hb hlen
        | exact cNumE _
        | (have w := cFind (⟨1, 2, 3, S⟩ : Bk) h o (by show S.length ≤ _; omega) hSm; rw [hq] at w; exact w)
        | exact cSameEps R hR hRo
        | (rw [List.length_map, hS, srt_len]; done)
        | (simp [hf]; done))

theorem fiY (l S R : List Ep) (h o : Int) (hf : few15 l 0 = true) (hk : FewB l) (hS : S = srt soLt l) (hS2 : S.length ≤ 120) (hSm : ∀ e ∈ S, smE e) (hR : R.length ≤ 1000000) (hRo : ∀ e ∈ R, okE e) (hq : S.filter (eqT h o) = R) (hr : rightM (⟨1, 2, 3, S⟩ : Bk) = true) (hb : okB (⟨1, 2, 3, S⟩ : Bk)) (hlen : (bytesB (⟨1, 2, 3, S⟩ : Bk)).length ≤ 100000) (hsp : ∀ e ∈ S, e.spans.length ≤ 100 ∧ ∀ s ∈ e.spans, s.attrs.length ≤ 1000000000) (hw : ∀ e ∈ S, wfE e) (hl : LoopC Try.prog 0 83 lfB (lfS l h o false [] 0) (.exit 0) (lfS l h o false R l.length)) : Contract Try.prog 6 [.sl 6 (l.map Ep.row), .agg [U h, U o]] [] (Bo true) [] := by
  rcases tf (Int.ofNat (List.length l) == Int.ofNat (List.length l)) with tq0 | tq0
  · exact Contract.cast (by
      first
        | rfl) (by
      first
        | rfl) (fiY_0 l S R h o hf hk hS hS2 hSm hR hRo hq hr hb hlen hsp hw hl tq0)
  · exact Contract.cast (by
      first
        | (simp_all []; done)) (by
      first
        | rfl) (fiY_1 l S R h o hf hk hS hS2 hSm hR hRo hq hr hb hlen hsp hw hl tq0)

theorem mrg_sum : ∀ A B : List Ep, ((mrg soLt A B).map fun e => e.spans.length).sum = (A.map fun e => e.spans.length).sum + (B.map fun e => e.spans.length).sum
  | [], B => by rw [mrg_nil_l]; simp
  | a :: A, [] => by rw [mrg_nil_r]; simp
  | a :: A, b :: B => by
    rw [mrg_cons]
    cases soLt b a with
    | true =>
      have := mrg_sum (a :: A) B
      simp only [cond_true, List.map_cons, List.sum_cons] at this ⊢
      omega
    | false =>
      have := mrg_sum A (b :: B)
      simp only [cond_false, List.map_cons, List.sum_cons] at this ⊢
      omega
theorem epoch_small : epochB [1, 2, 3] = true := by decide +kernel
theorem right_srt {l : List Ep} (h : ∀ e ∈ l, rightE e = true) : rightM ⟨1, 2, 3, srt soLt l⟩ = true := by
  rw [← rightB_eq]
  unfold rightB
  simp only [Bool.and_eq_true, allI_iff]
  refine ⟨fun i x hx => ?_, by decide⟩
  unfold badB
  simp only [Bool.or_eq_false_iff, Bool.not_eq_false']
  refine ⟨h x (srt_mem l x (List.mem_of_getElem? hx)), ?_⟩
  cases h0 : decide (0 < i) with
  | false => rfl
  | true =>
    simp only [decide_eq_true_eq] at h0
    have hi := (List.getElem?_eq_some_iff.1 hx).1
    have hy : (srt soLt l)[i - 1]? = some ((srt soLt l)[i - 1]'(by omega)) := List.getElem?_eq_getElem (by omega)
    simp only [hy, Bool.true_and]
    exact srt_step h0 hx hy
theorem cFinds (l : List Ep) (h o : Int) (hw : wfL l) : Contract Try.prog 6 [.sl 6 (l.map Ep.row), .agg [U h, U o]] [] (Bo true) [] := by
  cases hf : few15 l 0 with
  | false => exact fiN l h o hf
  | true =>
    have hk := few_fo hf
    obtain ⟨k1, k2⟩ := few_srt hk
    rcases lfAll l h o (by have := hk.len; omega) (fun e he => by have := (few_sp hk e he).1; omega) l.length 0 [] (by omega) (by simp) with ⟨R, i, hl⟩ | ⟨hr, hl⟩
    · exact fiW l R h o i hf hl
    · rw [List.drop_zero] at hr hl
      rw [List.nil_append] at hl
      have hR := right_srt hr
      have hsum : ((srt soLt l).map fun e => e.spans.length).sum ≤ 120 := by
        have key : ∀ l : List Ep, ((srt soLt l).map fun e => e.spans.length).sum = (l.map fun e => e.spans.length).sum := by
          intro l
          induction l using snoc_ind with
          | h0 => rfl
          | h1 l a ih => rw [srt_snoc, mrg_sum, ih, List.map_append, List.sum_append]
        rw [key]
        exact hk.sum
      have hF : FewB (Bk.eps ⟨1, 2, 3, srt soLt l⟩) := ⟨k1, k2, hsum⟩
      have hW : wfL (Bk.eps ⟨1, 2, 3, srt soLt l⟩) := fun e he => hw e (srt_mem l e he)
      obtain ⟨b1, b2, _⟩ := few_bytes hF hW hR
      have hle := List.length_filter_le (eqT h o) l
      have hl1 := hk.len
      exact fiY l _ (l.filter (eqT h o)) h o hf hk rfl k1 (few_sm hF) (by omega) (fun e he => few_ok hk e (List.mem_filter.1 he).1) (srt_filter (fun x y hx hy => eqT_no x y hx hy) l) hR b1 (by omega) (fun e he => by have := few_sp hF e he; exact ⟨by omega, fun s hs => by have := this.2 s hs; omega⟩) hW hl
end Go.Proofs.Ytdomjccibhgbjaa

