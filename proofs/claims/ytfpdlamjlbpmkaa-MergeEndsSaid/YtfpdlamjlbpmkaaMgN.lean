/- merge: the end, the loops. -/
import Derived.Test.YtfpdlamjlbpmkaaMgM
namespace Go.Proofs.Ytfpdlamjlbpmkaa
open E
set_option maxRecDepth 100000
set_option linter.unusedVariables false
set_option linter.unusedSimpArgs false


def mbS (n : Nat) (l : List Bk) (i : Nat) : SL := ⟨[(0, I (n : Int)), (4, .own 0), (5, I (i : Int))], [(0, .arr 4 (l.map Bk.row))], [0]⟩
def mmS (n : Nat) (l : List Bk) (steps i : Nat) : SL := ⟨[(0, I (n : Int)), (4, .own 0), (6, I (steps : Int)), (7, I (i : Int))], [(0, .arr 4 (l.map Bk.row))], [0]⟩
def bk0 (i : Nat) : Bk := ⟨(i : Int), (i : Int), 0, []⟩
noncomputable def mbB : Code := codeAt Try.prog 5 [true, true, true, true, false, true, false, false]

noncomputable def mmB : Code := codeAt Try.prog 5 [true, true, true, true, true, true, false, true, false, false]

theorem mb_0 (n : Nat) (l : List Bk) (i : Nat) (hn : n ≤ 20) (hi : i < n) (hl : l.length ≤ 100) : CodeC Try.prog 0 123 mbB (mbS n l i) (Ex.normal) ({ env := [((0 : Nat), I (Int.ofNat n)), ((4 : Nat), V.own (0 : Nat)), ((5 : Nat), I (Int.ofNat (i + (1 : Nat))))], st := [((0 : Nat), Obj.arr (4 : Nat) (List.map Bk.row (l ++ [{ num := Int.ofNat i, born := Int.ofNat i, tier := (0 : Int), eps := [] }])))], ids := [(0 : Nat)] }) :=
  runP hmix [.reg 6 [(2, [], some true)], .reg 8 [(5, [.beO ((l ++ [bk0 i]).map Bk.row)], none)], .reg 7 [(1, [.be (I ((i + 1 : Nat) : Int))], none)]] ⟨[0, 4, 5], [(1606000, 0)], []⟩ [
      decide (Int.ofNat i < Int.ofNat n) = true,
      (List.length (List.map Bk.row l) + (1 : Nat)) * (48 : Nat) ≤ (140737488355328 : Nat),
      List.map Bk.row l ++ [[I (Int.ofNat i), I (Int.ofNat i), I (0 : Int), V.sl (6 : Nat) []]] = List.map Bk.row (l ++ [{ num := Int.ofNat i, born := Int.ofNat i, tier := (0 : Int), eps := [] }]),
      IntKind.wrap IntKind.i64 (Int.ofNat (i + (1 : Nat))) = Int.ofNat (i + (1 : Nat))] (by kernel_rfl)
    (by
      simp only [allP]
      and_intros <;> first
        | (simp; omega)
        | exact i64_small (by simp; omega)
        | (rw [List.map_append]; rfl))

theorem mb (n : Nat) (l : List Bk) (i : Nat) (hn : n ≤ 20) (hi : i < n) (hl : l.length ≤ 100)  : CodeC Try.prog 0 123 mbB (mbS n l i) .normal (mbS n (l ++ [bk0 i]) (i + 1)) := by
  exact CodeC.cast (by
    first
      | rfl) (mb_0 n l i hn hi hl )

theorem mbE_0 (n : Nat) (l : List Bk) (i : Nat) (hi : n ≤ i) : CodeC Try.prog 0 123 mbB (mbS n l i) (Ex.exit (0 : Nat)) ({ env := [((0 : Nat), I (Int.ofNat n)), ((4 : Nat), V.own (0 : Nat)), ((5 : Nat), I (Int.ofNat i))], st := [((0 : Nat), Obj.arr (4 : Nat) (List.map Bk.row l))], ids := [(0 : Nat)] }) :=
  runP hmix [.reg 6 [(2, [], some false)]] ⟨[0, 4, 5], [(0, 0)], []⟩ [
      decide (Int.ofNat i < Int.ofNat n) = false] (by kernel_rfl)
    (by
      simp only [allP]
      and_intros <;> first
        | (simp; omega))

theorem mbE (n : Nat) (l : List Bk) (i : Nat) (hi : n ≤ i)  : CodeC Try.prog 0 123 mbB (mbS n l i) (.exit 0) (mbS n l i) := by
  exact CodeC.cast (by
    first
      | rfl) (mbE_0 n l i hi )

theorem map_cut {l : List Bk} {b : Nat} : List.take b (l.map Bk.row) ++ List.drop (b + 1) (l.map Bk.row) = (l.take b ++ l.drop (b + 1)).map Bk.row := by
  rw [List.map_append, List.map_take, List.map_drop]
theorem cut_at {l : List Bk} {a b : Nat} {x : Bk} (hx : l[a]? = some x) (hab : a < b) : (l.take b ++ l.drop (b + 1))[a]? = some x := by
  have h := (List.getElem?_eq_some_iff.1 hx).1
  rw [List.getElem?_append_left (by simp; omega), List.getElem?_take_of_lt hab]
  exact hx
theorem mm_0 (n : Nat) (l : List Bk) (x y : Bk) (steps i a b : Nat) (hi : i < 30) (hst : steps ≤ 100) (hl : l.length ≤ 100) (hp : pickM l = (true, a, b)) (hx : l[a]? = some x) (hy : l[b]? = some y) (ht : x.tier = y.tier) (hab : a < b) (hb : b < l.length) (ex : x.eps = []) (ey : y.eps = []) : CodeC Try.prog 0 123 mmB (mmS n l steps i) (Ex.normal) ({ env := [((0 : Nat), I (Int.ofNat n)), ((4 : Nat), V.own (0 : Nat)), ((6 : Nat), I (Int.ofNat (steps + (1 : Nat)))), ((7 : Nat), I (Int.ofNat (i + (1 : Nat))))], st := [((0 : Nat), Obj.arr (4 : Nat) (List.map Bk.row (List.set (List.take b l ++ List.drop (b + (1 : Nat)) l) a (joinM x y (Int.ofNat ((101 : Nat) + steps))))))], ids := [(0 : Nat)] }) :=
  runP hmix [.reg 11 [(1, [], some true)], .reg 13 [(1, [.call [] [] (.tup [I (a : Int), I (b : Int), Bo true]) []], none)], .reg 15 [(1, [], some false), (5, [], some false), (11, [], some false), (18, [.row (Bk.row x)], none), (23, [.row (Bk.row y)], none), (24, [], some false)], .reg 17 [(1, [.be (I ((steps + 1 : Nat) : Int))], none)], .reg 18 [(3, [.row (Bk.row x)], none), (7, [.row (Bk.row y)], none), (9, [.be (I ((101 + steps : Nat) : Int))], none), (10, [.call [] [] (Bk.v (joinM x y ((101 + steps : Nat) : Int))) []], none)], .reg 19 [(2, [.idx 0], none), (6, [.be (I ((b + 1 : Nat) : Int))], none), (7, [.idx 0], none), (8, [.beO ((l.take b ++ l.drop (b + 1)).map Bk.row)], none)], .reg 20 [(4, [.row (Bk.row x), .beO (((l.take b ++ l.drop (b + 1)).set a (joinM x y ((101 + steps : Nat) : Int))).map Bk.row)], none)], .reg 12 [(1, [.be (I ((i + 1 : Nat) : Int))], none)]] ⟨[0, 4, 6, 7], [(3809000, 0)], []⟩ [
      decide (Int.ofNat i < (30 : Int)) = true,
      Contract Try.prog (9 : Nat) [V.sl (4 : Nat) (List.map Bk.row l)] [] (V.tup [I (Int.ofNat a), I (Int.ofNat b), Bo true]) [],
      true = true,
      false = false,
      decide (Int.ofNat b ≤ Int.ofNat a) = false,
      decide (Int.ofNat b ≥ Int.ofNat (List.length (List.map Bk.row l))) = false,
      (0 : Int) ≤ Int.ofNat a,
      Int.ofNat a < Int.ofNat (List.length (List.map Bk.row l)),
      (List.map Bk.row l)[a]? = some (Bk.row x),
      (0 : Int) ≤ Int.ofNat b,
      Int.ofNat b < Int.ofNat (List.length (List.map Bk.row l)),
      (List.map Bk.row l)[b]? = some (Bk.row y),
      (Bk.tier x != Bk.tier y) = false,
      IntKind.wrap IntKind.i64 (Int.ofNat (steps + (1 : Nat))) = Int.ofNat (steps + (1 : Nat)),
      (0 : Int) ≤ Int.ofNat a,
      Int.ofNat a < Int.ofNat (List.length (List.map Bk.row l)),
      (List.map Bk.row l)[a]? = some (Bk.row x),
      (0 : Int) ≤ Int.ofNat b,
      Int.ofNat b < Int.ofNat (List.length (List.map Bk.row l)),
      (List.map Bk.row l)[b]? = some (Bk.row y),
      IntKind.wrap IntKind.i64 (Int.ofNat ((100 : Nat) + (steps + (1 : Nat)))) = Int.ofNat ((101 : Nat) + steps),
      Contract Try.prog (12 : Nat) [V.agg [I (Bk.num x), I (Bk.born x), I (Bk.tier x), V.sl (6 : Nat) (List.map Ep.row (Bk.eps x))], V.agg [I (Bk.num y), I (Bk.born y), I (Bk.tier y), V.sl (6 : Nat) (List.map Ep.row (Bk.eps y))], I (Int.ofNat ((101 : Nat) + steps))] [] (V.agg (Bk.row (joinM x y (Int.ofNat ((101 : Nat) + steps))))) [],
      (0 : Int) ≤ (0 : Int),
      (0 : Int) ≤ Int.ofNat b,
      b ≤ List.length (List.map Bk.row l),
      b ≤ List.length (List.map Bk.row l),
      List.length (List.take b (List.map Bk.row l)) * (48 : Nat) ≤ (140737488355328 : Nat),
      IntKind.wrap IntKind.i64 (Int.ofNat (b + (1 : Nat))) = Int.ofNat (b + (1 : Nat)),
      (0 : Int) ≤ Int.ofNat (b + (1 : Nat)),
      Int.ofNat (b + (1 : Nat)) ≤ Int.ofNat (List.length (List.map Bk.row l)),
      List.length (List.map Bk.row l) ≤ List.length (List.map Bk.row l),
      List.length (List.map Bk.row l) ≤ List.length (List.map Bk.row l),
      (List.length (List.take b (List.map Bk.row l)) + List.length (List.take (List.length (List.map Bk.row l) - Int.toNat (Int.ofNat (b + (1 : Nat)))) (List.drop (Int.toNat (Int.ofNat (b + (1 : Nat)))) (List.map Bk.row l)))) * (48 : Nat) ≤ (140737488355328 : Nat),
      List.take b (List.map Bk.row l) ++ List.take (List.length (List.map Bk.row l) - Int.toNat (Int.ofNat (b + (1 : Nat)))) (List.drop (Int.toNat (Int.ofNat (b + (1 : Nat)))) (List.map Bk.row l)) = List.map Bk.row (List.take b l ++ List.drop (b + (1 : Nat)) l),
      (0 : Int) ≤ Int.ofNat a,
      Int.ofNat a < Int.ofNat (List.length (List.map Bk.row (List.take b l ++ List.drop (b + (1 : Nat)) l))),
      (List.map Bk.row (List.take b l ++ List.drop (b + (1 : Nat)) l))[a]? = some (Bk.row x),
      List.set (List.map Bk.row (List.take b l ++ List.drop (b + (1 : Nat)) l)) a [I (Int.ofNat ((101 : Nat) + steps)), I (maxI (Bk.born x) (Bk.born y)), I (IntKind.wrap IntKind.i64 (maxI (Bk.tier x) (Bk.tier y) + (1 : Int))), V.sl (6 : Nat) (List.map Ep.row (srt soLt (Bk.eps x ++ Bk.eps y)))] = List.map Bk.row (List.set (List.take b l ++ List.drop (b + (1 : Nat)) l) a (joinM x y (Int.ofNat ((101 : Nat) + steps)))),
      IntKind.wrap IntKind.i64 (Int.ofNat (i + (1 : Nat))) = Int.ofNat (i + (1 : Nat))] (by kernel_rfl)
    (by
      simp only [allP]
      and_intros <;> first
        | omega
        | (simp; omega)
        | (simp; done)
        | (simp [hx]; done)
        | (simp [hy]; done)
        | exact i64_small (by simp; omega)
        | (rw [i64_small (by simp; omega)]; simp; omega)
        | (have q := cPick l (by omega); rw [hp] at q; exact q)
        | exact cJoin x y _ (by simp [ex]) (by simp [ey]) (by simp [ex, ey])
        | (refine Eq.trans ?_ map_cut; refine congrArg _ ?_; exact List.take_of_length_le (by simp))
        | (rw [List.getElem?_map, cut_at hx hab]; rfl)
        | (rw [List.map_set]; rfl))

theorem mm (n : Nat) (l : List Bk) (x y : Bk) (steps i a b : Nat) (hi : i < 30) (hst : steps ≤ 100) (hl : l.length ≤ 100) (hp : pickM l = (true, a, b)) (hx : l[a]? = some x) (hy : l[b]? = some y) (ht : x.tier = y.tier) (hab : a < b) (hb : b < l.length) (ex : x.eps = []) (ey : y.eps = [])  : CodeC Try.prog 0 123 mmB (mmS n l steps i) .normal (mmS n ((l.take b ++ l.drop (b + 1)).set a (joinM x y ((101 + steps : Nat) : Int))) (steps + 1) (i + 1)) := by
  exact CodeC.cast (by
    first
      | rfl) (mm_0 n l x y steps i a b hi hst hl hp hx hy ht hab hb ex ey )

theorem mmStop_0 (n : Nat) (l : List Bk) (steps i a b : Nat) (hi : i < 30) (hl : l.length ≤ 100) (hp : pickM l = (false, a, b)) : CodeC Try.prog 0 123 mmB (mmS n l steps i) (Ex.exit (2 : Nat)) ({ env := [((0 : Nat), I (Int.ofNat n)), ((4 : Nat), V.own (0 : Nat)), ((6 : Nat), I (Int.ofNat steps)), ((7 : Nat), I (Int.ofNat i))], st := [((0 : Nat), Obj.arr (4 : Nat) (List.map Bk.row l))], ids := [(0 : Nat)] }) :=
  runP hmix [.reg 11 [(1, [], some true)], .reg 13 [(1, [.call [] [] (.tup [I (a : Int), I (b : Int), Bo false]) []], none)]] ⟨[0, 4, 6, 7], [(0, 0)], []⟩ [
      decide (Int.ofNat i < (30 : Int)) = true,
      Contract Try.prog (9 : Nat) [V.sl (4 : Nat) (List.map Bk.row l)] [] (V.tup [I (Int.ofNat a), I (Int.ofNat b), Bo false]) [],
      true = true] (by kernel_rfl)
    (by
      simp only [allP]
      and_intros <;> first
        | (simp; omega)
        | (have q := cPick l (by omega); rw [hp] at q; exact q)
        | (simp; done))

theorem mmStop (n : Nat) (l : List Bk) (steps i a b : Nat) (hi : i < 30) (hl : l.length ≤ 100) (hp : pickM l = (false, a, b))  : CodeC Try.prog 0 123 mmB (mmS n l steps i) (.exit 2) (mmS n l steps i) := by
  exact CodeC.cast (by
    first
      | rfl) (mmStop_0 n l steps i a b hi hl hp )

end Go.Proofs.Ytfpdlamjlbpmkaa
