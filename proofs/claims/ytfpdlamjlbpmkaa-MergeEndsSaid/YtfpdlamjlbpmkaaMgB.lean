/- merge: which two blocks, the walk. -/
import Derived.Test.YtfpdlamjlbpmkaaMgA
namespace Go.Proofs.Ytfpdlamjlbpmkaa
open E
set_option maxRecDepth 100000
set_option linter.unusedVariables false
set_option linter.unusedSimpArgs false

theorem idxI_lt {α : Type} {p : α → Bool} {l : List α} {j : Nat} (h : idxI p l = (j : Int)) : j < l.length := by
  unfold idxI at h
  split at h
  · rename_i k hk
    have : k = j := by omega
    subst this
    exact (List.findIdx?_eq_some_iff_getElem.1 hk).1
  · omega
theorem pkNo_0 (l : List Bk) (x y : Bk) (f : Bool) (a b i j : Nat) (hx : l[i]? = some x) (hs : l.length ≤ 1000000) (hk : idxI (pT x) (l.drop (i + 1)) = -1) : CodeC Try.prog 0 49 pkB (pkS l f a b i) (Ex.normal) ({ env := [((0 : Nat), V.sl (4 : Nat) (List.map Bk.row l)), ((5 : Nat), Bo f), ((6 : Nat), I (Int.ofNat a)), ((7 : Nat), I (Int.ofNat b)), ((11 : Nat), V.sl (4 : Nat) (List.map Bk.row l)), ((12 : Nat), I (Int.ofNat (List.length l))), ((13 : Nat), I (Int.ofNat (i + (1 : Nat))))], st := [], ids := [] }) :=
  runP hmix [.reg 3 [(0, [], some true)], .reg 4 [(2, [.row (Bk.row x)], none)], .reg 5 [(2, [.be (I ((i + 1 : Nat) : Int))], none), (5, [.call [804000] [] (I (-1)) [some (.box x.row)]], none)], .reg 6 [(1, [], some false)], .reg 8 [(0, [.be (I ((i + 1 : Nat) : Int))], none)]] ⟨[0, 5, 6, 7, 11, 12, 13], [], []⟩ [
      decide (Int.ofNat i < Int.ofNat (List.length l)) = true,
      (0 : Int) ≤ Int.ofNat i,
      Int.ofNat i < Int.ofNat (List.length (List.map Bk.row l)),
      (List.map Bk.row l)[i]? = some (Bk.row x),
      IntKind.wrap IntKind.i64 (Int.ofNat (i + (1 : Nat))) = Int.ofNat (i + (1 : Nat)),
      (0 : Int) ≤ Int.ofNat (i + (1 : Nat)),
      Int.ofNat (i + (1 : Nat)) ≤ Int.ofNat (List.length (List.map Bk.row l)),
      Int.ofNat (List.length (List.map Bk.row l)) ≤ Int.ofNat (List.length (List.map Bk.row l)),
      Contract Try.prog (18 : Nat) [V.sl (4 : Nat) (List.drop (Int.toNat (Int.ofNat (i + (1 : Nat)))) (List.take (List.length (List.map Bk.row l)) (List.map Bk.row l))), V.clo (Fn.func (19 : Nat)) [] [V.ptr (0 : Nat) (0 : Nat) (0 : Nat) (0 : Nat)]] [Obj.box [I (Bk.num x), I (Bk.born x), I (Bk.tier x), V.sl (6 : Nat) (List.map Ep.row (Bk.eps x))]] (I (-1 : Int)) [some (Obj.box (Bk.row x))],
      false = false,
      IntKind.wrap IntKind.i64 (Int.ofNat (i + (1 : Nat))) = Int.ofNat (i + (1 : Nat))] (by kernel_rfl)
    (by
      simp only [allP]
      and_intros <;> first
        | omega
        | (have q := (List.getElem?_eq_some_iff.1 hx).1; simp; omega)
        | (simp [hx]; done)
        | (have q := (List.getElem?_eq_some_iff.1 hx).1; exact i64_small (by simp; omega))
        | (have q := ixB (l.drop (i + 1)) x (by simp; omega); rw [hk, List.map_drop] at q; rw [List.take_length]; exact q))

theorem pkNo (l : List Bk) (x y : Bk) (f : Bool) (a b i j : Nat) (hx : l[i]? = some x) (hs : l.length ≤ 1000000) (hk : idxI (pT x) (l.drop (i + 1)) = -1)  : CodeC Try.prog 0 49 pkB (pkS l f a b i) .normal (pkS l f a b (i + 1)) := by
  exact CodeC.cast (by
    first
      | rfl) (pkNo_0 l x y f a b i j hx hs hk )

theorem pkFst_0 (l : List Bk) (x y : Bk) (f : Bool) (a b i j : Nat) (hx : l[i]? = some x) (hf : f = false) (hs : l.length ≤ 1000000) (hk : idxI (pT x) (l.drop (i + 1)) = (j : Int)) : CodeC Try.prog 0 49 pkB (pkS l f a b i) (Ex.normal) ({ env := [((0 : Nat), V.sl (4 : Nat) (List.map Bk.row l)), ((5 : Nat), Bo true), ((6 : Nat), I (Int.ofNat i)), ((7 : Nat), I (Int.ofNat (i + (1 : Nat) + j))), ((11 : Nat), V.sl (4 : Nat) (List.map Bk.row l)), ((12 : Nat), I (Int.ofNat (List.length l))), ((13 : Nat), I (Int.ofNat (i + (1 : Nat))))], st := [], ids := [] }) :=
  runP hmix [.reg 3 [(0, [], some true)], .reg 4 [(2, [.row (Bk.row x)], none)], .reg 5 [(2, [.be (I ((i + 1 : Nat) : Int))], none), (5, [.call [804000] [] (I (j : Int)) [some (.box x.row)]], none)], .reg 6 [(1, [], some true), (4, [], some true)], .reg 7 [(2, [.be (I ((i + 1 : Nat) : Int))], none), (4, [.be (I ((i + 1 + j : Nat) : Int))], none)], .reg 8 [(0, [.be (I ((i + 1 : Nat) : Int))], none)]] ⟨[0, 5, 6, 7, 11, 12, 13], [], []⟩ [
      decide (Int.ofNat i < Int.ofNat (List.length l)) = true,
      (0 : Int) ≤ Int.ofNat i,
      Int.ofNat i < Int.ofNat (List.length (List.map Bk.row l)),
      (List.map Bk.row l)[i]? = some (Bk.row x),
      IntKind.wrap IntKind.i64 (Int.ofNat (i + (1 : Nat))) = Int.ofNat (i + (1 : Nat)),
      (0 : Int) ≤ Int.ofNat (i + (1 : Nat)),
      Int.ofNat (i + (1 : Nat)) ≤ Int.ofNat (List.length (List.map Bk.row l)),
      Int.ofNat (List.length (List.map Bk.row l)) ≤ Int.ofNat (List.length (List.map Bk.row l)),
      Contract Try.prog (18 : Nat) [V.sl (4 : Nat) (List.drop (Int.toNat (Int.ofNat (i + (1 : Nat)))) (List.take (List.length (List.map Bk.row l)) (List.map Bk.row l))), V.clo (Fn.func (19 : Nat)) [] [V.ptr (0 : Nat) (0 : Nat) (0 : Nat) (0 : Nat)]] [Obj.box [I (Bk.num x), I (Bk.born x), I (Bk.tier x), V.sl (6 : Nat) (List.map Ep.row (Bk.eps x))]] (I (Int.ofNat j)) [some (Obj.box (Bk.row x))],
      true = true,
      (!f) = true,
      IntKind.wrap IntKind.i64 (Int.ofNat (i + (1 : Nat))) = Int.ofNat (i + (1 : Nat)),
      IntKind.wrap IntKind.i64 (Int.ofNat (i + (1 : Nat) + j)) = Int.ofNat (i + (1 : Nat) + j),
      IntKind.wrap IntKind.i64 (Int.ofNat (i + (1 : Nat))) = Int.ofNat (i + (1 : Nat))] (by kernel_rfl)
    (by
      simp only [allP]
      and_intros <;> first
        | omega
        | (have q := (List.getElem?_eq_some_iff.1 hx).1; simp; omega)
        | (simp [hx]; done)
        | (have q := (List.getElem?_eq_some_iff.1 hx).1; exact i64_small (by simp; omega))
        | (have q := ixB (l.drop (i + 1)) x (by simp; omega); rw [hk, List.map_drop] at q; rw [List.take_length]; exact q)
        | (have q := (List.getElem?_eq_some_iff.1 hx).1; have q2 := idxI_lt hk; simp at q2; exact i64_small (by simp; omega)))

theorem pkFst (l : List Bk) (x y : Bk) (f : Bool) (a b i j : Nat) (hx : l[i]? = some x) (hf : f = false) (hs : l.length ≤ 1000000) (hk : idxI (pT x) (l.drop (i + 1)) = (j : Int))  : CodeC Try.prog 0 49 pkB (pkS l f a b i) .normal (pkS l true i (i + 1 + j) (i + 1)) := by
  exact CodeC.cast (by
    first
      | rfl) (pkFst_0 l x y f a b i j hx hf hs hk )

theorem pkLess_0 (l : List Bk) (x y : Bk) (f : Bool) (a b i j : Nat) (hx : l[i]? = some x) (hf : f = true) (hy : l[a]? = some y) (hb : x.tier < y.tier) (hs : l.length ≤ 1000000) (hk : idxI (pT x) (l.drop (i + 1)) = (j : Int)) : CodeC Try.prog 0 49 pkB (pkS l f a b i) (Ex.normal) ({ env := [((0 : Nat), V.sl (4 : Nat) (List.map Bk.row l)), ((5 : Nat), Bo true), ((6 : Nat), I (Int.ofNat i)), ((7 : Nat), I (Int.ofNat (i + (1 : Nat) + j))), ((11 : Nat), V.sl (4 : Nat) (List.map Bk.row l)), ((12 : Nat), I (Int.ofNat (List.length l))), ((13 : Nat), I (Int.ofNat (i + (1 : Nat))))], st := [], ids := [] }) :=
  runP hmix [.reg 3 [(0, [], some true)], .reg 4 [(2, [.row (Bk.row x)], none)], .reg 5 [(2, [.be (I ((i + 1 : Nat) : Int))], none), (5, [.call [804000] [] (I (j : Int)) [some (.box x.row)]], none)], .reg 6 [(1, [], some true), (4, [], some false), (12, [.row (Bk.row y)], none), (13, [], some true)], .reg 7 [(2, [.be (I ((i + 1 : Nat) : Int))], none), (4, [.be (I ((i + 1 + j : Nat) : Int))], none)], .reg 8 [(0, [.be (I ((i + 1 : Nat) : Int))], none)]] ⟨[0, 5, 6, 7, 11, 12, 13], [], []⟩ [
      decide (Int.ofNat i < Int.ofNat (List.length l)) = true,
      (0 : Int) ≤ Int.ofNat i,
      Int.ofNat i < Int.ofNat (List.length (List.map Bk.row l)),
      (List.map Bk.row l)[i]? = some (Bk.row x),
      IntKind.wrap IntKind.i64 (Int.ofNat (i + (1 : Nat))) = Int.ofNat (i + (1 : Nat)),
      (0 : Int) ≤ Int.ofNat (i + (1 : Nat)),
      Int.ofNat (i + (1 : Nat)) ≤ Int.ofNat (List.length (List.map Bk.row l)),
      Int.ofNat (List.length (List.map Bk.row l)) ≤ Int.ofNat (List.length (List.map Bk.row l)),
      Contract Try.prog (18 : Nat) [V.sl (4 : Nat) (List.drop (Int.toNat (Int.ofNat (i + (1 : Nat)))) (List.take (List.length (List.map Bk.row l)) (List.map Bk.row l))), V.clo (Fn.func (19 : Nat)) [] [V.ptr (0 : Nat) (0 : Nat) (0 : Nat) (0 : Nat)]] [Obj.box [I (Bk.num x), I (Bk.born x), I (Bk.tier x), V.sl (6 : Nat) (List.map Ep.row (Bk.eps x))]] (I (Int.ofNat j)) [some (Obj.box (Bk.row x))],
      true = true,
      (!f) = false,
      (0 : Int) ≤ Int.ofNat a,
      Int.ofNat a < Int.ofNat (List.length (List.map Bk.row l)),
      (List.map Bk.row l)[a]? = some (Bk.row y),
      decide (Bk.tier x < Bk.tier y) = true,
      IntKind.wrap IntKind.i64 (Int.ofNat (i + (1 : Nat))) = Int.ofNat (i + (1 : Nat)),
      IntKind.wrap IntKind.i64 (Int.ofNat (i + (1 : Nat) + j)) = Int.ofNat (i + (1 : Nat) + j),
      IntKind.wrap IntKind.i64 (Int.ofNat (i + (1 : Nat))) = Int.ofNat (i + (1 : Nat))] (by kernel_rfl)
    (by
      simp only [allP]
      and_intros <;> first
        | omega
        | (have q := (List.getElem?_eq_some_iff.1 hx).1; simp; omega)
        | (simp [hx]; done)
        | (have q := (List.getElem?_eq_some_iff.1 hx).1; exact i64_small (by simp; omega))
        | (have q := ixB (l.drop (i + 1)) x (by simp; omega); rw [hk, List.map_drop] at q; rw [List.take_length]; exact q)
        | (simp [hy]; done)
        | (have q := (List.getElem?_eq_some_iff.1 hy).1; simp; omega)
        | (have q := (List.getElem?_eq_some_iff.1 hx).1; have q2 := idxI_lt hk; simp at q2; exact i64_small (by simp; omega)))

theorem pkLess (l : List Bk) (x y : Bk) (f : Bool) (a b i j : Nat) (hx : l[i]? = some x) (hf : f = true) (hy : l[a]? = some y) (hb : x.tier < y.tier) (hs : l.length ≤ 1000000) (hk : idxI (pT x) (l.drop (i + 1)) = (j : Int))  : CodeC Try.prog 0 49 pkB (pkS l f a b i) .normal (pkS l true i (i + 1 + j) (i + 1)) := by
  exact CodeC.cast (by
    first
      | rfl) (pkLess_0 l x y f a b i j hx hf hy hb hs hk )

theorem pkGe_0 (l : List Bk) (x y : Bk) (f : Bool) (a b i j : Nat) (hx : l[i]? = some x) (hf : f = true) (hy : l[a]? = some y) (hb : y.tier ≤ x.tier) (hs : l.length ≤ 1000000) (hk : idxI (pT x) (l.drop (i + 1)) = (j : Int)) : CodeC Try.prog 0 49 pkB (pkS l f a b i) (Ex.normal) ({ env := [((0 : Nat), V.sl (4 : Nat) (List.map Bk.row l)), ((5 : Nat), Bo f), ((6 : Nat), I (Int.ofNat a)), ((7 : Nat), I (Int.ofNat b)), ((11 : Nat), V.sl (4 : Nat) (List.map Bk.row l)), ((12 : Nat), I (Int.ofNat (List.length l))), ((13 : Nat), I (Int.ofNat (i + (1 : Nat))))], st := [], ids := [] }) :=
  runP hmix [.reg 3 [(0, [], some true)], .reg 4 [(2, [.row (Bk.row x)], none)], .reg 5 [(2, [.be (I ((i + 1 : Nat) : Int))], none), (5, [.call [804000] [] (I (j : Int)) [some (.box x.row)]], none)], .reg 6 [(1, [], some true), (4, [], some false), (12, [.row (Bk.row y)], none), (13, [], some false)], .reg 8 [(0, [.be (I ((i + 1 : Nat) : Int))], none)]] ⟨[0, 5, 6, 7, 11, 12, 13], [], []⟩ [
      decide (Int.ofNat i < Int.ofNat (List.length l)) = true,
      (0 : Int) ≤ Int.ofNat i,
      Int.ofNat i < Int.ofNat (List.length (List.map Bk.row l)),
      (List.map Bk.row l)[i]? = some (Bk.row x),
      IntKind.wrap IntKind.i64 (Int.ofNat (i + (1 : Nat))) = Int.ofNat (i + (1 : Nat)),
      (0 : Int) ≤ Int.ofNat (i + (1 : Nat)),
      Int.ofNat (i + (1 : Nat)) ≤ Int.ofNat (List.length (List.map Bk.row l)),
      Int.ofNat (List.length (List.map Bk.row l)) ≤ Int.ofNat (List.length (List.map Bk.row l)),
      Contract Try.prog (18 : Nat) [V.sl (4 : Nat) (List.drop (Int.toNat (Int.ofNat (i + (1 : Nat)))) (List.take (List.length (List.map Bk.row l)) (List.map Bk.row l))), V.clo (Fn.func (19 : Nat)) [] [V.ptr (0 : Nat) (0 : Nat) (0 : Nat) (0 : Nat)]] [Obj.box [I (Bk.num x), I (Bk.born x), I (Bk.tier x), V.sl (6 : Nat) (List.map Ep.row (Bk.eps x))]] (I (Int.ofNat j)) [some (Obj.box (Bk.row x))],
      true = true,
      (!f) = false,
      (0 : Int) ≤ Int.ofNat a,
      Int.ofNat a < Int.ofNat (List.length (List.map Bk.row l)),
      (List.map Bk.row l)[a]? = some (Bk.row y),
      decide (Bk.tier x < Bk.tier y) = false,
      IntKind.wrap IntKind.i64 (Int.ofNat (i + (1 : Nat))) = Int.ofNat (i + (1 : Nat))] (by kernel_rfl)
    (by
      simp only [allP]
      and_intros <;> first
        | omega
        | (have q := (List.getElem?_eq_some_iff.1 hx).1; simp; omega)
        | (simp [hx]; done)
        | (have q := (List.getElem?_eq_some_iff.1 hx).1; exact i64_small (by simp; omega))
        | (have q := ixB (l.drop (i + 1)) x (by simp; omega); rw [hk, List.map_drop] at q; rw [List.take_length]; exact q)
        | (simp [hy]; done)
        | (have q := (List.getElem?_eq_some_iff.1 hy).1; simp; omega))

theorem pkGe (l : List Bk) (x y : Bk) (f : Bool) (a b i j : Nat) (hx : l[i]? = some x) (hf : f = true) (hy : l[a]? = some y) (hb : y.tier ≤ x.tier) (hs : l.length ≤ 1000000) (hk : idxI (pT x) (l.drop (i + 1)) = (j : Int))  : CodeC Try.prog 0 49 pkB (pkS l f a b i) .normal (pkS l f a b (i + 1)) := by
  exact CodeC.cast (by
    first
      | rfl) (pkGe_0 l x y f a b i j hx hf hy hb hs hk )

theorem pkEnd_0 (l : List Bk) (f : Bool) (a b i : Nat) (h : l.length ≤ i) : CodeC Try.prog 0 49 pkB (pkS l f a b i) (Ex.exit (0 : Nat)) ({ env := [((0 : Nat), V.sl (4 : Nat) (List.map Bk.row l)), ((5 : Nat), Bo f), ((6 : Nat), I (Int.ofNat a)), ((7 : Nat), I (Int.ofNat b)), ((11 : Nat), V.sl (4 : Nat) (List.map Bk.row l)), ((12 : Nat), I (Int.ofNat (List.length l))), ((13 : Nat), I (Int.ofNat i))], st := [], ids := [] }) :=
  runP hmix [.reg 3 [(0, [], some false)]] ⟨[0, 5, 6, 7, 11, 12, 13], [], []⟩ [
      decide (Int.ofNat i < Int.ofNat (List.length l)) = false] (by kernel_rfl)
    (by
      simp only [allP]
      and_intros <;> first
        | (simp; omega))

theorem pkEnd (l : List Bk) (f : Bool) (a b i : Nat) (h : l.length ≤ i)  : CodeC Try.prog 0 49 pkB (pkS l f a b i) (.exit 0) (pkS l f a b i) := by
  exact CodeC.cast (by
    first
      | rfl) (pkEnd_0 l f a b i h )

theorem pkF_0 (l : List Bk) (f : Bool) (a b i : Nat) (hl : LoopC Try.prog 0 49 pkB (pkS l false 0 0 0) (.exit 0) (pkS l f a b i)) : Contract Try.prog 9 [.sl 4 (l.map Bk.row)] [] (V.tup [I (Int.ofNat a), I (Int.ofNat b), Bo f]) ([]) :=
  vcP hmix [.reg 2 [(1, [.be (I (l.length : Int))], none)], .cut ⟨[0, 5, 6, 7, 11, 12, 13], [], []⟩ (.exit 0) (pkS l f a b i)] [] [
      Int.ofNat (List.length (List.map Bk.row l)) = Int.ofNat (List.length l),
      LoopC Try.prog (0 : Nat) (49 : Nat) pkB { env := [((0 : Nat), V.sl (4 : Nat) (List.map Bk.row l)), ((5 : Nat), Bo false), ((6 : Nat), I (0 : Int)), ((7 : Nat), I (0 : Int)), ((11 : Nat), V.sl (4 : Nat) (List.map Bk.row l)), ((12 : Nat), I (Int.ofNat (List.length l))), ((13 : Nat), I (0 : Int))], st := [], ids := [] } (Ex.exit (0 : Nat)) { env := [((0 : Nat), V.sl (4 : Nat) (List.map Bk.row l)), ((5 : Nat), Bo f), ((6 : Nat), I (Int.ofNat a)), ((7 : Nat), I (Int.ofNat b)), ((11 : Nat), V.sl (4 : Nat) (List.map Bk.row l)), ((12 : Nat), I (Int.ofNat (List.length l))), ((13 : Nat), I (Int.ofNat i))], st := [], ids := [] }] (by kernel_rfl)
    (by
      simp only [allP]
      and_intros <;> first
        | exact hl
        | (simp; done))

theorem pkF (l : List Bk) (f : Bool) (a b i : Nat) (hl : LoopC Try.prog 0 49 pkB (pkS l false 0 0 0) (.exit 0) (pkS l f a b i)) : Contract Try.prog 9 [.sl 4 (l.map Bk.row)] [] (.tup [I (a : Int), I (b : Int), Bo f]) [] := by
  exact Contract.cast (by
    first
      | rfl) (by
    first
      | rfl) (pkF_0 l f a b i hl )

end Go.Proofs.Ytfpdlamjlbpmkaa
