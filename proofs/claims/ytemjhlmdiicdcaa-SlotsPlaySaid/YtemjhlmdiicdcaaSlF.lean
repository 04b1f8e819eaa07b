/- slots: the reference puts exemplars. -/
import Derived.Test.YtemjhlmdiicdcaaSlE
namespace Go.Proofs.Ytemjhlmdiicdcaa
open E
set_option maxRecDepth 100000
set_option linter.unusedVariables false
set_option linter.unusedSimpArgs false


/-- What is left of those behind, if no more than two may be there with one already. -/
def keep2 (e : Em) : List Em → Nat → List Em
  | [], _ => []
  | x :: xs, n => bif sameK e.svc e.op x then (if 2 < n + 1 then keep2 e xs (n + 1) else x :: keep2 e xs (n + 1)) else x :: keep2 e xs n
def aheadN (l : List Em) (e : Em) : Nat := (l.takeWhile (fun y => aheadE y e)).length
def putR (l : List Em) (e : Em) : List Em := l.take (aheadN l e) ++ [e] ++ keep2 e (l.drop (aheadN l e)) 1
def raS (l es : List Em) (i k : Nat) : SL := ⟨[(0, .sl 6 (l.map Em.row)), (1, .sl 6 (es.map Em.row)), (5, I (i : Int)), (6, I (k : Int))], [], []⟩
def rbS (l es out : List Em) (i n j : Nat) : SL := ⟨[(0, .sl 6 (l.map Em.row)), (1, .sl 6 (es.map Em.row)), (5, I (i : Int)), (7, .own 901), (8, I (n : Int)), (9, I (j : Int))], [(901, .arr 6 (out.map Em.row))], [901]⟩
def roS (es l : List Em) (i : Nat) : SL := ⟨[(0, .sl 6 (l.map Em.row)), (1, .sl 6 (es.map Em.row)), (5, I (i : Int))], [], []⟩
def ssS (l : List Em) (i : Nat) : SL := ⟨[(0, .sl 6 (l.map Em.row)), (1, .sl 6 (l.map Em.row)), (5, I (i : Int))], [], []⟩
noncomputable def raB : Code := codeAt Try.prog 9 [true, true, false, true, false, false, true, false, false, true, false, false, false]

noncomputable def rbB : Code := codeAt Try.prog 9 [true, true, false, true, false, false, true, false, false, true, true, true, true, false, true, false, false]

noncomputable def roB : Code := codeAt Try.prog 9 [true, true, false, true, false, false]

noncomputable def ssB : Code := codeAt Try.prog 14 [true, true, false, true, false, false]

theorem raGo (l es : List Em) (x e : Em) (i k : Nat) (h : k < l.length) (hx : l[k]? = some x) (hi : i < es.length) (he : es[i]? = some e) (hs : l.length ≤ 1000000000) (hp : aheadE x e = true) : CodeC Try.prog 0 89 raB (raS l es i k) .normal (raS l es i (k + 1)) :=
  runP hmix [.reg 6 [(3, [], some true), (8, [.row (Em.row x)], none), (12, [.row (Em.row e)], none), (13, [.call [] [] (Bo (aheadE x e)) []], some true)], .reg 7 [(1, [.be (I ((k + 1 : Nat) : Int))], none)]] ⟨[0, 1, 5, 6], [], []⟩ [
      decide (Int.ofNat k < Int.ofNat (List.length (List.map Em.row l))) = true,
      (0 : Int) ≤ Int.ofNat k,
      Int.ofNat k < Int.ofNat (List.length (List.map Em.row l)),
      (List.map Em.row l)[k]? = some (Em.row x),
      (0 : Int) ≤ Int.ofNat i,
      Int.ofNat i < Int.ofNat (List.length (List.map Em.row es)),
      (List.map Em.row es)[i]? = some (Em.row e),
      Contract Try.prog (18 : Nat) [V.agg [Sg (Em.svc x), Sg (Em.op x), V.val (Value.int IntKind.u64 (Em.hi x)), V.val (Value.int IntKind.u64 (Em.lo x)), V.val (Value.int IntKind.u64 (Em.id x)), I (Em.block x)], V.agg [Sg (Em.svc e), Sg (Em.op e), V.val (Value.int IntKind.u64 (Em.hi e)), V.val (Value.int IntKind.u64 (Em.lo e)), V.val (Value.int IntKind.u64 (Em.id e)), I (Em.block e)]] [] (Bo (aheadE x e)) [],
      aheadE x e = true,
      IntKind.wrap IntKind.i64 (Int.ofNat (k + (1 : Nat))) = Int.ofNat (k + (1 : Nat))] (by kernel_rfl)
    (by
      simp only [allP]
      and_intros <;> first
        | omega
        | with_reducible assumption
        | exact cAhead x e
        | (simp; omega)
        | (simp [hx]; done)
        | (simp [he]; done)
        | exact i64_small (by simp; omega)
        | (simp; done)
        | decide)

theorem raStop (l es : List Em) (x e : Em) (i k : Nat) (h : k < l.length) (hx : l[k]? = some x) (hi : i < es.length) (he : es[i]? = some e) (hs : l.length ≤ 1000000000) (hp : aheadE x e = false) : CodeC Try.prog 0 89 raB (raS l es i k) (.exit 2) (raS l es i k) :=
  runP hmix [.reg 6 [(3, [], some true), (8, [.row (Em.row x)], none), (12, [.row (Em.row e)], none), (13, [.call [] [] (Bo (aheadE x e)) []], some false)]] ⟨[0, 1, 5, 6], [], []⟩ [
      decide (Int.ofNat k < Int.ofNat (List.length (List.map Em.row l))) = true,
      (0 : Int) ≤ Int.ofNat k,
      Int.ofNat k < Int.ofNat (List.length (List.map Em.row l)),
      (List.map Em.row l)[k]? = some (Em.row x),
      (0 : Int) ≤ Int.ofNat i,
      Int.ofNat i < Int.ofNat (List.length (List.map Em.row es)),
      (List.map Em.row es)[i]? = some (Em.row e),
      Contract Try.prog (18 : Nat) [V.agg [Sg (Em.svc x), Sg (Em.op x), V.val (Value.int IntKind.u64 (Em.hi x)), V.val (Value.int IntKind.u64 (Em.lo x)), V.val (Value.int IntKind.u64 (Em.id x)), I (Em.block x)], V.agg [Sg (Em.svc e), Sg (Em.op e), V.val (Value.int IntKind.u64 (Em.hi e)), V.val (Value.int IntKind.u64 (Em.lo e)), V.val (Value.int IntKind.u64 (Em.id e)), I (Em.block e)]] [] (Bo (aheadE x e)) [],
      aheadE x e = false] (by kernel_rfl)
    (by
      simp only [allP]
      and_intros <;> first
        | omega
        | with_reducible assumption
        | exact cAhead x e
        | (simp; omega)
        | (simp [hx]; done)
        | (simp [he]; done)
        | exact i64_small (by simp; omega)
        | (simp; done)
        | decide)

theorem raEnd (l es : List Em) (i k : Nat) (h : l.length ≤ k) : CodeC Try.prog 0 89 raB (raS l es i k) (.exit 2) (raS l es i k) :=
  runP hmix [.reg 6 [(3, [], some false)]] ⟨[0, 1, 5, 6], [], []⟩ [
      decide (Int.ofNat k < Int.ofNat (List.length (List.map Em.row l))) = false] (by kernel_rfl)
    (by
      simp only [allP]
      and_intros <;> first
        | omega
        | with_reducible assumption
        | (simp; omega)
        | (simp; done)
        | decide)

theorem raLoop (l es : List Em) (e : Em) (i : Nat) (hi : i < es.length) (he : es[i]? = some e) (hs : l.length ≤ 1000000000) : ∀ (m k : Nat), k + m = l.length → LoopC Try.prog 0 89 raB (raS l es i k) (.exit 2) (raS l es i (k + aheadN (l.drop k) e))
  | 0, k, hk => by
    rw [List.drop_of_length_le (by omega)]
    exact LoopC.last (raEnd l es i k (by omega)) (by simp)
  | m + 1, k, hk => by
    have hlt : k < l.length := by omega
    have hx : l[k]? = some l[k] := List.getElem?_eq_getElem hlt
    rw [List.drop_eq_getElem_cons hlt]
    unfold aheadN
    rw [List.takeWhile_cons]
    cases hp : aheadE l[k] e with
    | true =>
      have ih := raLoop l es e i hi he hs m (k + 1) (by omega)
      simp only [if_true, List.length_cons]
      rw [show k + ((List.takeWhile (fun y => aheadE y e) (List.drop (k + 1) l)).length + 1) = k + 1 + aheadN (l.drop (k + 1)) e by unfold aheadN; omega]
      exact LoopC.next (raGo l es l[k] e i k hlt hx hi he hs hp) ih
    | false =>
      simp only [Bool.false_eq_true, if_false, List.length_nil, Nat.add_zero]
      exact LoopC.last (raStop l es l[k] e i k hlt hx hi he hs hp) (by simp)

theorem rbDrop (l es out : List Em) (x e : Em) (i n j : Nat) (h : j < l.length) (hx : l[j]? = some x) (hi : i < es.length) (he : es[i]? = some e) (hs : l.length ≤ 1000000000) (ho : out.length ≤ 1000000000) (hn : n ≤ 1000000000) (h1 : (x.svc.toList == e.svc.toList) = true) (h2 : (x.op.toList == e.op.toList) = true) (hm : 2 < n + 1) : CodeC Try.prog 0 89 rbB (rbS l es out i n j) .normal (rbS l es out i (n + 1) (j + 1)) :=
  runP hmix [.reg 11 [(3, [], some true)], .reg 13 [(4, [.row (Em.row x)], none), (9, [.row (Em.row e)], none), (10, [], some true), (16, [.row (Em.row x)], none), (21, [.row (Em.row e)], none), (22, [], some true)], .reg 14 [(1, [.be (I ((n + 1 : Nat) : Int))], none)], .reg 15 [(1, [], some true)], .reg 12 [(1, [.be (I ((j + 1 : Nat) : Int))], none)]] ⟨[0, 1, 5, 7, 8, 9], [(901, 901)], []⟩ [
      decide (Int.ofNat j < Int.ofNat (List.length (List.map Em.row l))) = true,
      (0 : Int) ≤ Int.ofNat j,
      Int.ofNat j < Int.ofNat (List.length (List.map Em.row l)),
      (List.map Em.row l)[j]? = some (Em.row x),
      (0 : Int) ≤ Int.ofNat i,
      Int.ofNat i < Int.ofNat (List.length (List.map Em.row es)),
      (List.map Em.row es)[i]? = some (Em.row e),
      (ByteArray.toList (Em.svc x) == ByteArray.toList (Em.svc e)) = true,
      (0 : Int) ≤ Int.ofNat j,
      Int.ofNat j < Int.ofNat (List.length (List.map Em.row l)),
      (List.map Em.row l)[j]? = some (Em.row x),
      (0 : Int) ≤ Int.ofNat i,
      Int.ofNat i < Int.ofNat (List.length (List.map Em.row es)),
      (List.map Em.row es)[i]? = some (Em.row e),
      (ByteArray.toList (Em.op x) == ByteArray.toList (Em.op e)) = true,
      IntKind.wrap IntKind.i64 (Int.ofNat (n + (1 : Nat))) = Int.ofNat (n + (1 : Nat)),
      decide (Int.ofNat (n + (1 : Nat)) > (2 : Int)) = true,
      IntKind.wrap IntKind.i64 (Int.ofNat (j + (1 : Nat))) = Int.ofNat (j + (1 : Nat))] (by kernel_rfl)
    (by
      simp only [allP]
      and_intros <;> first
        | omega
        | with_reducible assumption
        | (simp; omega)
        | (simp [hx]; done)
        | (simp [he]; done)
        | exact i64_small (by simp; omega)
        | (simp [Em.row, U]; done)
        | (simp; done)
        | decide)

theorem rbHit (l es out : List Em) (x e : Em) (i n j : Nat) (h : j < l.length) (hx : l[j]? = some x) (hi : i < es.length) (he : es[i]? = some e) (hs : l.length ≤ 1000000000) (ho : out.length ≤ 1000000000) (hn : n ≤ 1000000000) (h1 : (x.svc.toList == e.svc.toList) = true) (h2 : (x.op.toList == e.op.toList) = true) (hm : ¬ 2 < n + 1) : CodeC Try.prog 0 89 rbB (rbS l es out i n j) .normal (rbS l es (out ++ [x]) i (n + 1) (j + 1)) :=
  runP hmix [.reg 11 [(3, [], some true)], .reg 13 [(4, [.row (Em.row x)], none), (9, [.row (Em.row e)], none), (10, [], some true), (16, [.row (Em.row x)], none), (21, [.row (Em.row e)], none), (22, [], some true)], .reg 14 [(1, [.be (I ((n + 1 : Nat) : Int))], none)], .reg 15 [(1, [], some false)], .reg 16 [(4, [.row (Em.row x)], none), (6, [.beO ((out ++ [x]).map Em.row)], none)], .reg 12 [(1, [.be (I ((j + 1 : Nat) : Int))], none)]] ⟨[0, 1, 5, 7, 8, 9], [(3207000, 901)], []⟩ [
      decide (Int.ofNat j < Int.ofNat (List.length (List.map Em.row l))) = true,
      (0 : Int) ≤ Int.ofNat j,
      Int.ofNat j < Int.ofNat (List.length (List.map Em.row l)),
      (List.map Em.row l)[j]? = some (Em.row x),
      (0 : Int) ≤ Int.ofNat i,
      Int.ofNat i < Int.ofNat (List.length (List.map Em.row es)),
      (List.map Em.row es)[i]? = some (Em.row e),
      (ByteArray.toList (Em.svc x) == ByteArray.toList (Em.svc e)) = true,
      (0 : Int) ≤ Int.ofNat j,
      Int.ofNat j < Int.ofNat (List.length (List.map Em.row l)),
      (List.map Em.row l)[j]? = some (Em.row x),
      (0 : Int) ≤ Int.ofNat i,
      Int.ofNat i < Int.ofNat (List.length (List.map Em.row es)),
      (List.map Em.row es)[i]? = some (Em.row e),
      (ByteArray.toList (Em.op x) == ByteArray.toList (Em.op e)) = true,
      IntKind.wrap IntKind.i64 (Int.ofNat (n + (1 : Nat))) = Int.ofNat (n + (1 : Nat)),
      decide (Int.ofNat (n + (1 : Nat)) > (2 : Int)) = false,
      (0 : Int) ≤ Int.ofNat j,
      Int.ofNat j < Int.ofNat (List.length (List.map Em.row l)),
      (List.map Em.row l)[j]? = some (Em.row x),
      (List.length (List.map Em.row out) + (1 : Nat)) * (64 : Nat) ≤ (140737488355328 : Nat),
      List.map Em.row out ++ [[Sg (Em.svc x), Sg (Em.op x), V.val (Value.int IntKind.u64 (Em.hi x)), V.val (Value.int IntKind.u64 (Em.lo x)), V.val (Value.int IntKind.u64 (Em.id x)), I (Em.block x)]] = List.map Em.row (out ++ [x]),
      IntKind.wrap IntKind.i64 (Int.ofNat (j + (1 : Nat))) = Int.ofNat (j + (1 : Nat))] (by kernel_rfl)
    (by
      simp only [allP]
      and_intros <;> first
        | omega
        | with_reducible assumption
        | (simp; omega)
        | (simp [hx]; done)
        | (simp [he]; done)
        | exact i64_small (by simp; omega)
        | (simp [Em.row, U]; done)
        | (simp; done)
        | decide)

theorem rbMissA (l es out : List Em) (x e : Em) (i n j : Nat) (h : j < l.length) (hx : l[j]? = some x) (hi : i < es.length) (he : es[i]? = some e) (hs : l.length ≤ 1000000000) (ho : out.length ≤ 1000000000) (hn : n ≤ 1000000000) (h1 : (x.svc.toList == e.svc.toList) = false) : CodeC Try.prog 0 89 rbB (rbS l es out i n j) .normal (rbS l es (out ++ [x]) i n (j + 1)) :=
  runP hmix [.reg 11 [(3, [], some true)], .reg 13 [(4, [.row (Em.row x)], none), (9, [.row (Em.row e)], none), (10, [], some false)], .reg 16 [(4, [.row (Em.row x)], none), (6, [.beO ((out ++ [x]).map Em.row)], none)], .reg 12 [(1, [.be (I ((j + 1 : Nat) : Int))], none)]] ⟨[0, 1, 5, 7, 8, 9], [(3207000, 901)], []⟩ [
      decide (Int.ofNat j < Int.ofNat (List.length (List.map Em.row l))) = true,
      (0 : Int) ≤ Int.ofNat j,
      Int.ofNat j < Int.ofNat (List.length (List.map Em.row l)),
      (List.map Em.row l)[j]? = some (Em.row x),
      (0 : Int) ≤ Int.ofNat i,
      Int.ofNat i < Int.ofNat (List.length (List.map Em.row es)),
      (List.map Em.row es)[i]? = some (Em.row e),
      (ByteArray.toList (Em.svc x) == ByteArray.toList (Em.svc e)) = false,
      (0 : Int) ≤ Int.ofNat j,
      Int.ofNat j < Int.ofNat (List.length (List.map Em.row l)),
      (List.map Em.row l)[j]? = some (Em.row x),
      (List.length (List.map Em.row out) + (1 : Nat)) * (64 : Nat) ≤ (140737488355328 : Nat),
      List.map Em.row out ++ [[Sg (Em.svc x), Sg (Em.op x), V.val (Value.int IntKind.u64 (Em.hi x)), V.val (Value.int IntKind.u64 (Em.lo x)), V.val (Value.int IntKind.u64 (Em.id x)), I (Em.block x)]] = List.map Em.row (out ++ [x]),
      IntKind.wrap IntKind.i64 (Int.ofNat (j + (1 : Nat))) = Int.ofNat (j + (1 : Nat))] (by kernel_rfl)
    (by
      simp only [allP]
      and_intros <;> first
        | omega
        | with_reducible assumption
        | (simp; omega)
        | (simp [hx]; done)
        | (simp [he]; done)
        | exact i64_small (by simp; omega)
        | (simp [Em.row, U]; done)
        | (simp; done)
        | decide)

theorem rbMissB (l es out : List Em) (x e : Em) (i n j : Nat) (h : j < l.length) (hx : l[j]? = some x) (hi : i < es.length) (he : es[i]? = some e) (hs : l.length ≤ 1000000000) (ho : out.length ≤ 1000000000) (hn : n ≤ 1000000000) (h1 : (x.svc.toList == e.svc.toList) = true) (h2 : (x.op.toList == e.op.toList) = false) : CodeC Try.prog 0 89 rbB (rbS l es out i n j) .normal (rbS l es (out ++ [x]) i n (j + 1)) :=
  runP hmix [.reg 11 [(3, [], some true)], .reg 13 [(4, [.row (Em.row x)], none), (9, [.row (Em.row e)], none), (10, [], some true), (16, [.row (Em.row x)], none), (21, [.row (Em.row e)], none), (22, [], some false)], .reg 16 [(4, [.row (Em.row x)], none), (6, [.beO ((out ++ [x]).map Em.row)], none)], .reg 12 [(1, [.be (I ((j + 1 : Nat) : Int))], none)]] ⟨[0, 1, 5, 7, 8, 9], [(3207000, 901)], []⟩ [
      decide (Int.ofNat j < Int.ofNat (List.length (List.map Em.row l))) = true,
      (0 : Int) ≤ Int.ofNat j,
      Int.ofNat j < Int.ofNat (List.length (List.map Em.row l)),
      (List.map Em.row l)[j]? = some (Em.row x),
      (0 : Int) ≤ Int.ofNat i,
      Int.ofNat i < Int.ofNat (List.length (List.map Em.row es)),
      (List.map Em.row es)[i]? = some (Em.row e),
      (ByteArray.toList (Em.svc x) == ByteArray.toList (Em.svc e)) = true,
      (0 : Int) ≤ Int.ofNat j,
      Int.ofNat j < Int.ofNat (List.length (List.map Em.row l)),
      (List.map Em.row l)[j]? = some (Em.row x),
      (0 : Int) ≤ Int.ofNat i,
      Int.ofNat i < Int.ofNat (List.length (List.map Em.row es)),
      (List.map Em.row es)[i]? = some (Em.row e),
      (ByteArray.toList (Em.op x) == ByteArray.toList (Em.op e)) = false,
      (0 : Int) ≤ Int.ofNat j,
      Int.ofNat j < Int.ofNat (List.length (List.map Em.row l)),
      (List.map Em.row l)[j]? = some (Em.row x),
      (List.length (List.map Em.row out) + (1 : Nat)) * (64 : Nat) ≤ (140737488355328 : Nat),
      List.map Em.row out ++ [[Sg (Em.svc x), Sg (Em.op x), V.val (Value.int IntKind.u64 (Em.hi x)), V.val (Value.int IntKind.u64 (Em.lo x)), V.val (Value.int IntKind.u64 (Em.id x)), I (Em.block x)]] = List.map Em.row (out ++ [x]),
      IntKind.wrap IntKind.i64 (Int.ofNat (j + (1 : Nat))) = Int.ofNat (j + (1 : Nat))] (by kernel_rfl)
    (by
      simp only [allP]
      and_intros <;> first
        | omega
        | with_reducible assumption
        | (simp; omega)
        | (simp [hx]; done)
        | (simp [he]; done)
        | exact i64_small (by simp; omega)
        | (simp [Em.row, U]; done)
        | (simp; done)
        | decide)

theorem rbEnd (l es out : List Em) (i n j : Nat) (h : l.length ≤ j) : CodeC Try.prog 0 89 rbB (rbS l es out i n j) (.exit 4) (rbS l es out i n j) :=
  runP hmix [.reg 11 [(3, [], some false)]] ⟨[0, 1, 5, 7, 8, 9], [(901, 901)], []⟩ [
      decide (Int.ofNat j < Int.ofNat (List.length (List.map Em.row l))) = false] (by kernel_rfl)
    (by
      simp only [allP]
      and_intros <;> first
        | omega
        | with_reducible assumption
        | (simp; omega)
        | (simp; done)
        | decide)

theorem rbLoop (l es : List Em) (e : Em) (i : Nat) (hi : i < es.length) (he : es[i]? = some e) (hs : l.length ≤ 999999999) : ∀ (m : Nat) (out : List Em) (n j : Nat), j + m = l.length → out.length ≤ j + 1 → n ≤ j + 1 → out.length ≤ 1000000000 →
    ∃ n', LoopC Try.prog 0 89 rbB (rbS l es out i n j) (.exit 4) (rbS l es (out ++ keep2 e (l.drop j) n) i n' l.length)
  | 0, out, n, j, hj, ho, hn, hb => by
    have : j = l.length := by omega
    subst this
    rw [List.drop_length]
    refine ⟨n, ?_⟩
    have e0 : out ++ keep2 e [] n = out := by simp [keep2]
    rw [e0]
    exact LoopC.last (rbEnd l es out i n _ (Nat.le_refl _)) (by simp)
  | m + 1, out, n, j, hj, ho, hn, hb => by
    have hlt : j < l.length := by omega
    have hx : l[j]? = some l[j] := List.getElem?_eq_getElem hlt
    have hn' : n ≤ 1000000000 := by omega
    have ho' : (out ++ [l[j]]).length ≤ j + 1 + 1 := by rw [List.length_append, List.length_singleton]; omega
    have hb' : m + 1 + j ≤ 1000000000 := by omega
    rw [List.drop_eq_getElem_cons hlt]
    unfold keep2 sameK
    cases h1 : l[j].svc.toList == e.svc.toList with
    | false =>
      simp only [Bool.false_and, cond_false]
      rw [show out ++ l[j] :: keep2 e (l.drop (j + 1)) n = out ++ [l[j]] ++ keep2 e (l.drop (j + 1)) n by simp]
      obtain ⟨n', k⟩ := rbLoop l es e i hi he hs m (out ++ [l[j]]) n (j + 1) (by omega) ho' (by omega) (by rw [List.length_append, List.length_singleton]; omega)
      exact ⟨n', LoopC.next (rbMissA l es out l[j] e i n j hlt hx hi he (by omega) hb hn' h1) k⟩
    | true =>
      cases h2 : l[j].op.toList == e.op.toList with
      | false =>
        simp only [Bool.and_false, cond_false]
        rw [show out ++ l[j] :: keep2 e (l.drop (j + 1)) n = out ++ [l[j]] ++ keep2 e (l.drop (j + 1)) n by simp]
        obtain ⟨n', k⟩ := rbLoop l es e i hi he hs m (out ++ [l[j]]) n (j + 1) (by omega) ho' (by omega) (by rw [List.length_append, List.length_singleton]; omega)
        exact ⟨n', LoopC.next (rbMissB l es out l[j] e i n j hlt hx hi he (by omega) hb hn' h1 h2) k⟩
      | true =>
        simp only [Bool.and_true, cond_true]
        split
        · rename_i hm
          obtain ⟨n', k⟩ := rbLoop l es e i hi he hs m out (n + 1) (j + 1) (by omega) (by omega) (by omega) hb
          exact ⟨n', LoopC.next (rbDrop l es out l[j] e i n j hlt hx hi he (by omega) hb hn' h1 h2 hm) k⟩
        · rename_i hm
          rw [show out ++ l[j] :: keep2 e (l.drop (j + 1)) (n + 1) = out ++ [l[j]] ++ keep2 e (l.drop (j + 1)) (n + 1) by simp]
          obtain ⟨n', k⟩ := rbLoop l es e i hi he hs m (out ++ [l[j]]) (n + 1) (j + 1) (by omega) ho' (by omega) (by rw [List.length_append, List.length_singleton]; omega)
          exact ⟨n', LoopC.next (rbHit l es out l[j] e i n j hlt hx hi he (by omega) hb hn' h1 h2 hm) k⟩

theorem roGo (l es : List Em) (e : Em) (i k n : Nat) (hi : i < es.length) (he : es[i]? = some e) (hs : l.length ≤ 999999999) (hies : es.length ≤ 1000000000) (hk : k ≤ l.length) (ha : LoopC Try.prog 0 89 raB (raS l es i 0) (.exit 2) (raS l es i k)) (hb : LoopC Try.prog 0 89 rbB (rbS l es (l.take k ++ [e]) i 1 k) (.exit 4) (rbS l es (l.take k ++ [e] ++ keep2 e (l.drop k) 1) i n l.length)) : CodeC Try.prog 0 89 roB (roS es l i) .normal (roS es (l.take k ++ [e] ++ keep2 e (l.drop k) 1) (i + 1)) :=
  runP hmix [.reg 3 [(3, [], some true)], .cut ⟨[0, 1, 5, 6], [], []⟩ (.exit 2) (raS l es i k), .reg 8 [(3, [.beO ((l.take k).map Em.row)], none), (7, [.row (Em.row e)], none), (9, [.beO ((l.take k ++ [e]).map Em.row)], none)], .cut ⟨[0, 1, 5, 7, 8, 9], [(1610000, 901)], []⟩ (.exit 4) (rbS l es (l.take k ++ [e] ++ keep2 e (l.drop k) 1) i n l.length), .reg 17 [(1, [.idx 1], none)], .reg 4 [(1, [.be (I ((i + 1 : Nat) : Int))], none)]] ⟨[0, 1, 5], [], []⟩ [
      decide (Int.ofNat i < Int.ofNat (List.length (List.map Em.row es))) = true,
      LoopC Try.prog (0 : Nat) (89 : Nat) raB { env := [((0 : Nat), V.sl (6 : Nat) (List.map Em.row l)), ((1 : Nat), V.sl (6 : Nat) (List.map Em.row es)), ((5 : Nat), I (Int.ofNat i)), ((6 : Nat), I (0 : Int))], st := [], ids := [] } (Ex.exit (2 : Nat)) { env := [((0 : Nat), V.sl (6 : Nat) (List.map Em.row l)), ((1 : Nat), V.sl (6 : Nat) (List.map Em.row es)), ((5 : Nat), I (Int.ofNat i)), ((6 : Nat), I (Int.ofNat k))], st := [], ids := [] },
      (0 : Int) ≤ (0 : Int),
      (0 : Int) ≤ Int.ofNat k,
      Int.ofNat k ≤ Int.ofNat (List.length (List.map Em.row l)),
      List.length (List.take k (List.map Em.row l)) * (64 : Nat) ≤ (140737488355328 : Nat),
      List.take k (List.map Em.row l) = List.map Em.row (List.take k l),
      (0 : Int) ≤ Int.ofNat i,
      Int.ofNat i < Int.ofNat (List.length (List.map Em.row es)),
      (List.map Em.row es)[i]? = some (Em.row e),
      (List.length (List.map Em.row (List.take k l)) + (1 : Nat)) * (64 : Nat) ≤ (140737488355328 : Nat),
      List.map Em.row (List.take k l) ++ [[Sg (Em.svc e), Sg (Em.op e), V.val (Value.int IntKind.u64 (Em.hi e)), V.val (Value.int IntKind.u64 (Em.lo e)), V.val (Value.int IntKind.u64 (Em.id e)), I (Em.block e)]] = List.map Em.row (List.take k l ++ [e]),
      LoopC Try.prog (0 : Nat) (89 : Nat) rbB { env := [((0 : Nat), V.sl (6 : Nat) (List.map Em.row l)), ((1 : Nat), V.sl (6 : Nat) (List.map Em.row es)), ((5 : Nat), I (Int.ofNat i)), ((7 : Nat), V.own (901 : Nat)), ((8 : Nat), I (1 : Int)), ((9 : Nat), I (Int.ofNat k))], st := [((901 : Nat), Obj.arr (6 : Nat) (List.map Em.row (List.take k l ++ [e])))], ids := [(901 : Nat)] } (Ex.exit (4 : Nat)) { env := [((0 : Nat), V.sl (6 : Nat) (List.map Em.row l)), ((1 : Nat), V.sl (6 : Nat) (List.map Em.row es)), ((5 : Nat), I (Int.ofNat i)), ((7 : Nat), V.own (901 : Nat)), ((8 : Nat), I (Int.ofNat n)), ((9 : Nat), I (Int.ofNat (List.length l)))], st := [((901 : Nat), Obj.arr (6 : Nat) (List.map Em.row (List.take k l ++ [e] ++ keep2 e (List.drop k l) (1 : Nat))))], ids := [(901 : Nat)] },
      IntKind.wrap IntKind.i64 (Int.ofNat (i + (1 : Nat))) = Int.ofNat (i + (1 : Nat))] (by kernel_rfl)
    (by
      simp only [allP]
      and_intros <;> first
        | omega
        | with_reducible assumption
        | exact ha
        | exact hb
        | (simp; omega)
        | (simp [he]; done)
        | exact i64_small (by simp; omega)
        | (simp [Em.row, U, List.map_take]; done)
        | (simp; done)
        | decide)

theorem roEnd (l es : List Em) (i : Nat) (h : es.length ≤ i) : CodeC Try.prog 0 89 roB (roS es l i) (.exit 0) (roS es l i) :=
  runP hmix [.reg 3 [(3, [], some false)]] ⟨[0, 1, 5], [], []⟩ [
      decide (Int.ofNat i < Int.ofNat (List.length (List.map Em.row es))) = false] (by kernel_rfl)
    (by
      simp only [allP]
      and_intros <;> first
        | omega
        | with_reducible assumption
        | (simp; omega)
        | (simp; done)
        | decide)

theorem aheadN_le (l : List Em) (e : Em) : aheadN l e ≤ l.length := (List.takeWhile_prefix _).length_le
theorem keep2_len (e : Em) : ∀ (l : List Em) (n : Nat), (keep2 e l n).length ≤ l.length
  | [], n => by simp [keep2]
  | x :: xs, n => by
    have h1 := keep2_len e xs n
    have h2 := keep2_len e xs (n + 1)
    unfold keep2
    cases sameK e.svc e.op x
    · simp only [cond_false, List.length_cons]; omega
    · simp only [cond_true]
      split
      · simp only [List.length_cons]; omega
      · simp only [List.length_cons]; omega
theorem putR_len (l : List Em) (e : Em) : (putR l e).length ≤ l.length + 1 := by
  have h1 := keep2_len e (l.drop (aheadN l e)) 1
  have h2 := aheadN_le l e
  unfold putR
  simp only [List.length_append, List.length_take, List.length_singleton, List.length_drop] at h1 ⊢
  omega
theorem roRound (l es : List Em) (e : Em) (i : Nat) (hi : i < es.length) (he : es[i]? = some e) (hs : l.length ≤ 999999999) (hies : es.length ≤ 1000000000) : CodeC Try.prog 0 89 roB (roS es l i) .normal (roS es (putR l e) (i + 1)) := by
  have ha := raLoop l es e i hi he (by omega) l.length 0 (by omega)
  rw [List.drop_zero, Nat.zero_add] at ha
  have hk := aheadN_le l e
  obtain ⟨n', hb⟩ := rbLoop l es e i hi he hs (l.length - aheadN l e) (l.take (aheadN l e) ++ [e]) 1 (aheadN l e) (by omega) (by simp; omega) (by omega) (by simp; omega)
  exact roGo l es e i (aheadN l e) n' hi he hs hies hk ha hb
theorem roLoop (es l : List Em) (hb : l.length + es.length ≤ 999999999) : LoopC Try.prog 0 89 roB (roS es l 0) (.exit 0) (roS es (es.foldl putR l) es.length) :=
  LoopC.fold (P := Try.prog) (k := 0) (n := 89) (c := roB) es putR (fun i s => s.length ≤ l.length + i) (fun s i => roS es s i) (e := .exit 0) (by simp)
    (fun i s x hx hi h => by
      have h : s.length ≤ l.length + i := h
      have h3 := putR_len s x
      exact ⟨roRound s es x i hi hx (by omega) (by omega), (by omega : (putR s x).length ≤ l.length + (i + 1))⟩)
    (fun s h => roEnd s es _ (Nat.le_refl _)) l (by omega)

theorem cPutsR (l es : List Em) (hb : l.length + es.length ≤ 999999999) : Contract Try.prog 9 [.sl 6 (l.map Em.row), .sl 6 (es.map Em.row)] [] (.sl 6 ((es.foldl putR l).map Em.row)) [] :=
  vcP hmix [.reg 1 [(2, [.idx 1], none)], .cut ⟨[0, 1, 5], [], []⟩ (.exit 0) (roS es (es.foldl putR l) es.length)] [] [
      List.length (List.map Em.row l) * (64 : Nat) ≤ (140737488355328 : Nat),
      LoopC Try.prog (0 : Nat) (89 : Nat) roB { env := [((0 : Nat), V.sl (6 : Nat) (List.map Em.row l)), ((1 : Nat), V.sl (6 : Nat) (List.map Em.row es)), ((5 : Nat), I (0 : Int))], st := [], ids := [] } (Ex.exit (0 : Nat)) { env := [((0 : Nat), V.sl (6 : Nat) (List.map Em.row (List.foldl putR l es))), ((1 : Nat), V.sl (6 : Nat) (List.map Em.row es)), ((5 : Nat), I (Int.ofNat (List.length es)))], st := [], ids := [] }] (by kernel_rfl)
    (by
      simp only [allP]
      and_intros <;> first
        | omega
        | with_reducible assumption
        | exact roLoop es l hb
        | (simp; omega)
        | (simp; done)
        | decide)

theorem ssGo (l : List Em) (x : Em) (i : Nat) (h : i < l.length) (hx : l[i]? = some x) (hs : l.length ≤ 1000000000) : CodeC Try.prog 0 26 ssB (ssS l i) .normal (ssS l (i + 1)) :=
  runP hmix [.reg 4 [(3, [], some true)], .reg 6 [(3, [.row (Em.row x)], none), (7, [.row (Em.row x)], none), (8, [], some false)], .reg 5 [(1, [.be (I ((i + 1 : Nat) : Int))], none)]] ⟨[0, 1, 5], [], []⟩ [
      decide (Int.ofNat i < Int.ofNat (List.length (List.map Em.row l))) = true,
      (0 : Int) ≤ Int.ofNat i,
      Int.ofNat i < Int.ofNat (List.length (List.map Em.row l)),
      (List.map Em.row l)[i]? = some (Em.row x),
      (0 : Int) ≤ Int.ofNat i,
      Int.ofNat i < Int.ofNat (List.length (List.map Em.row l)),
      (List.map Em.row l)[i]? = some (Em.row x),
      (!(Em.svc x == Em.svc x && (Em.op x == Em.op x && (decide (Em.hi x = Em.hi x) && (decide (Em.lo x = Em.lo x) && true) && (decide (Em.id x = Em.id x) && (decide (Em.block x = Em.block x) && true)))))) = false,
      IntKind.wrap IntKind.i64 (Int.ofNat (i + (1 : Nat))) = Int.ofNat (i + (1 : Nat))] (by kernel_rfl)
    (by
      simp only [allP]
      and_intros <;> first
        | omega
        | with_reducible assumption
        | (simp; omega)
        | (simp [hx]; done)
        | exact i64_small (by simp; omega)
        | (simp [ba_refl]; done)
        | (simp; done)
        | decide)

theorem ssEnd (l : List Em) (i : Nat) (h : l.length ≤ i) : CodeC Try.prog 0 26 ssB (ssS l i) (.exit 0) (ssS l i) :=
  runP hmix [.reg 4 [(3, [], some false)]] ⟨[0, 1, 5], [], []⟩ [
      decide (Int.ofNat i < Int.ofNat (List.length (List.map Em.row l))) = false] (by kernel_rfl)
    (by
      simp only [allP]
      and_intros <;> first
        | omega
        | with_reducible assumption
        | (simp; omega)
        | (simp; done)
        | decide)

theorem ssLoop (l : List Em) (hs : l.length ≤ 1000000000) : ∀ (m i : Nat), i + m = l.length → LoopC Try.prog 0 26 ssB (ssS l i) (.exit 0) (ssS l l.length)
  | 0, i, hi => by
    have : i = l.length := by omega
    subst this
    exact LoopC.last (ssEnd l _ (Nat.le_refl _)) (by simp)
  | m + 1, i, hi => by
    have hlt : i < l.length := by omega
    exact LoopC.next (ssGo l l[i] i hlt (List.getElem?_eq_getElem hlt) hs) (ssLoop l hs m (i + 1) (by omega))

theorem cSame (l : List Em) (hb : l.length ≤ 1000000000) : Contract Try.prog 14 [.sl 6 (l.map Em.row), .sl 6 (l.map Em.row)] [] (Bo true) [] :=
  vcP hmix [.reg 1 [(4, [], some false)], .cut ⟨[0, 1, 5], [], []⟩ (.exit 0) (ssS l l.length)] [] [
      (Int.ofNat (List.length (List.map Em.row l)) != Int.ofNat (List.length (List.map Em.row l))) = false,
      LoopC Try.prog (0 : Nat) (26 : Nat) ssB { env := [((0 : Nat), V.sl (6 : Nat) (List.map Em.row l)), ((1 : Nat), V.sl (6 : Nat) (List.map Em.row l)), ((5 : Nat), I (0 : Int))], st := [], ids := [] } (Ex.exit (0 : Nat)) { env := [((0 : Nat), V.sl (6 : Nat) (List.map Em.row l)), ((1 : Nat), V.sl (6 : Nat) (List.map Em.row l)), ((5 : Nat), I (Int.ofNat (List.length l)))], st := [], ids := [] }] (by kernel_rfl)
    (by
      simp only [allP]
      and_intros <;> first
        | omega
        | with_reducible assumption
        | exact ssLoop l hb l.length 0 (by omega)
        | (simp; done)
        | decide)

end Go.Proofs.Ytemjhlmdiicdcaa
