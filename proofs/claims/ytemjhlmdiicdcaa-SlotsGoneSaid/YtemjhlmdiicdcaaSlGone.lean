/- Proved here: whatever the input, gleaninglaw12.SlotsGone returns true and leaves what it is handed as it was. No conditions beyond the row. -/
import Derived.Test.YtemjhlmdiicdcaaRows
import Derived.Test.YtemjhlmdiicdcaaSlE
namespace Go.Proofs.Ytemjhlmdiicdcaa
open E Go.ChangeShapes Go.WideShapes Go.ChangeAt Go.RowKit
set_option maxRecDepth 100000
set_option linter.unusedVariables false
set_option linter.unusedSimpArgs false


def FAlive : List V → Option V := fun _ => some (Bo true)
def em0 : Em := Em.mk ⟨#[97]⟩ ⟨#[98]⟩ 0 0 4 0
def keepE (b : Int) (l : List Em) : List Em := l.filter (fun y => !pDrop b y)
def putsE (es : List Em) : List Em := es.foldl putE []
def gaS (b t : Int) (l : List Em) (n i : Nat) : SL := ⟨[(1, I b), (2, I t), (8, .own 800), (9, .own 801), (10, .own 802), (11, I (n : Int)), (12, I (i : Int))], [(800, .arr 6 (l.map Em.row)), (801, .arr 6 ((keepE b l).map Em.row)), (802, .arr 6 ((l.map (movE b t)).map Em.row))], [800, 801, 802]⟩
def gbS (b t : Int) (l : List Em) (i : Nat) : SL := ⟨[(1, I b), (2, I t), (8, .own 800), (10, .own 802), (13, I (i : Int))], [(800, .arr 6 (l.map Em.row)), (802, .arr 6 ((l.map (movE b t)).map Em.row))], [800, 802]⟩
noncomputable def gaB : Code := codeAt Try.prog 5 [true, true, true, true, true, true, true, false, true, false, false]

noncomputable def gbB : Code := codeAt Try.prog 5 [true, true, true, true, true, true, true, true, true, false, true, false, false]

theorem put0 : putE [] em0 = [em0] := by simp [putE, atE, insE, scanE, cmpE, cmpS_self, orI]

theorem cAlive  : Contract Try.prog 6 [] [] (Bo true) [] :=
  vcP hmix [.reg 1 [(2, [.call [] [] (.own 0) [some (.arr 6 [em0.row])]], none)], .reg 2 [(0, [.call [] [] (.own 0) [some (.arr 6 [])]], none)]] [] [
      Contract Try.prog (7 : Nat) [V.sl (6 : Nat) [], V.sl (6 : Nat) [[Sg { data := { toList := [(97 : UInt8)] } }, Sg { data := { toList := [(98 : UInt8)] } }, V.val (Value.int IntKind.u64 (0 : Int)), V.val (Value.int IntKind.u64 (0 : Int)), V.val (Value.int IntKind.u64 (4 : Int)), I (0 : Int)]]] [] (V.own (0 : Nat)) [some (Obj.arr (6 : Nat) [Em.row { svc := { data := { toList := [(97 : UInt8)] } }, op := { data := { toList := [(98 : UInt8)] } }, hi := (0 : Int), lo := (0 : Int), id := (4 : Int), block := (0 : Int) }])],
      true = true,
      FlatRows [Em.row { svc := { data := { toList := [(97 : UInt8)] } }, op := { data := { toList := [(98 : UInt8)] } }, hi := (0 : Int), lo := (0 : Int), id := (4 : Int), block := (0 : Int) }],
      Contract Try.prog (8 : Nat) [V.sl (6 : Nat) [], Sg { data := { toList := [(97 : UInt8)] } }, Sg { data := { toList := [(98 : UInt8)] } }] [] (V.own (0 : Nat)) [some (Obj.arr (6 : Nat) [])],
      (0 : Int) ≤ (0 : Int),
      (0 : Int) < (1 : Int)] (by kernel_rfl)
    (by
      simp only [allP]
      and_intros <;> first
        | omega
        | with_reducible assumption
        | (have h := cPuts [] [em0] (by simp); simp only [List.foldl_cons, List.foldl_nil, put0] at h; exact h)
        | exact cFind [] _ _ (by simp)
        | exact flatRow [em0]
        | exact flatRow []
        | (simp; done)
        | decide)

theorem gaKeep (b t : Int) (l : List Em) (x : Em) (n i : Nat) (h : i < l.length) (hx : l[i]? = some x) (hs : l.length ≤ 1000000000) (hp : (x.block != b) = true) (hn : (keepE b l)[n]? = some x) (hl : n < (keepE b l).length) (hn2 : n ≤ i) : CodeC Try.prog 0 101 gaB (gaS b t l n i) .normal (gaS b t l (n + 1) (i + 1)) :=
  runP hmix [.reg 9 [(3, [], some true)], .reg 11 [(4, [.row (Em.row x)], none), (6, [], some true)], .reg 12 [(3, [], some false), (8, [.row (Em.row x)], none), (12, [.row (Em.row x)], none), (13, [], some false)], .reg 14 [(1, [.be (I ((n + 1 : Nat) : Int))], none)], .reg 10 [(1, [.be (I ((i + 1 : Nat) : Int))], none)]] ⟨[1, 2, 8, 9, 10, 11, 12], [(800, 800), (801, 801), (802, 802)], []⟩ [
      decide (Int.ofNat i < Int.ofNat (List.length (List.map Em.row l))) = true,
      (0 : Int) ≤ Int.ofNat i,
      Int.ofNat i < Int.ofNat (List.length (List.map Em.row l)),
      (List.map Em.row l)[i]? = some (Em.row x),
      (Em.block x != b) = true,
      decide (Int.ofNat n ≥ Int.ofNat (List.length (List.map Em.row (keepE b l)))) = false,
      (0 : Int) ≤ Int.ofNat n,
      Int.ofNat n < Int.ofNat (List.length (List.map Em.row (keepE b l))),
      (List.map Em.row (keepE b l))[n]? = some (Em.row x),
      (0 : Int) ≤ Int.ofNat i,
      Int.ofNat i < Int.ofNat (List.length (List.map Em.row l)),
      (List.map Em.row l)[i]? = some (Em.row x),
      (!(Em.svc x == Em.svc x && (Em.op x == Em.op x && (decide (Em.hi x = Em.hi x) && (decide (Em.lo x = Em.lo x) && true) && (decide (Em.id x = Em.id x) && (decide (Em.block x = Em.block x) && true)))))) = false,
      IntKind.wrap IntKind.i64 (Int.ofNat (n + (1 : Nat))) = Int.ofNat (n + (1 : Nat)),
      IntKind.wrap IntKind.i64 (Int.ofNat (i + (1 : Nat))) = Int.ofNat (i + (1 : Nat))] (by kernel_rfl)
    (by
      simp only [allP]
      and_intros <;> first
        | omega
        | with_reducible assumption
        | (simp; omega)
        | (simp [hx]; done)
        | (simp [hn]; done)
        | exact i64_small (by simp; omega)
        | (simp [hp]; done)
        | (simp [ba_refl]; done)
        | (simp; done)
        | decide)

theorem gaSkip (b t : Int) (l : List Em) (x : Em) (n i : Nat) (h : i < l.length) (hx : l[i]? = some x) (hs : l.length ≤ 1000000000) (hp : (x.block != b) = false) : CodeC Try.prog 0 101 gaB (gaS b t l n i) .normal (gaS b t l n (i + 1)) :=
  runP hmix [.reg 9 [(3, [], some true)], .reg 11 [(4, [.row (Em.row x)], none), (6, [], some false)], .reg 10 [(1, [.be (I ((i + 1 : Nat) : Int))], none)]] ⟨[1, 2, 8, 9, 10, 11, 12], [(800, 800), (801, 801), (802, 802)], []⟩ [
      decide (Int.ofNat i < Int.ofNat (List.length (List.map Em.row l))) = true,
      (0 : Int) ≤ Int.ofNat i,
      Int.ofNat i < Int.ofNat (List.length (List.map Em.row l)),
      (List.map Em.row l)[i]? = some (Em.row x),
      (Em.block x != b) = false,
      IntKind.wrap IntKind.i64 (Int.ofNat (i + (1 : Nat))) = Int.ofNat (i + (1 : Nat))] (by kernel_rfl)
    (by
      simp only [allP]
      and_intros <;> first
        | omega
        | with_reducible assumption
        | (simp; omega)
        | (simp [hx]; done)
        | exact i64_small (by simp; omega)
        | (simp [hp]; done)
        | (simp [ba_refl]; done)
        | (simp; done)
        | decide)

theorem gaEnd (b t : Int) (l : List Em) (n i : Nat) (h : l.length ≤ i) : CodeC Try.prog 0 101 gaB (gaS b t l n i) (.exit 0) (gaS b t l n i) :=
  runP hmix [.reg 9 [(3, [], some false)]] ⟨[1, 2, 8, 9, 10, 11, 12], [(800, 800), (801, 801), (802, 802)], []⟩ [
      decide (Int.ofNat i < Int.ofNat (List.length (List.map Em.row l))) = false] (by kernel_rfl)
    (by
      simp only [allP]
      and_intros <;> first
        | omega
        | with_reducible assumption
        | (simp; omega)
        | (simp; done)
        | decide)

theorem gaLoop (b t : Int) (l : List Em) (hs : l.length ≤ 1000000000) : ∀ (m n i : Nat), i + m = l.length → n = (keepE b (l.take i)).length → LoopC Try.prog 0 101 gaB (gaS b t l n i) (.exit 0) (gaS b t l (keepE b l).length l.length)
  | 0, n, i, hi, hn => by
    have : i = l.length := by omega
    subst this
    rw [List.take_length] at hn
    subst hn
    exact LoopC.last (gaEnd b t l _ _ (Nat.le_refl _)) (by simp)
  | m + 1, n, i, hi, hn => by
    have hlt : i < l.length := by omega
    have hx : l[i]? = some l[i] := List.getElem?_eq_getElem hlt
    have ht : keepE b (l.take (i + 1)) = keepE b (l.take i) ++ (if (l[i].block != b) = true then [l[i]] else []) := by
      unfold keepE
      rw [List.take_add_one, List.filter_append]
      congr 1
      simp only [hlt, List.getElem?_eq_getElem, Option.toList_some, List.filter_cons, List.filter_nil, pDrop]
      cases hb : l[i].block == b <;> simp [bne, hb]
    have hle : n ≤ i := by
      rw [hn]
      refine Nat.le_trans (List.length_filter_le _ _) ?_
      simp; omega
    cases hp : l[i].block != b with
    | true =>
      rw [hp] at ht
      have hsplit : keepE b l = keepE b (l.take (i + 1)) ++ keepE b (l.drop (i + 1)) := by
        unfold keepE
        rw [← List.filter_append, List.take_append_drop]
      have hget : (keepE b l)[n]? = some l[i] := by
        rw [hsplit, ht, hn]
        simp
      have hl : n < (keepE b l).length := (List.getElem?_eq_some_iff.1 hget).1
      exact LoopC.next (gaKeep b t l l[i] n i hlt hx hs hp hget hl hle) (gaLoop b t l hs m (n + 1) (i + 1) (by omega) (by rw [ht]; simp [hn]))
    | false =>
      rw [hp] at ht
      exact LoopC.next (gaSkip b t l l[i] n i hlt hx hs hp) (gaLoop b t l hs m n (i + 1) (by omega) (by rw [ht]; simp [hn]))

theorem gbHit (b t : Int) (l : List Em) (x : Em) (i : Nat) (h : i < l.length) (hx : l[i]? = some x) (hs : l.length ≤ 1000000000) (hp : (x.block == b) = true) : CodeC Try.prog 0 101 gbB (gbS b t l i) .normal (gbS b t l (i + 1)) :=
  runP hmix [.reg 18 [(3, [], some true)], .reg 20 [(3, [.row (Em.row x)], none)], .reg 21 [(3, [], some true)], .reg 23 [(3, [.row (Em.row (Em.mk x.svc x.op x.hi x.lo x.id t))], none), (5, [], some false)], .reg 19 [(1, [.be (I ((i + 1 : Nat) : Int))], none)]] ⟨[1, 2, 8, 10, 13], [(800, 800), (802, 802)], []⟩ [
      decide (Int.ofNat i < Int.ofNat (List.length (List.map Em.row (List.map (movE b t) l)))) = true,
      (0 : Int) ≤ Int.ofNat i,
      Int.ofNat i < Int.ofNat (List.length (List.map Em.row l)),
      (List.map Em.row l)[i]? = some (Em.row x),
      (Em.block x == b) = true,
      (0 : Int) ≤ Int.ofNat i,
      Int.ofNat i < Int.ofNat (List.length (List.map Em.row (List.map (movE b t) l))),
      (List.map Em.row (List.map (movE b t) l))[i]? = some (Em.row { svc := Em.svc x, op := Em.op x, hi := Em.hi x, lo := Em.lo x, id := Em.id x, block := t }),
      (!(Em.svc x == Em.svc x && (Em.op x == Em.op x && (decide (Em.hi x = Em.hi x) && (decide (Em.lo x = Em.lo x) && true) && (decide (Em.id x = Em.id x) && (decide (t = t) && true)))))) = false,
      IntKind.wrap IntKind.i64 (Int.ofNat (i + (1 : Nat))) = Int.ofNat (i + (1 : Nat))] (by kernel_rfl)
    (by
      simp only [allP]
      and_intros <;> first
        | omega
        | with_reducible assumption
        | (simp; omega)
        | (simp [hx]; done)
        | exact i64_small (by simp; omega)
        | (simp [hp]; done)
        | (simp [hx, movE, hp]; done)
        | (simp [ba_refl]; done)
        | (simp; done)
        | decide)

theorem gbMiss (b t : Int) (l : List Em) (x : Em) (i : Nat) (h : i < l.length) (hx : l[i]? = some x) (hs : l.length ≤ 1000000000) (hp : (x.block == b) = false) : CodeC Try.prog 0 101 gbB (gbS b t l i) .normal (gbS b t l (i + 1)) :=
  runP hmix [.reg 18 [(3, [], some true)], .reg 20 [(3, [.row (Em.row x)], none)], .reg 21 [(3, [], some false)], .reg 23 [(3, [.row (Em.row x)], none), (5, [], some false)], .reg 19 [(1, [.be (I ((i + 1 : Nat) : Int))], none)]] ⟨[1, 2, 8, 10, 13], [(800, 800), (802, 802)], []⟩ [
      decide (Int.ofNat i < Int.ofNat (List.length (List.map Em.row (List.map (movE b t) l)))) = true,
      (0 : Int) ≤ Int.ofNat i,
      Int.ofNat i < Int.ofNat (List.length (List.map Em.row l)),
      (List.map Em.row l)[i]? = some (Em.row x),
      (Em.block x == b) = false,
      (0 : Int) ≤ Int.ofNat i,
      Int.ofNat i < Int.ofNat (List.length (List.map Em.row (List.map (movE b t) l))),
      (List.map Em.row (List.map (movE b t) l))[i]? = some (Em.row x),
      (!(Em.svc x == Em.svc x && (Em.op x == Em.op x && (decide (Em.hi x = Em.hi x) && (decide (Em.lo x = Em.lo x) && true) && (decide (Em.id x = Em.id x) && (decide (Em.block x = Em.block x) && true)))))) = false,
      IntKind.wrap IntKind.i64 (Int.ofNat (i + (1 : Nat))) = Int.ofNat (i + (1 : Nat))] (by kernel_rfl)
    (by
      simp only [allP]
      and_intros <;> first
        | omega
        | with_reducible assumption
        | (simp; omega)
        | (simp [hx]; done)
        | exact i64_small (by simp; omega)
        | (simp [hp]; done)
        | (simp [hx, movE, hp]; done)
        | (simp [ba_refl]; done)
        | (simp; done)
        | decide)

theorem gbEnd (b t : Int) (l : List Em) (i : Nat) (h : l.length ≤ i) : CodeC Try.prog 0 101 gbB (gbS b t l i) (.exit 2) (gbS b t l i) :=
  runP hmix [.reg 18 [(3, [], some false)]] ⟨[1, 2, 8, 10, 13], [(800, 800), (802, 802)], []⟩ [
      decide (Int.ofNat i < Int.ofNat (List.length (List.map Em.row (List.map (movE b t) l)))) = false] (by kernel_rfl)
    (by
      simp only [allP]
      and_intros <;> first
        | omega
        | with_reducible assumption
        | (simp; omega)
        | (simp; done)
        | decide)

theorem gbLoop (b t : Int) (l : List Em) (hs : l.length ≤ 1000000000) : ∀ (m i : Nat), i + m = l.length → LoopC Try.prog 0 101 gbB (gbS b t l i) (.exit 2) (gbS b t l l.length)
  | 0, i, hi => by
    have : i = l.length := by omega
    subst this
    exact LoopC.last (gbEnd b t l _ (Nat.le_refl _)) (by simp)
  | m + 1, i, hi => by
    have hlt : i < l.length := by omega
    have hx : l[i]? = some l[i] := List.getElem?_eq_getElem hlt
    cases hp : l[i].block == b with
    | true => exact LoopC.next (gbHit b t l l[i] i hlt hx hs hp) (gbLoop b t l hs m (i + 1) (by omega))
    | false => exact LoopC.next (gbMiss b t l l[i] i hlt hx hs hp) (gbLoop b t l hs m (i + 1) (by omega))

theorem putsE_len (es : List Em) : (putsE es).length ≤ es.length := by
  have := foldl_len es []
  simpa [putsE] using this

theorem gone0 (es : List Em) (b t : Int) (h : es.length ≤ 60) (hbt : ¬ b = t) : Contract Try.prog 5 [.sl 6 (es.map Em.row), I b, I t] [] (Bo true) [] :=
  vcP hmix [.reg 2 [(5, [], some false), (10, [], some false)], .reg 4 [(1, [.call [] [] (.own 0) [some (.arr 6 ((putsE es).map Em.row))]], none)], .reg 5 [(2, [.call [] [] (.own 0) [some (.arr 6 ((keepE b (putsE es)).map Em.row))]], none)], .reg 6 [(3, [.call [] [] (.own 0) [some (.arr 6 (((putsE es).map (movE b t)).map Em.row))]], none)], .cut ⟨[1, 2, 8, 9, 10, 11, 12], [(802001, 800), (1003001, 801), (1204001, 802)], []⟩ (.exit 0) (gaS b t (putsE es) (keepE b (putsE es)).length (putsE es).length), .reg 15 [(3, [], some false), (9, [], some false)], .cut ⟨[1, 2, 8, 10, 13], [(800, 800), (802, 802)], []⟩ (.exit 2) (gbS b t (putsE es) (putsE es).length), .tab [(6, FAlive)]] [] [
      Contract Try.prog (6 : Nat) [] [] (Bo true) [],
      decide (Int.ofNat (List.length (List.map Em.row es)) > (60 : Int)) = false,
      (b == t) = false,
      Contract Try.prog (7 : Nat) [V.sl (6 : Nat) [], V.sl (6 : Nat) (List.map Em.row es)] [] (V.own (0 : Nat)) [some (Obj.arr (6 : Nat) (List.map Em.row (putsE es)))],
      Contract Try.prog (10 : Nat) [V.sl (6 : Nat) (List.map Em.row (putsE es)), I b] [] (V.own (0 : Nat)) [some (Obj.arr (6 : Nat) (List.map Em.row (keepE b (putsE es))))],
      true = true,
      FlatRows (List.map Em.row (keepE b (putsE es))),
      Contract Try.prog (12 : Nat) [V.sl (6 : Nat) (List.map Em.row (putsE es)), I b, I t] [] (V.own (0 : Nat)) [some (Obj.arr (6 : Nat) (List.map Em.row (List.map (movE b t) (putsE es))))],
      true = true,
      FlatRows (List.map Em.row (List.map (movE b t) (putsE es))),
      LoopC Try.prog (0 : Nat) (101 : Nat) gaB { env := [((1 : Nat), I b), ((2 : Nat), I t), ((8 : Nat), V.own (800 : Nat)), ((9 : Nat), V.own (801 : Nat)), ((10 : Nat), V.own (802 : Nat)), ((11 : Nat), I (0 : Int)), ((12 : Nat), I (0 : Int))], st := [((800 : Nat), Obj.arr (6 : Nat) (List.map Em.row (putsE es))), ((801 : Nat), Obj.arr (6 : Nat) (List.map Em.row (keepE b (putsE es)))), ((802 : Nat), Obj.arr (6 : Nat) (List.map Em.row (List.map (movE b t) (putsE es))))], ids := [(800 : Nat), (801 : Nat), (802 : Nat)] } (Ex.exit (0 : Nat)) { env := [((1 : Nat), I b), ((2 : Nat), I t), ((8 : Nat), V.own (800 : Nat)), ((9 : Nat), V.own (801 : Nat)), ((10 : Nat), V.own (802 : Nat)), ((11 : Nat), I (Int.ofNat (List.length (keepE b (putsE es))))), ((12 : Nat), I (Int.ofNat (List.length (putsE es))))], st := [((800 : Nat), Obj.arr (6 : Nat) (List.map Em.row (putsE es))), ((801 : Nat), Obj.arr (6 : Nat) (List.map Em.row (keepE b (putsE es)))), ((802 : Nat), Obj.arr (6 : Nat) (List.map Em.row (List.map (movE b t) (putsE es))))], ids := [(800 : Nat), (801 : Nat), (802 : Nat)] },
      (Int.ofNat (List.length (keepE b (putsE es))) != Int.ofNat (List.length (List.map Em.row (keepE b (putsE es))))) = false,
      (Int.ofNat (List.length (List.map Em.row (List.map (movE b t) (putsE es)))) != Int.ofNat (List.length (List.map Em.row (putsE es)))) = false,
      LoopC Try.prog (0 : Nat) (101 : Nat) gbB { env := [((1 : Nat), I b), ((2 : Nat), I t), ((8 : Nat), V.own (800 : Nat)), ((10 : Nat), V.own (802 : Nat)), ((13 : Nat), I (0 : Int))], st := [((800 : Nat), Obj.arr (6 : Nat) (List.map Em.row (putsE es))), ((802 : Nat), Obj.arr (6 : Nat) (List.map Em.row (List.map (movE b t) (putsE es))))], ids := [(800 : Nat), (802 : Nat)] } (Ex.exit (2 : Nat)) { env := [((1 : Nat), I b), ((2 : Nat), I t), ((8 : Nat), V.own (800 : Nat)), ((10 : Nat), V.own (802 : Nat)), ((13 : Nat), I (Int.ofNat (List.length (putsE es))))], st := [((800 : Nat), Obj.arr (6 : Nat) (List.map Em.row (putsE es))), ((802 : Nat), Obj.arr (6 : Nat) (List.map Em.row (List.map (movE b t) (putsE es))))], ids := [(800 : Nat), (802 : Nat)] }] (by kernel_rfl)
    (by
      simp only [allP]
      and_intros <;> first
        | omega
        | with_reducible assumption
        | exact cAlive
        | exact cPuts [] es (by simp; omega)
        | exact cDrop _ _ (by have := putsE_len es; omega)
        | exact cMove _ _ _ (by have := putsE_len es; omega)
        | exact flatRow _
        | exact gaLoop b t _ (by have := putsE_len es; omega) (putsE es).length 0 0 (by omega) (by simp [keepE])
        | exact gbLoop b t _ (by have := putsE_len es; omega) (putsE es).length 0 (by omega)
        | (simp; omega)
        | (simp; done)
        | decide)

theorem goneA (es : List Em) (b t : Int) (h : 60 < es.length) : Contract Try.prog 5 [.sl 6 (es.map Em.row), I b, I t] [] (Bo true) [] :=
  vcP hmix [.reg 2 [(5, [], some true)], .tab [(6, FAlive)]] [] [
      Contract Try.prog (6 : Nat) [] [] (Bo true) [],
      decide (Int.ofNat (List.length (List.map Em.row es)) > (60 : Int)) = true] (by kernel_rfl)
    (by
      simp only [allP]
      and_intros <;> first
        | omega
        | with_reducible assumption
        | exact cAlive
        | (simp; omega)
        | (simp; done)
        | decide)

theorem goneB (es : List Em) (b t : Int) (h : es.length ≤ 60) (hbt : b = t) : Contract Try.prog 5 [.sl 6 (es.map Em.row), I b, I t] [] (Bo true) [] :=
  vcP hmix [.reg 2 [(5, [], some false), (10, [], some true)], .tab [(6, FAlive)]] [] [
      Contract Try.prog (6 : Nat) [] [] (Bo true) [],
      decide (Int.ofNat (List.length (List.map Em.row es)) > (60 : Int)) = false,
      (b == t) = true] (by kernel_rfl)
    (by
      simp only [allP]
      and_intros <;> first
        | omega
        | with_reducible assumption
        | exact cAlive
        | (simp; omega)
        | (simp; done)
        | decide)

theorem cGone (es : List Em) (b t : Int) : Contract Try.prog 5 [.sl 6 (es.map Em.row), I b, I t] [] (Bo true) [] := by
  by_cases h1 : 60 < es.length
  · exact goneA es b t h1
  by_cases h2 : b = t
  · exact goneB es b t (by omega) h2
  exact gone0 es b t (by omega) h2

theorem typed_em {r : List V} {d : Nat} (h : Typed Try.prog (d + 3) 29 r) : ∃ e : Em, r = e.row := by
  obtain ⟨_, _, rfl, h0, _, _, rfl, h1, _, _, rfl, h2, _, _, rfl, h3, _, _, rfl, h4, rfl⟩ :
    catFields (Typed Try.prog (d + 2)) [⟨"Service", 9, 0, false, "", "", 0⟩, ⟨"Op", 9, 1, false, "", "", 16⟩, ⟨"Trace", 27, 2, false, "", "", 32⟩, ⟨"Id", 25, 4, false, "", "", 48⟩, ⟨"Block", 3, 5, false, "", "", 56⟩] r := typed_struct Try.underlying29 h
  obtain ⟨_, _, rfl, g0, _, _, rfl, g1, rfl⟩ : catFields (Typed Try.prog (d + 1)) [⟨"Hi", 25, 0, false, "", "", 0⟩, ⟨"Lo", 25, 1, false, "", "", 8⟩] _ := typed_struct Try.underlying27 h2
  obtain ⟨svc, rfl, _⟩ := typed_string Try.underlying9 h0
  obtain ⟨op, rfl, _⟩ := typed_string Try.underlying9 h1
  obtain ⟨hi, rfl, _⟩ := typed_int Try.underlying25 g0
  obtain ⟨lo, rfl, _⟩ := typed_int Try.underlying25 g1
  obtain ⟨id, rfl, _⟩ := typed_int Try.underlying25 h3
  obtain ⟨bl, rfl, _⟩ := typed_int Try.underlying3 h4
  exact ⟨Em.mk svc op hi lo id bl, rfl⟩

theorem typed_ems {rows : List (List V)} (h : ∀ r ∈ rows, ∃ e : Em, r = e.row) : ∃ es : List Em, rows = es.map Em.row := by
  induction rows with
  | nil => exact ⟨[], rfl⟩
  | cons r rows ih =>
    obtain ⟨e, rfl⟩ := h r (by simp)
    obtain ⟨es, rfl⟩ := ih fun r hr => h r (by simp [hr])
    exact ⟨e :: es, rfl⟩

theorem own : ownKnob Try.prog.godebug = none := by kernel_rfl
theorem laidOut : laidOutB Try.prog = true := by kernel_rfl

theorem gone_lifted (os : Os) (started : os.Started) (H : Type) (enc : TypeId × Value → H) :
    ReturnsInHanded {} Try.checked os 5 .any (Rows.slotsGoneSpec.pre6 enc Try.prog Try.f5 Rows.slotsGoneRow.domain false) (Rows.slotsGoneSpec.post enc Try.prog Try.f5 false true false false) := by
  refine returnsInHanded_of_change (C := Try.checked) own started (by kernel_rfl) Try.func5
    (ChangeSpec.witness6 (enc := enc) (C := Try.checked) false ⟨#[], #[.slice none 0 0, .int .i64 0, .int .i64 0], []⟩ 8 (by kernel_rfl) (by kernel_rfl) (by kernel_rfl) (by kernel_rfl)) ?_
  intro W base args ds gs before hval hW _ _
  refine row_of (P := Try.prog) (tb := 4) laidOut rfl (by kernel_rfl) (by kernel_rfl) (by kernel_rfl) Try.underlying4 (fun ds h => ?_) (fun us h => ?_) W base args ds gs before hval hW
  · match ds, h with
    | [_, _, _], _ => rfl
  · obtain ⟨u0, _, rfl, h0, u1, _, rfl, h1, u2, _, rfl, h2, rfl⟩ := h
    obtain ⟨rows, rfl, _, hr⟩ := arg_slice Try.underlying23 h0
    obtain ⟨b, rfl, _⟩ := arg_int Try.underlying3 h1
    obtain ⟨t, rfl, _⟩ := arg_int Try.underlying3 h2
    obtain ⟨es, rfl⟩ := typed_ems fun r h => typed_em (hr r h)
    exact cGone es b t

theorem SlotsGone_proved : Rows.SlotsGoneSaid :=
  OpenClaim.holds_of_wide 5 Try.f5 rfl rfl rfl rfl rfl rfl rfl ⟨rfl, rfl, rfl, rfl, rfl⟩ rfl rfl rfl rfl rfl (by kernel_rfl) Try.func5 (by kernel_rfl)
    (of_decide_eq_true (by kernel_rfl)) (by unfold Func.isWrapper; first | (rw [if_pos (by decide +kernel)]; kernel_rfl) | (rw [if_neg (by decide +kernel)]; exact ⟨rfl, rfl⟩))
    (fun os started H enc _ => gone_lifted os started H enc)
#print axioms SlotsGone_proved
end Go.Proofs.Ytemjhlmdiicdcaa
