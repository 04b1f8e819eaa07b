/- copies of episodes. -/
import Derived.Test.YtfpdlamjlbpmkaaEpA
namespace Go.Proofs.Ytfpdlamjlbpmkaa
open E
set_option maxRecDepth 100000
set_option linter.unusedVariables false
set_option linter.unusedSimpArgs false


/-- Small enough to be copied. -/
def smS (s : Sp) : Prop := s.attrs.length ≤ 1000000
def smE (e : Ep) : Prop := e.spans.length ≤ 1000000 ∧ ∀ s ∈ e.spans, smS s
def scS (l : List Sp) (i : Nat) : SL := ⟨[(0, .own 0), (7, I (l.length : Int)), (8, I (i : Int))], [(0, .arr 10 (l.map Sp.row))], [0]⟩
def ecS (l R : List Ep) (i : Nat) : SL := ⟨[(3, .own 0), (6, .sl 6 (l.map Ep.row)), (7, I (l.length : Int)), (8, I (i : Int))], [(0, .arr 6 (R.map Ep.row))], [0]⟩
noncomputable def scB : Code := codeAt Try.prog 40 [true, true, false, true, false, false]

noncomputable def ecB : Code := codeAt Try.prog 28 [true, true, false, true, false, false]

theorem set_same {α β : Type} {l : List α} {f : α → β} {i : Nat} {x : α} (h : l[i]? = some x) : (l.map f).set i (f x) = l.map f := by
  obtain ⟨h1, h2⟩ := List.getElem?_eq_some_iff.1 h
  rw [← List.map_set, ← h2, List.set_getElem_self]
theorem clfNil_0 (c : Nat)  : Contract Try.prog 45 [.val (.slice none 0 c)] [] (V.sl (2 : Nat) []) ([]) :=
  vcP hmix [.reg 2 [(0, [.idx 2, .idx 1], none)]] [] [
      ] (by kernel_rfl)
    trivial

theorem clfNil (c : Nat)  : Contract Try.prog 45 [.val (.slice none 0 c)] [] (.sl 2 []) [] := by
  exact Contract.cast (by
    first
      | rfl) (by
    first
      | rfl) (clfNil_0 c  )

theorem clfVal_0 (A : Addr) (c : Nat)  : Contract Try.prog 45 [.val (.slice (some A) 0 c)] [] (V.sl (2 : Nat) []) ([]) :=
  vcP hmix [.reg 3 [(3, [.idx 1], none)]] [] [
      (0 : Nat) ≤ (140737488355328 : Nat)] (by kernel_rfl)
    (by
      simp only [allP]
      and_intros <;> first
        | omega)

theorem clfVal (A : Addr) (c : Nat)  : Contract Try.prog 45 [.val (.slice (some A) 0 c)] [] (.sl 2 []) [] := by
  exact Contract.cast (by
    first
      | rfl) (by
    first
      | rfl) (clfVal_0 A c  )

theorem clfCons_0 (rows : List (List V)) (h : rows ≠ []) (hb : rows.length ≤ 1000000) : Contract Try.prog 45 [.sl 2 rows] [] (V.sl (2 : Nat) rows) ([]) :=
  vcP hmix [.reg 3 [(3, [.idx 1], none)]] [] [
      rows ≠ [],
      ((0 : Nat) + List.length rows) * (32 : Nat) ≤ (140737488355328 : Nat)] (by kernel_rfl)
    (by
      simp only [allP]
      and_intros <;> first
        | omega)

theorem clfCons (rows : List (List V)) (h : rows ≠ []) (hb : rows.length ≤ 1000000) : Contract Try.prog 45 [.sl 2 rows] [] (.sl 2 rows) [] := by
  exact Contract.cast (by
    first
      | rfl) (by
    first
      | rfl) (clfCons_0 rows h hb )

theorem clf (rows : List (List V)) (hb : rows.length ≤ 1000000) : Contract Try.prog 45 [.sl 2 rows] [] (.sl 2 rows) [] := by
  by_cases h : rows = []
  · subst h
    exact Contract.slNil clfNil clfVal
  · exact clfCons rows h hb

theorem sc_0 (l : List Sp) (x : Sp) (i : Nat) (hx : l[i]? = some x) (hs : l.length ≤ 1000000) (hm : smS x) : CodeC Try.prog 0 23 scB (scS l i) (Ex.normal) ({ env := [((0 : Nat), V.own (0 : Nat)), ((7 : Nat), I (Int.ofNat (List.length l))), ((8 : Nat), I (Int.ofNat (i + (1 : Nat))))], st := [((0 : Nat), Obj.arr (10 : Nat) (List.map Sp.row l))], ids := [(0 : Nat)] }) :=
  runP hmix [.reg 3 [(0, [], some true)], .reg 5 [(6, [.row (Sp.row x)], none), (7, [.call [] [] (.sl 2 (x.attrs.map At.row)) []], none), (10, [.row (Sp.row x), .beO (l.map Sp.row)], none)], .reg 6 [(0, [.be (I ((i + 1 : Nat) : Int))], none)]] ⟨[0, 7, 8], [(0, 0)], []⟩ [
      decide (Int.ofNat i < Int.ofNat (List.length l)) = true,
      (0 : Int) ≤ Int.ofNat i,
      Int.ofNat i < Int.ofNat (List.length (List.map Sp.row l)),
      (List.map Sp.row l)[i]? = some (Sp.row x),
      Contract Try.prog (45 : Nat) [V.sl (2 : Nat) (List.map At.row (Sp.attrs x))] [] (V.sl (2 : Nat) (List.map At.row (Sp.attrs x))) [],
      (0 : Int) ≤ Int.ofNat i,
      Int.ofNat i < Int.ofNat (List.length (List.map Sp.row l)),
      (List.map Sp.row l)[i]? = some (Sp.row x),
      List.set (List.map Sp.row l) i [V.val (Value.int IntKind.u64 (Sp.hi x)), V.val (Value.int IntKind.u64 (Sp.lo x)), V.val (Value.int IntKind.u64 (Sp.id x)), V.val (Value.int IntKind.u64 (Sp.par x)), Sg (Sp.svc x), Sg (Sp.op x), I (Sp.start x), I (Sp.dur x), Bo (Sp.err x), V.sl (2 : Nat) (List.map At.row (Sp.attrs x))] = List.map Sp.row l,
      IntKind.wrap IntKind.i64 (Int.ofNat (i + (1 : Nat))) = Int.ofNat (i + (1 : Nat))] (by kernel_rfl)
    (by
      simp only [allP]
      and_intros <;> first
        | (have q := (List.getElem?_eq_some_iff.1 hx).1; simp; omega)
        | (simp [hx]; done)
        | (have q := (List.getElem?_eq_some_iff.1 hx).1; exact i64_small (by simp; omega))
        | exact clf _ (by rw [List.length_map]; exact hm)
        | exact set_same hx)

theorem sc (l : List Sp) (x : Sp) (i : Nat) (hx : l[i]? = some x) (hs : l.length ≤ 1000000) (hm : smS x)  : CodeC Try.prog 0 23 scB (scS l i) .normal (scS l (i + 1)) := by
  exact CodeC.cast (by
    first
      | rfl) (sc_0 l x i hx hs hm )

theorem scE_0 (l : List Sp) (i : Nat) (h : l.length ≤ i) : CodeC Try.prog 0 23 scB (scS l i) (Ex.exit (0 : Nat)) ({ env := [((0 : Nat), V.own (0 : Nat)), ((7 : Nat), I (Int.ofNat (List.length l))), ((8 : Nat), I (Int.ofNat i))], st := [((0 : Nat), Obj.arr (10 : Nat) (List.map Sp.row l))], ids := [(0 : Nat)] }) :=
  runP hmix [.reg 3 [(0, [], some false)]] ⟨[0, 7, 8], [(0, 0)], []⟩ [
      decide (Int.ofNat i < Int.ofNat (List.length l)) = false] (by kernel_rfl)
    (by
      simp only [allP]
      and_intros <;> first
        | (simp; omega))

theorem scE (l : List Sp) (i : Nat) (h : l.length ≤ i)  : CodeC Try.prog 0 23 scB (scS l i) (.exit 0) (scS l i) := by
  exact CodeC.cast (by
    first
      | rfl) (scE_0 l i h )

theorem clnSNil (c : Nat) : Contract Try.prog 44 [.val (.slice none 0 c)] [] (.own 0) [some (.arr 10 [])] :=
  vcP hmix [.reg 2 [(0, [.idx 10], none)]] [401000] [
      ] (by kernel_rfl)
    trivial

theorem clnSVal (A : Addr) (c : Nat) : Contract Try.prog 44 [.val (.slice (some A) 0 c)] [] (.own 0) [some (.arr 10 [])] :=
  vcP hmix [] [603000] [
      (0 : Nat) ≤ (140737488355328 : Nat)] (by kernel_rfl)
    (by
      simp only [allP]
      and_intros <;> first
        | omega)

theorem clnSCons (rows : List (List V)) (h : rows ≠ []) (hb : rows.length * 112 ≤ 140737488355328) : Contract Try.prog 44 [.sl 10 rows] [] (.own 0) [some (.arr 10 rows)] :=
  vcP hmix [] [603000] [
      rows ≠ [],
      ((0 : Nat) + List.length rows) * (112 : Nat) ≤ (140737488355328 : Nat)] (by kernel_rfl)
    (by
      simp only [allP]
      and_intros <;> first
        | omega)

theorem clnS (rows : List (List V)) (hb : rows.length * 112 ≤ 140737488355328) : Contract Try.prog 44 [.sl 10 rows] [] (.own 0) [some (.arr 10 rows)] := by
  by_cases h : rows = []
  · subst h
    exact Contract.slNil clnSNil clnSVal
  · exact clnSCons rows h hb

end Go.Proofs.Ytfpdlamjlbpmkaa
