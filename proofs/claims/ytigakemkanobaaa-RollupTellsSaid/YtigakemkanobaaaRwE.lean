/- rollup: rows of spans, the same rows, rows in order. -/
import Derived.Test.YtigakemkanobaaaRwD
namespace Go.Proofs.Ytigakemkanobaaa
open E
set_option maxRecDepth 100000
set_option linter.unusedVariables false
set_option linter.unusedSimpArgs false


def lessR (a b : Rw) : Bool := bif a.lev != b.lev then decide (a.lev < b.lev) else bif a.win != b.win then decide (a.win < b.win) else bif !(a.svc.toList == b.svc.toList) then ltS a.svc b.svc else ltS a.op b.op
/-- Whether a row's neighbour stands wrong. -/
def badO (l : List Rw) (j : Nat) (y : Rw) : Bool := match l[j + 1]? with
  | some x => !lessR y x
  | none => false
def ordB (l : List Rw) : Bool := !((List.range l.length).any fun j => match l[j]? with
  | some y => badO l j y
  | none => false)
def rowsR (l : List Sp) (m : Int) : List Rw := l.foldl (fun x s => addR x s m) []
def rwS (l : List Sp) (m : Int) (x : List Rw) (i : Nat) : SL := ⟨[(0, .sl 10 (l.map Sp.row)), (1, I m), (5, .own 900), (6, I (i : Int))], [(900, .arr 14 (x.map Rw.row))], [900]⟩
def ssS (l : List Rw) (i : Nat) : SL := ⟨[(0, .sl 14 (l.map Rw.row)), (1, .sl 14 (l.map Rw.row)), (5, I (i : Int))], [], []⟩
def orS (l : List Rw) (r : Bool) (j : Nat) : SL := ⟨[(0, .sl 14 (l.map Rw.row)), (2, Bo r), (3, I ((j + 1 : Nat) : Int))], [], []⟩
def FLess : List V → Option V := fun _ => none
noncomputable def rwB : Code := codeAt Try.prog 10 [true, true, false, true, false, false]

noncomputable def ssB : Code := codeAt Try.prog 11 [true, true, false, true, false, false]

noncomputable def orB : Code := codeAt Try.prog 12 [true, false, true, false, false]

theorem cLess_0 (a b : Rw)  (tq0 : (Rw.lev a != Rw.lev b) = true) : Contract Try.prog 26 [a.v, b.v] [] (Bo (decide (Rw.lev a < Rw.lev b))) ([]) :=
  vcP hmix [.reg 1 [(5, [], some true)]] [] [
      (Rw.lev a != Rw.lev b) = true] (by kernel_rfl)
    (by
      have d0 := tq0
      try simp only [Int.ofNat_eq_natCast, List.length_map, Bool.not_eq_true', Bool.not_eq_false', decide_eq_true_eq, decide_eq_false_iff_not] at d0
      simp only [allP]
      and_intros <;> first
        | omega)

theorem cLess_1 (a b : Rw)  (tq0 : (Rw.lev a != Rw.lev b) = false) (tq1 : (Rw.win a != Rw.win b) = true) : Contract Try.prog 26 [a.v, b.v] [] (Bo (decide (Rw.win a < Rw.win b))) ([]) :=
  vcP hmix [.reg 1 [(5, [], some false)], .reg 3 [(5, [], some true)]] [] [
      (Rw.lev a != Rw.lev b) = false,
      (Rw.win a != Rw.win b) = true] (by kernel_rfl)
    (by
      have d0 := tq0
      have d1 := tq1
      try simp only [Int.ofNat_eq_natCast, List.length_map, Bool.not_eq_true', Bool.not_eq_false', decide_eq_true_eq, decide_eq_false_iff_not] at d0 d1
      simp only [allP]
      and_intros <;> first
        | omega)

theorem cLess_2 (a b : Rw)  (tq0 : (Rw.lev a != Rw.lev b) = false) (tq1 : (Rw.win a != Rw.win b) = false) (tq2 : (!ByteArray.toList (Rw.svc a) == ByteArray.toList (Rw.svc b)) = true) : Contract Try.prog 26 [a.v, b.v] [] (Bo (Op.bytesLess (ByteArray.toList (Rw.svc a)) (ByteArray.toList (Rw.svc b)))) ([]) :=
  vcP hmix [.reg 1 [(5, [], some false)], .reg 3 [(5, [], some false)], .reg 5 [(5, [], some true)]] [] [
      (Rw.lev a != Rw.lev b) = false,
      (Rw.win a != Rw.win b) = false,
      (!ByteArray.toList (Rw.svc a) == ByteArray.toList (Rw.svc b)) = true] (by kernel_rfl)
    (by
      have d0 := tq0
      have d1 := tq1
      have d2 := tq2
      try simp only [Int.ofNat_eq_natCast, List.length_map, Bool.not_eq_true', Bool.not_eq_false', decide_eq_true_eq, decide_eq_false_iff_not] at d0 d1 d2
      simp only [allP]
      and_intros <;> first
        | omega)

theorem cLess_3 (a b : Rw)  (tq0 : (Rw.lev a != Rw.lev b) = false) (tq1 : (Rw.win a != Rw.win b) = false) (tq2 : (!ByteArray.toList (Rw.svc a) == ByteArray.toList (Rw.svc b)) = false) : Contract Try.prog 26 [a.v, b.v] [] (Bo (Op.bytesLess (ByteArray.toList (Rw.op a)) (ByteArray.toList (Rw.op b)))) ([]) :=
  vcP hmix [.reg 1 [(5, [], some false)], .reg 3 [(5, [], some false)], .reg 5 [(5, [], some false)]] [] [
      (Rw.lev a != Rw.lev b) = false,
      (Rw.win a != Rw.win b) = false,
      (!ByteArray.toList (Rw.svc a) == ByteArray.toList (Rw.svc b)) = false] (by kernel_rfl)
    (by
      have d0 := tq0
      have d1 := tq1
      have d2 := tq2
      try simp only [Int.ofNat_eq_natCast, List.length_map, Bool.not_eq_true', Bool.not_eq_false', decide_eq_true_eq, decide_eq_false_iff_not] at d0 d1 d2
      simp only [allP]
      and_intros <;> first
        | omega)

theorem cLess (a b : Rw)  : Contract Try.prog 26 [a.v, b.v] [] (Bo (lessR a b)) [] := by
  rcases tf (Rw.lev a != Rw.lev b) with tq0 | tq0
  · exact Contract.cast (by
      first
        | (simp only [lessR, tq0, cond_true, cond_false]; done)) (by
      first
        | rfl) (cLess_0 a b  tq0)
  · rcases tf (Rw.win a != Rw.win b) with tq1 | tq1
    · exact Contract.cast (by
        first
          | (simp only [lessR, tq0, tq1, cond_true, cond_false]; done)) (by
        first
          | rfl) (cLess_1 a b  tq0 tq1)
    · rcases tf (!ByteArray.toList (Rw.svc a) == ByteArray.toList (Rw.svc b)) with tq2 | tq2
      · exact Contract.cast (by
          first
            | (simp only [lessR, tq0, tq1, tq2, cond_true, cond_false]; rfl)) (by
          first
            | rfl) (cLess_2 a b  tq0 tq1 tq2)
      · exact Contract.cast (by
          first
            | (simp only [lessR, tq0, tq1, tq2, cond_true, cond_false]; rfl)) (by
          first
            | rfl) (cLess_3 a b  tq0 tq1 tq2)

theorem rw_0 (l : List Sp) (m : Int) (x : List Rw) (s : Sp) (i : Nat) (h : i < l.length) (hx : l[i]? = some s) (hs : l.length ≤ 1000000) (hl : x.length ≤ 1000000) (ha : s.attrs.length ≤ 1000000000) : CodeC Try.prog 0 21 rwB (rwS l m x i) (Ex.normal) ({ env := [((0 : Nat), V.sl (10 : Nat) (List.map Sp.row l)), ((1 : Nat), I m), ((5 : Nat), V.own (900 : Nat)), ((6 : Nat), I (Int.ofNat (i + (1 : Nat))))], st := [((900 : Nat), Obj.arr (14 : Nat) (List.map Rw.row (addR x s m)))], ids := [(900 : Nat)] }) :=
  runP hmix [.reg 3 [(3, [], some true)], .reg 5 [(4, [.row (Sp.row s)], none), (6, [.call [] [] (.own 0) [some (.arr 14 ((addR x s m).map Rw.row))]], none)], .reg 4 [(1, [.be (I ((i + 1 : Nat) : Int))], none)]] ⟨[0, 1, 5, 6], [(1007001, 900)], []⟩ [
      decide (Int.ofNat i < Int.ofNat (List.length (List.map Sp.row l))) = true,
      (0 : Int) ≤ Int.ofNat i,
      Int.ofNat i < Int.ofNat (List.length (List.map Sp.row l)),
      (List.map Sp.row l)[i]? = some (Sp.row s),
      Contract Try.prog (19 : Nat) [V.sl (14 : Nat) (List.map Rw.row x), V.agg [V.val (Value.int IntKind.u64 (Sp.hi s)), V.val (Value.int IntKind.u64 (Sp.lo s)), V.val (Value.int IntKind.u64 (Sp.id s)), V.val (Value.int IntKind.u64 (Sp.par s)), Sg (Sp.svc s), Sg (Sp.op s), I (Sp.start s), I (Sp.dur s), Bo (Sp.err s), V.sl (2 : Nat) (List.map At.row (Sp.attrs s))], I m] [] (V.own (0 : Nat)) [some (Obj.arr (14 : Nat) (List.map Rw.row (addR x s m)))],
      true = true,
      FlatRows (List.map Rw.row (addR x s m)),
      IntKind.wrap IntKind.i64 (Int.ofNat (i + (1 : Nat))) = Int.ofNat (i + (1 : Nat))] (by kernel_rfl)
    (by
      simp only [allP]
      and_intros <;> first
        | (simp; omega)
        | (simp [hx]; done)
        | exact cAdd x s m hl ha
        | exact flatRw _
        | exact i64_small (by simp; omega))

theorem rw (l : List Sp) (m : Int) (x : List Rw) (s : Sp) (i : Nat) (h : i < l.length) (hx : l[i]? = some s) (hs : l.length ≤ 1000000) (hl : x.length ≤ 1000000) (ha : s.attrs.length ≤ 1000000000)  : CodeC Try.prog 0 21 rwB (rwS l m x i) .normal (rwS l m (addR x s m) (i + 1)) := by
  exact CodeC.cast (by
    first
      | rfl) (rw_0 l m x s i h hx hs hl ha )

theorem rwE_0 (l : List Sp) (m : Int) (x : List Rw) (i : Nat) (h : l.length ≤ i) : CodeC Try.prog 0 21 rwB (rwS l m x i) (Ex.exit (0 : Nat)) ({ env := [((0 : Nat), V.sl (10 : Nat) (List.map Sp.row l)), ((1 : Nat), I m), ((5 : Nat), V.own (900 : Nat)), ((6 : Nat), I (Int.ofNat i))], st := [((900 : Nat), Obj.arr (14 : Nat) (List.map Rw.row x))], ids := [(900 : Nat)] }) :=
  runP hmix [.reg 3 [(3, [], some false)]] ⟨[0, 1, 5, 6], [(900, 900)], []⟩ [
      decide (Int.ofNat i < Int.ofNat (List.length (List.map Sp.row l))) = false] (by kernel_rfl)
    (by
      simp only [allP]
      and_intros <;> first
        | (simp; omega))

theorem rwE (l : List Sp) (m : Int) (x : List Rw) (i : Nat) (h : l.length ≤ i)  : CodeC Try.prog 0 21 rwB (rwS l m x i) (.exit 0) (rwS l m x i) := by
  exact CodeC.cast (by
    first
      | rfl) (rwE_0 l m x i h )

theorem rows0_0 (l : List Sp) (m : Int) (x : List Rw) (hl : LoopC Try.prog 0 21 rwB (rwS l m [] 0) (.exit 0) (rwS l m x l.length)) : Contract Try.prog 10 [.sl 10 (l.map Sp.row), I m] [] (V.own (0 : Nat)) ([some (Obj.arr (14 : Nat) (List.map Rw.row x))]) :=
  vcP hmix [.cut ⟨[0, 1, 5, 6], [], [.slot 5 900 14]⟩ (.exit 0) (rwS l m x l.length)] [900] [
      LoopC Try.prog (0 : Nat) (21 : Nat) rwB { env := [((0 : Nat), V.sl (10 : Nat) (List.map Sp.row l)), ((1 : Nat), I m), ((5 : Nat), V.own (900 : Nat)), ((6 : Nat), I (0 : Int))], st := [((900 : Nat), Obj.arr (14 : Nat) [])], ids := [(900 : Nat)] } (Ex.exit (0 : Nat)) { env := [((0 : Nat), V.sl (10 : Nat) (List.map Sp.row l)), ((1 : Nat), I m), ((5 : Nat), V.own (900 : Nat)), ((6 : Nat), I (Int.ofNat (List.length l)))], st := [((900 : Nat), Obj.arr (14 : Nat) (List.map Rw.row x))], ids := [(900 : Nat)] }] (by kernel_rfl)
    (by
      simp only [allP]
      and_intros <;> first
        | exact hl)

theorem rows0 (l : List Sp) (m : Int) (x : List Rw) (hl : LoopC Try.prog 0 21 rwB (rwS l m [] 0) (.exit 0) (rwS l m x l.length)) : Contract Try.prog 10 [.sl 10 (l.map Sp.row), I m] [] (.own 0) [some (.arr 14 (x.map Rw.row))] := by
  exact Contract.cast (by
    first
      | rfl) (by
    first
      | rfl) (rows0_0 l m x hl )

theorem rows_len (m : Int) : ∀ (l : List Sp) (x : List Rw), (l.foldl (fun x s => addR x s m) x).length ≤ x.length + 3 * l.length
  | [], x => by simp
  | s :: l, x => by
    have := rows_len m l (addR x s m)
    have := addR_len x s m
    simp only [List.foldl_cons, List.length_cons]; omega
theorem cRows (l : List Sp) (m : Int) (hs : l.length ≤ 100000) (ha : ∀ x ∈ l, x.attrs.length ≤ 1000000000) : Contract Try.prog 10 [.sl 10 (l.map Sp.row), I m] [] (.own 0) [some (.arr 14 ((rowsR l m).map Rw.row))] := by
  refine rows0 l m _ ?_
  exact LoopC.fold (P := Try.prog) (k := 0) (n := 21) (c := rwB) l (fun x s => addR x s m) (fun i x => x.length ≤ 3 * i) (fun x i => rwS l m x i) (e := .exit 0) (by simp)
    (fun i x s hx hi hv => ⟨rw l m x s i hi hx (by omega) (by omega) (ha s (List.mem_of_getElem? hx)), by have := addR_len x s m; omega⟩)
    (fun x _ => rwE l m x _ (Nat.le_refl _)) [] (by simp)
theorem rowsR_len (l : List Sp) (m : Int) : (rowsR l m).length ≤ 3 * l.length := by
  have := rows_len m l []
  simpa [rowsR] using this

theorem ss_0 (l : List Rw) (x : Rw) (i : Nat) (h : i < l.length) (hx : l[i]? = some x) (hs : l.length ≤ 1000000000) : CodeC Try.prog 0 26 ssB (ssS l i) (Ex.normal) ({ env := [((0 : Nat), V.sl (14 : Nat) (List.map Rw.row l)), ((1 : Nat), V.sl (14 : Nat) (List.map Rw.row l)), ((5 : Nat), I (Int.ofNat (i + (1 : Nat))))], st := [], ids := [] }) :=
  runP hmix [.reg 4 [(3, [], some true)], .reg 6 [(3, [.row (Rw.row x)], none), (7, [.row (Rw.row x)], none), (8, [], some false)], .reg 5 [(1, [.be (I ((i + 1 : Nat) : Int))], none)]] ⟨[0, 1, 5], [], []⟩ [
      decide (Int.ofNat i < Int.ofNat (List.length (List.map Rw.row l))) = true,
      (0 : Int) ≤ Int.ofNat i,
      Int.ofNat i < Int.ofNat (List.length (List.map Rw.row l)),
      (List.map Rw.row l)[i]? = some (Rw.row x),
      (0 : Int) ≤ Int.ofNat i,
      Int.ofNat i < Int.ofNat (List.length (List.map Rw.row l)),
      (List.map Rw.row l)[i]? = some (Rw.row x),
      (!(decide (Rw.lev x = Rw.lev x) && (decide (Rw.win x = Rw.win x) && (Rw.svc x == Rw.svc x && (Rw.op x == Rw.op x && (decide (Rw.c x (0 : Nat) = Rw.c x (0 : Nat)) && (decide (Rw.c x (1 : Nat) = Rw.c x (1 : Nat)) && (decide (Rw.c x (2 : Nat) = Rw.c x (2 : Nat)) && (decide (Rw.c x (3 : Nat) = Rw.c x (3 : Nat)) && (decide (Rw.c x (4 : Nat) = Rw.c x (4 : Nat)) && (decide (Rw.c x (5 : Nat) = Rw.c x (5 : Nat)) && (decide (Rw.c x (6 : Nat) = Rw.c x (6 : Nat)) && (decide (Rw.c x (7 : Nat) = Rw.c x (7 : Nat)) && (decide (Rw.c x (8 : Nat) = Rw.c x (8 : Nat)) && (decide (Rw.c x (9 : Nat) = Rw.c x (9 : Nat)) && true))))))) && true)) && true)))))) = false,
      IntKind.wrap IntKind.i64 (Int.ofNat (i + (1 : Nat))) = Int.ofNat (i + (1 : Nat))] (by kernel_rfl)
    (by
      simp only [allP]
      and_intros <;> first
        | (simp; omega)
        | (simp [hx]; done)
        | (simp [ba_refl]; done)
        | exact i64_small (by simp; omega))

theorem ss (l : List Rw) (x : Rw) (i : Nat) (h : i < l.length) (hx : l[i]? = some x) (hs : l.length ≤ 1000000000)  : CodeC Try.prog 0 26 ssB (ssS l i) .normal (ssS l (i + 1)) := by
  exact CodeC.cast (by
    first
      | rfl) (ss_0 l x i h hx hs )

theorem ssE_0 (l : List Rw) (i : Nat) (h : l.length ≤ i) : CodeC Try.prog 0 26 ssB (ssS l i) (Ex.exit (0 : Nat)) ({ env := [((0 : Nat), V.sl (14 : Nat) (List.map Rw.row l)), ((1 : Nat), V.sl (14 : Nat) (List.map Rw.row l)), ((5 : Nat), I (Int.ofNat i))], st := [], ids := [] }) :=
  runP hmix [.reg 4 [(3, [], some false)]] ⟨[0, 1, 5], [], []⟩ [
      decide (Int.ofNat i < Int.ofNat (List.length (List.map Rw.row l))) = false] (by kernel_rfl)
    (by
      simp only [allP]
      and_intros <;> first
        | (simp; omega))

theorem ssE (l : List Rw) (i : Nat) (h : l.length ≤ i)  : CodeC Try.prog 0 26 ssB (ssS l i) (.exit 0) (ssS l i) := by
  exact CodeC.cast (by
    first
      | rfl) (ssE_0 l i h )

theorem same0_0 (l : List Rw) (hl : LoopC Try.prog 0 26 ssB (ssS l 0) (.exit 0) (ssS l l.length)) : Contract Try.prog 11 [.sl 14 (l.map Rw.row), .sl 14 (l.map Rw.row)] [] (Bo true) ([]) :=
  vcP hmix [.reg 1 [(4, [], some false)], .cut ⟨[0, 1, 5], [], []⟩ (.exit 0) (ssS l l.length)] [] [
      (Int.ofNat (List.length (List.map Rw.row l)) != Int.ofNat (List.length (List.map Rw.row l))) = false,
      LoopC Try.prog (0 : Nat) (26 : Nat) ssB { env := [((0 : Nat), V.sl (14 : Nat) (List.map Rw.row l)), ((1 : Nat), V.sl (14 : Nat) (List.map Rw.row l)), ((5 : Nat), I (0 : Int))], st := [], ids := [] } (Ex.exit (0 : Nat)) { env := [((0 : Nat), V.sl (14 : Nat) (List.map Rw.row l)), ((1 : Nat), V.sl (14 : Nat) (List.map Rw.row l)), ((5 : Nat), I (Int.ofNat (List.length l)))], st := [], ids := [] }] (by kernel_rfl)
    (by
      simp only [allP]
      and_intros <;> first
        | exact hl
        | (simp; done))

theorem same0 (l : List Rw) (hl : LoopC Try.prog 0 26 ssB (ssS l 0) (.exit 0) (ssS l l.length)) : Contract Try.prog 11 [.sl 14 (l.map Rw.row), .sl 14 (l.map Rw.row)] [] (Bo true) [] := by
  exact Contract.cast (by
    first
      | rfl) (by
    first
      | rfl) (same0_0 l hl )

theorem cSame (l : List Rw) (hs : l.length ≤ 1000000000) : Contract Try.prog 11 [.sl 14 (l.map Rw.row), .sl 14 (l.map Rw.row)] [] (Bo true) [] := by
  refine same0 l ?_
  exact LoopC.fold (P := Try.prog) (k := 0) (n := 26) (c := ssB) l (fun (u : Unit) _ => u) (fun _ _ => True) (fun _ i => ssS l i) (e := .exit 0) (by simp)
    (fun i s x hx hi _ => ⟨ss l x i hi hx hs, trivial⟩) (fun s _ => ssE l _ (Nat.le_refl _)) () trivial

theorem or_0 (l : List Rw) (x y : Rw) (j : Nat) (h : j + 1 < l.length) (hy : l[j]? = some y) (hx : l[j + 1]? = some x) (hs : l.length ≤ 1000000000) (tq0 : (!lessR y x) = true) : CodeC Try.prog 0 21 orB (orS l false j) (Ex.ret) ({ env := [((0 : Nat), V.sl (14 : Nat) (List.map Rw.row l)), ((2 : Nat), Bo false), ((3 : Nat), I (Int.ofNat (j + (1 : Nat))))], st := [], ids := [] }) :=
  runP hmix [.reg 2 [(3, [], some true)], .reg 4 [(2, [.be (I (j : Int))], none), (4, [.row (Rw.row y)], none), (8, [.row (Rw.row x)], none), (9, [.call [] [] (Bo (lessR y x)) []], none), (10, [], some true)]] ⟨[0, 2, 3], [], []⟩ [
      decide (Int.ofNat (j + (1 : Nat)) < Int.ofNat (List.length (List.map Rw.row l))) = true,
      IntKind.wrap IntKind.i64 (Int.ofNat (j + (1 : Nat)) + (-1 : Int)) = Int.ofNat j,
      (0 : Int) ≤ Int.ofNat j,
      Int.ofNat j < Int.ofNat (List.length (List.map Rw.row l)),
      (List.map Rw.row l)[j]? = some (Rw.row y),
      (0 : Int) ≤ Int.ofNat (j + (1 : Nat)),
      Int.ofNat (j + (1 : Nat)) < Int.ofNat (List.length (List.map Rw.row l)),
      (List.map Rw.row l)[Int.toNat (Int.ofNat (j + (1 : Nat)))]? = some (Rw.row x),
      Contract Try.prog (26 : Nat) [V.agg [I (Rw.lev y), I (Rw.win y), Sg (Rw.svc y), Sg (Rw.op y), I (Rw.c y (0 : Nat)), I (Rw.c y (1 : Nat)), I (Rw.c y (2 : Nat)), I (Rw.c y (3 : Nat)), I (Rw.c y (4 : Nat)), I (Rw.c y (5 : Nat)), I (Rw.c y (6 : Nat)), I (Rw.c y (7 : Nat)), I (Rw.c y (8 : Nat)), I (Rw.c y (9 : Nat))], V.agg [I (Rw.lev x), I (Rw.win x), Sg (Rw.svc x), Sg (Rw.op x), I (Rw.c x (0 : Nat)), I (Rw.c x (1 : Nat)), I (Rw.c x (2 : Nat)), I (Rw.c x (3 : Nat)), I (Rw.c x (4 : Nat)), I (Rw.c x (5 : Nat)), I (Rw.c x (6 : Nat)), I (Rw.c x (7 : Nat)), I (Rw.c x (8 : Nat)), I (Rw.c x (9 : Nat))]] [] (Bo (lessR y x)) [],
      (!lessR y x) = true] (by kernel_rfl)
    (by
      have d0 := tq0
      try simp only [Int.ofNat_eq_natCast, List.length_map, Bool.not_eq_true', Bool.not_eq_false', decide_eq_true_eq, decide_eq_false_iff_not] at d0
      simp only [allP]
      and_intros <;> first
        | omega
        | (simp; omega)
        | (simp [hx]; done)
        | (simp [hy]; done)
        | exact cLess _ _
        | (rw [i64_small (by simp; omega)]; simp; omega))

theorem or_1 (l : List Rw) (x y : Rw) (j : Nat) (h : j + 1 < l.length) (hy : l[j]? = some y) (hx : l[j + 1]? = some x) (hs : l.length ≤ 1000000000) (tq0 : (!lessR y x) = false) : CodeC Try.prog 0 21 orB (orS l false j) (Ex.normal) ({ env := [((0 : Nat), V.sl (14 : Nat) (List.map Rw.row l)), ((2 : Nat), Bo false), ((3 : Nat), I (Int.ofNat (j + (1 : Nat) + (1 : Nat))))], st := [], ids := [] }) :=
  runP hmix [.reg 2 [(3, [], some true)], .reg 4 [(2, [.be (I (j : Int))], none), (4, [.row (Rw.row y)], none), (8, [.row (Rw.row x)], none), (9, [.call [] [] (Bo (lessR y x)) []], none), (10, [], some false)], .reg 3 [(1, [.be (I ((j + 1 + 1 : Nat) : Int))], none)]] ⟨[0, 2, 3], [], []⟩ [
      decide (Int.ofNat (j + (1 : Nat)) < Int.ofNat (List.length (List.map Rw.row l))) = true,
      IntKind.wrap IntKind.i64 (Int.ofNat (j + (1 : Nat)) + (-1 : Int)) = Int.ofNat j,
      (0 : Int) ≤ Int.ofNat j,
      Int.ofNat j < Int.ofNat (List.length (List.map Rw.row l)),
      (List.map Rw.row l)[j]? = some (Rw.row y),
      (0 : Int) ≤ Int.ofNat (j + (1 : Nat)),
      Int.ofNat (j + (1 : Nat)) < Int.ofNat (List.length (List.map Rw.row l)),
      (List.map Rw.row l)[Int.toNat (Int.ofNat (j + (1 : Nat)))]? = some (Rw.row x),
      Contract Try.prog (26 : Nat) [V.agg [I (Rw.lev y), I (Rw.win y), Sg (Rw.svc y), Sg (Rw.op y), I (Rw.c y (0 : Nat)), I (Rw.c y (1 : Nat)), I (Rw.c y (2 : Nat)), I (Rw.c y (3 : Nat)), I (Rw.c y (4 : Nat)), I (Rw.c y (5 : Nat)), I (Rw.c y (6 : Nat)), I (Rw.c y (7 : Nat)), I (Rw.c y (8 : Nat)), I (Rw.c y (9 : Nat))], V.agg [I (Rw.lev x), I (Rw.win x), Sg (Rw.svc x), Sg (Rw.op x), I (Rw.c x (0 : Nat)), I (Rw.c x (1 : Nat)), I (Rw.c x (2 : Nat)), I (Rw.c x (3 : Nat)), I (Rw.c x (4 : Nat)), I (Rw.c x (5 : Nat)), I (Rw.c x (6 : Nat)), I (Rw.c x (7 : Nat)), I (Rw.c x (8 : Nat)), I (Rw.c x (9 : Nat))]] [] (Bo (lessR y x)) [],
      (!lessR y x) = false,
      IntKind.wrap IntKind.i64 (Int.ofNat (j + (1 : Nat) + (1 : Nat))) = Int.ofNat (j + (1 : Nat) + (1 : Nat))] (by kernel_rfl)
    (by
      have d0 := tq0
      try simp only [Int.ofNat_eq_natCast, List.length_map, Bool.not_eq_true', Bool.not_eq_false', decide_eq_true_eq, decide_eq_false_iff_not] at d0
      simp only [allP]
      and_intros <;> first
        | omega
        | (simp; omega)
        | (simp [hx]; done)
        | (simp [hy]; done)
        | exact cLess _ _
        | exact i64_small (by simp; omega)
        | (rw [i64_small (by simp; omega)]; simp; omega))

theorem orGo (l : List Rw) (x y : Rw) (j : Nat) (h : j + 1 < l.length) (hy : l[j]? = some y) (hx : l[j + 1]? = some x) (hs : l.length ≤ 1000000000) (hb : lessR y x = true) : CodeC Try.prog 0 21 orB (orS l false j) .normal (orS l false (j + 1)) := by
  rcases tf (!lessR y x) with tq0 | tq0
  · exact absurd hb (by
      first
        | ((try simp only [Int.ofNat_eq_natCast, List.length_map, Bool.not_eq_true', Bool.not_eq_false', decide_eq_true_eq, decide_eq_false_iff_not] at tq0); simp [tq0]; done))
  · exact CodeC.cast (by
      first
        | rfl) (or_1 l x y j h hy hx hs tq0)

theorem orStop (l : List Rw) (x y : Rw) (j : Nat) (h : j + 1 < l.length) (hy : l[j]? = some y) (hx : l[j + 1]? = some x) (hs : l.length ≤ 1000000000) (hb : lessR y x = false) : CodeC Try.prog 0 21 orB (orS l false j) .ret (orS l false j) := by
  rcases tf (!lessR y x) with tq0 | tq0
  · exact CodeC.cast (by
      first
        | rfl) (or_0 l x y j h hy hx hs tq0)
  · exact absurd hb (by
      first
        | ((try simp only [Int.ofNat_eq_natCast, List.length_map, Bool.not_eq_true', Bool.not_eq_false', decide_eq_true_eq, decide_eq_false_iff_not] at tq0); simp [tq0]; done))

theorem orE_0 (l : List Rw) (j : Nat) (h : l.length ≤ j + 1) : CodeC Try.prog 0 21 orB (orS l false j) (Ex.exit (0 : Nat)) ({ env := [((0 : Nat), V.sl (14 : Nat) (List.map Rw.row l)), ((2 : Nat), Bo false), ((3 : Nat), I (Int.ofNat (j + (1 : Nat))))], st := [], ids := [] }) :=
  runP hmix [.reg 2 [(3, [], some false)]] ⟨[0, 2, 3], [], []⟩ [
      decide (Int.ofNat (j + (1 : Nat)) < Int.ofNat (List.length (List.map Rw.row l))) = false] (by kernel_rfl)
    (by
      simp only [allP]
      and_intros <;> first
        | (simp; omega))

theorem orE (l : List Rw) (j : Nat) (h : l.length ≤ j + 1)  : CodeC Try.prog 0 21 orB (orS l false j) (.exit 0) (orS l false j) := by
  exact CodeC.cast (by
    first
      | rfl) (orE_0 l j h )

theorem ord1_0 (l : List Rw) (j : Nat) (hl : LoopC Try.prog 0 21 orB (orS l false 0) .ret (orS l false j)) : Contract Try.prog 12 [.sl 14 (l.map Rw.row)] [] (Bo false) ([]) :=
  vcP hmix [.cut ⟨[0, 2, 3], [], []⟩ .ret (orS l false j)] [] [
      LoopC Try.prog (0 : Nat) (21 : Nat) orB { env := [((0 : Nat), V.sl (14 : Nat) (List.map Rw.row l)), ((2 : Nat), Bo false), ((3 : Nat), I (1 : Int))], st := [], ids := [] } Ex.ret { env := [((0 : Nat), V.sl (14 : Nat) (List.map Rw.row l)), ((2 : Nat), Bo false), ((3 : Nat), I (Int.ofNat (j + (1 : Nat))))], st := [], ids := [] }] (by kernel_rfl)
    (by
      simp only [allP]
      and_intros <;> first
        | exact hl)

theorem ord1 (l : List Rw) (j : Nat) (hl : LoopC Try.prog 0 21 orB (orS l false 0) .ret (orS l false j)) : Contract Try.prog 12 [.sl 14 (l.map Rw.row)] [] (Bo false) [] := by
  exact Contract.cast (by
    first
      | rfl) (by
    first
      | rfl) (ord1_0 l j hl )

theorem ord2_0 (l : List Rw) (j : Nat) (hl : LoopC Try.prog 0 21 orB (orS l false 0) (.exit 0) (orS l false j)) : Contract Try.prog 12 [.sl 14 (l.map Rw.row)] [] (Bo true) ([]) :=
  vcP hmix [.cut ⟨[0, 2, 3], [], []⟩ (.exit 0) (orS l false j)] [] [
      LoopC Try.prog (0 : Nat) (21 : Nat) orB { env := [((0 : Nat), V.sl (14 : Nat) (List.map Rw.row l)), ((2 : Nat), Bo false), ((3 : Nat), I (1 : Int))], st := [], ids := [] } (Ex.exit (0 : Nat)) { env := [((0 : Nat), V.sl (14 : Nat) (List.map Rw.row l)), ((2 : Nat), Bo false), ((3 : Nat), I (Int.ofNat (j + (1 : Nat))))], st := [], ids := [] }] (by kernel_rfl)
    (by
      simp only [allP]
      and_intros <;> first
        | exact hl)

theorem ord2 (l : List Rw) (j : Nat) (hl : LoopC Try.prog 0 21 orB (orS l false 0) (.exit 0) (orS l false j)) : Contract Try.prog 12 [.sl 14 (l.map Rw.row)] [] (Bo true) [] := by
  exact Contract.cast (by
    first
      | rfl) (by
    first
      | rfl) (ord2_0 l j hl )

theorem ord_bad {l : List Rw} {j : Nat} {y : Rw} (h : l[j]? = some y) (hb : badO l j y = true) : ordB l = false := by
  unfold ordB
  rw [Bool.not_eq_false', List.any_eq_true]
  exact ⟨j, List.mem_range.2 (List.getElem?_eq_some_iff.1 h).1, by rw [h]; exact hb⟩
theorem ord_good {l : List Rw} (h : ∀ (j : Nat) (y : Rw), l[j]? = some y → badO l j y = false) : ordB l = true := by
  unfold ordB
  rw [Bool.not_eq_true', List.any_eq_false]
  intro j hj
  cases hx : l[j]? with
  | none => simp
  | some y => simp [h j y hx]
theorem ord_next {l : List Rw} (h : ordB l = true) {j : Nat} {x y : Rw} (hy : l[j]? = some y) (hx : l[j + 1]? = some x) : lessR y x = true := by
  cases hl : lessR y x with
  | true => rfl
  | false =>
    have : ordB l = false := ord_bad hy (by simp [badO, hx, hl])
    rw [this] at h; cases h
theorem cOrdered (l : List Rw) (hs : l.length ≤ 1000000000) : Contract Try.prog 12 [.sl 14 (l.map Rw.row)] [] (Bo (ordB l)) [] := by
  by_cases h0 : l.length = 0
  · have : ordB l = true := by simp [ordB, h0]
    rw [this]
    exact ord2 l 0 (LoopC.last (orE l 0 (by omega)) (by simp))
  · have hd : ∀ (i : Nat) (y : Rw), (l.take (l.length - 1))[i]? = some y → i + 1 < l.length ∧ l[i]? = some y := fun i y h => by
      have h1 := (List.getElem?_eq_some_iff.1 h).1
      simp at h1
      rw [List.getElem?_take_of_lt (by omega)] at h
      exact ⟨by omega, h⟩
    rcases LoopC.search (P := Try.prog) (k := 0) (n := 21) (c := orB) (l.take (l.length - 1)) (badO l) (fun j => orS l false j) (fun j => orS l false j) (e1 := .ret) (e2 := .exit 0) (by simp) (by simp)
      (fun j y hy _ hb => by
        obtain ⟨h1, h2⟩ := hd j y hy
        have hx : l[j + 1]? = some l[j + 1] := List.getElem?_eq_getElem h1
        simp [badO, hx] at hb
        exact orGo l _ y j h1 h2 hx hs hb)
      (fun j y hy _ hb => by
        obtain ⟨h1, h2⟩ := hd j y hy
        have hx : l[j + 1]? = some l[j + 1] := List.getElem?_eq_getElem h1
        simp [badO, hx] at hb
        exact orStop l _ y j h1 h2 hx hs hb)
      (orE l _ (by simp; omega)) with ⟨j, y, k1, k2, _, k4⟩ | ⟨k1, k2⟩
    · obtain ⟨h1, h2⟩ := hd j y k1
      rw [ord_bad h2 k2]
      exact ord1 l j k4
    · rw [ord_good fun j y hy => ?_]
      · exact ord2 l _ k2
      · by_cases hj : j + 1 < l.length
        · exact k1 j y (by rw [List.getElem?_take_of_lt (by omega)]; exact hy)
        · unfold badO
          rw [List.getElem?_eq_none (by omega)]
end Go.Proofs.Ytigakemkanobaaa
