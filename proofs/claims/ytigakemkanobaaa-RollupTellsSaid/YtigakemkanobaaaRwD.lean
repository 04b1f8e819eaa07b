/- rollup: a span is counted in all levels. -/
import Derived.Test.YtigakemkanobaaaRwC
namespace Go.Proofs.Ytigakemkanobaaa
open E
set_option maxRecDepth 100000
set_option linter.unusedVariables false
set_option linter.unusedSimpArgs false

def adS (l : List Rw) (s : Sp) (m : Int) (i : Nat) : SL := ⟨[(0, .own 900), (2, I m), (4, .ptr 901 0 0 0), (14, I (i : Int))], [(900, .arr 14 (l.map Rw.row)), (901, .box s.row)], [900, 901]⟩
noncomputable def adB : Code := codeAt Try.prog 19 [true, true, true, false, true, false, false]

theorem ad_0 (l : List Rw) (s : Sp) (m : Int) (i : Nat) (h : i < 3) (hs : l.length ≤ 1000000000) : CodeC Try.prog 0 33 adB (adS l s m i) (Ex.normal) ({ env := [((0 : Nat), V.own (900 : Nat)), ((2 : Nat), I m), ((4 : Nat), V.ptr (901 : Nat) (0 : Nat) (0 : Nat) (0 : Nat)), ((14 : Nat), I (Int.ofNat (i + (1 : Nat))))], st := [((900 : Nat), Obj.arr (14 : Nat) (List.map Rw.row (countR l { lev := Int.ofNat i, win := winW (Int.ofNat i) (Sp.start s), svc := Sp.svc s, op := Sp.op s, c := fun x0 => (0 : Int) } s m))), ((901 : Nat), Obj.box [V.val (Value.int IntKind.u64 (Sp.hi s)), V.val (Value.int IntKind.u64 (Sp.lo s)), V.val (Value.int IntKind.u64 (Sp.id s)), V.val (Value.int IntKind.u64 (Sp.par s)), Sg (Sp.svc s), Sg (Sp.op s), I (Sp.start s), I (Sp.dur s), Bo (Sp.err s), V.sl (2 : Nat) (List.map At.row (Sp.attrs s))])], ids := [(900 : Nat), (901 : Nat)] }) :=
  runP hmix [.reg 5 [(0, [], some true)], .reg 7 [(13, [.call [900] [] (.own 1) [none, some (.arr 14 ((countR l (keyR s (i : Int)) s m).map Rw.row))]], none)], .reg 8 [(0, [.be (I ((i + 1 : Nat) : Int))], none)], .tab [(33, FWinW)]] ⟨[0, 2, 4, 14], [(1414001, 900), (901, 901)], []⟩ [
      decide (Int.ofNat i < (3 : Int)) = true,
      Contract Try.prog (33 : Nat) [I (Int.ofNat i), I (Sp.start s)] [] (I (winW (Int.ofNat i) (Sp.start s))) [],
      Contract Try.prog (32 : Nat) [V.own (0 : Nat), V.agg [I (Int.ofNat i), I (winW (Int.ofNat i) (Sp.start s)), Sg (Sp.svc s), Sg (Sp.op s), I (0 : Int), I (0 : Int), I (0 : Int), I (0 : Int), I (0 : Int), I (0 : Int), I (0 : Int), I (0 : Int), I (0 : Int), I (0 : Int)], V.agg [V.val (Value.int IntKind.u64 (Sp.hi s)), V.val (Value.int IntKind.u64 (Sp.lo s)), V.val (Value.int IntKind.u64 (Sp.id s)), V.val (Value.int IntKind.u64 (Sp.par s)), Sg (Sp.svc s), Sg (Sp.op s), I (Sp.start s), I (Sp.dur s), Bo (Sp.err s), V.sl (2 : Nat) (List.map At.row (Sp.attrs s))], I m] [Obj.arr (14 : Nat) (List.map Rw.row l)] (V.own (1 : Nat)) [none, some (Obj.arr (14 : Nat) (List.map Rw.row (countR l { lev := Int.ofNat i, win := winW (Int.ofNat i) (Sp.start s), svc := Sp.svc s, op := Sp.op s, c := fun x0 => (0 : Int) } s m)))],
      IntKind.wrap IntKind.i64 (Int.ofNat (i + (1 : Nat))) = Int.ofNat (i + (1 : Nat))] (by kernel_rfl)
    (by
      simp only [allP]
      and_intros <;> first
        | (simp; omega)
        | exact cWin _ _
        | exact cCount l (keyR s (i : Int)) s m hs
        | exact i64_small (by simp; omega))

theorem ad (l : List Rw) (s : Sp) (m : Int) (i : Nat) (h : i < 3) (hs : l.length ≤ 1000000000)  : CodeC Try.prog 0 33 adB (adS l s m i) .normal (adS (countR l (keyR s (i : Int)) s m) s m (i + 1)) := by
  exact CodeC.cast (by
    first
      | rfl) (ad_0 l s m i h hs )

theorem adE_0 (l : List Rw) (s : Sp) (m : Int)  : CodeC Try.prog 0 33 adB (adS l s m 3) (Ex.exit (0 : Nat)) ({ env := [((0 : Nat), V.own (900 : Nat)), ((2 : Nat), I m), ((4 : Nat), V.ptr (901 : Nat) (0 : Nat) (0 : Nat) (0 : Nat)), ((14 : Nat), I (3 : Int))], st := [((900 : Nat), Obj.arr (14 : Nat) (List.map Rw.row l)), ((901 : Nat), Obj.box [V.val (Value.int IntKind.u64 (Sp.hi s)), V.val (Value.int IntKind.u64 (Sp.lo s)), V.val (Value.int IntKind.u64 (Sp.id s)), V.val (Value.int IntKind.u64 (Sp.par s)), Sg (Sp.svc s), Sg (Sp.op s), I (Sp.start s), I (Sp.dur s), Bo (Sp.err s), V.sl (2 : Nat) (List.map At.row (Sp.attrs s))])], ids := [(900 : Nat), (901 : Nat)] }) :=
  runP hmix [] ⟨[0, 2, 4, 14], [(900, 900), (901, 901)], []⟩ [
      ] (by kernel_rfl)
    trivial

theorem adE (l : List Rw) (s : Sp) (m : Int)   : CodeC Try.prog 0 33 adB (adS l s m 3) (.exit 0) (adS l s m 3) := by
  exact CodeC.cast (by
    first
      | rfl) (adE_0 l s m  )

theorem addN_0 (l : List Rw) (s : Sp) (m : Int) (hs : l.length ≤ 1000000) (ha : s.attrs.length ≤ 1000000000) (hr : rightS s = false) : Contract Try.prog 19 [.sl 14 (l.map Rw.row), s.v, I m] [] (V.own (0 : Nat)) ([some (Obj.arr (14 : Nat) (List.map Rw.row l))]) :=
  vcP hmix [.reg 1 [(1, [.call [] [] (.own 0) [some (.arr 14 (l.map Rw.row))]], none)], .reg 2 [(1, [.call [] [] (Bo (rightS s)) []], none), (2, [], some true)]] [202001] [
      Contract Try.prog (30 : Nat) [V.sl (14 : Nat) (List.map Rw.row l)] [] (V.own (0 : Nat)) [some (Obj.arr (14 : Nat) (List.map Rw.row l))],
      Contract Try.prog (31 : Nat) [V.agg [V.val (Value.int IntKind.u64 (Sp.hi s)), V.val (Value.int IntKind.u64 (Sp.lo s)), V.val (Value.int IntKind.u64 (Sp.id s)), V.val (Value.int IntKind.u64 (Sp.par s)), Sg (Sp.svc s), Sg (Sp.op s), I (Sp.start s), I (Sp.dur s), Bo (Sp.err s), V.sl (2 : Nat) (List.map At.row (Sp.attrs s))]] [] (Bo (rightS s)) [],
      (!rightS s) = true] (by kernel_rfl)
    (by
      simp only [allP]
      and_intros <;> first
        | exact cln _ (by simp; omega)
        | exact cRight s ha
        | (simp [hr]; done))

theorem addN (l : List Rw) (s : Sp) (m : Int) (hs : l.length ≤ 1000000) (ha : s.attrs.length ≤ 1000000000) (hr : rightS s = false) : Contract Try.prog 19 [.sl 14 (l.map Rw.row), s.v, I m] [] (.own 0) [some (.arr 14 (l.map Rw.row))] := by
  exact Contract.cast (by
    first
      | rfl) (by
    first
      | rfl) (addN_0 l s m hs ha hr )

theorem addY_0 (l K : List Rw) (s : Sp) (m : Int) (hs : l.length ≤ 1000000) (ha : s.attrs.length ≤ 1000000000) (hr : rightS s = true) (hl : LoopC Try.prog 0 33 adB (adS l s m 0) (.exit 0) (adS K s m 3)) : Contract Try.prog 19 [.sl 14 (l.map Rw.row), s.v, I m] [] (V.own (0 : Nat)) ([some (Obj.arr (14 : Nat) (List.map Rw.row K))]) :=
  vcP hmix [.reg 1 [(1, [.call [] [] (.own 0) [some (.arr 14 (l.map Rw.row))]], none)], .reg 2 [(1, [.call [] [] (Bo (rightS s)) []], none), (2, [], some false)], .cut ⟨[0, 2, 4, 14], [(202001, 900), (1000, 901)], []⟩ (.exit 0) (adS K s m 3)] [900] [
      Contract Try.prog (30 : Nat) [V.sl (14 : Nat) (List.map Rw.row l)] [] (V.own (0 : Nat)) [some (Obj.arr (14 : Nat) (List.map Rw.row l))],
      Contract Try.prog (31 : Nat) [V.agg [V.val (Value.int IntKind.u64 (Sp.hi s)), V.val (Value.int IntKind.u64 (Sp.lo s)), V.val (Value.int IntKind.u64 (Sp.id s)), V.val (Value.int IntKind.u64 (Sp.par s)), Sg (Sp.svc s), Sg (Sp.op s), I (Sp.start s), I (Sp.dur s), Bo (Sp.err s), V.sl (2 : Nat) (List.map At.row (Sp.attrs s))]] [] (Bo (rightS s)) [],
      (!rightS s) = false,
      LoopC Try.prog (0 : Nat) (33 : Nat) adB { env := [((0 : Nat), V.own (900 : Nat)), ((2 : Nat), I m), ((4 : Nat), V.ptr (901 : Nat) (0 : Nat) (0 : Nat) (0 : Nat)), ((14 : Nat), I (0 : Int))], st := [((900 : Nat), Obj.arr (14 : Nat) (List.map Rw.row l)), ((901 : Nat), Obj.box [V.val (Value.int IntKind.u64 (Sp.hi s)), V.val (Value.int IntKind.u64 (Sp.lo s)), V.val (Value.int IntKind.u64 (Sp.id s)), V.val (Value.int IntKind.u64 (Sp.par s)), Sg (Sp.svc s), Sg (Sp.op s), I (Sp.start s), I (Sp.dur s), Bo (Sp.err s), V.sl (2 : Nat) (List.map At.row (Sp.attrs s))])], ids := [(900 : Nat), (901 : Nat)] } (Ex.exit (0 : Nat)) { env := [((0 : Nat), V.own (900 : Nat)), ((2 : Nat), I m), ((4 : Nat), V.ptr (901 : Nat) (0 : Nat) (0 : Nat) (0 : Nat)), ((14 : Nat), I (3 : Int))], st := [((900 : Nat), Obj.arr (14 : Nat) (List.map Rw.row K)), ((901 : Nat), Obj.box (Sp.row s))], ids := [(900 : Nat), (901 : Nat)] }] (by kernel_rfl)
    (by
      simp only [allP]
      and_intros <;> first
        | exact cln _ (by simp; omega)
        | exact cRight s ha
        | (simp [hr]; done)
        | exact hl)

theorem addY (l K : List Rw) (s : Sp) (m : Int) (hs : l.length ≤ 1000000) (ha : s.attrs.length ≤ 1000000000) (hr : rightS s = true) (hl : LoopC Try.prog 0 33 adB (adS l s m 0) (.exit 0) (adS K s m 3)) : Contract Try.prog 19 [.sl 14 (l.map Rw.row), s.v, I m] [] (.own 0) [some (.arr 14 (K.map Rw.row))] := by
  exact Contract.cast (by
    first
      | rfl) (by
    first
      | rfl) (addY_0 l K s m hs ha hr hl )

theorem cAdd (l : List Rw) (s : Sp) (m : Int) (hs : l.length ≤ 1000000) (ha : s.attrs.length ≤ 1000000000) : Contract Try.prog 19 [.sl 14 (l.map Rw.row), s.v, I m] [] (.own 0) [some (.arr 14 ((addR l s m).map Rw.row))] := by
  unfold addR
  cases hr : rightS s with
  | false => exact addN l s m hs ha hr
  | true =>
    simp only [cond_true]
    have h1 := countR_len l (keyR s 0) s m
    have h2 := countR_len (countR l (keyR s 0) s m) (keyR s 1) s m
    exact addY l _ s m hs ha hr (LoopC.next (ad l s m 0 (by omega) (by omega)) (LoopC.next (ad (countR l (keyR s 0) s m) s m 1 (by omega) (by omega)) (LoopC.next (ad (countR (countR l (keyR s 0) s m) (keyR s 1) s m) s m 2 (by omega) (by omega)) (LoopC.last (adE _ s m) (by simp)))))
end Go.Proofs.Ytigakemkanobaaa
