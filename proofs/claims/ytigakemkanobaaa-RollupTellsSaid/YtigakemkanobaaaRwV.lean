/- rollup: what is told of any rows: the walk. -/
import Derived.Test.YtigakemkanobaaaRwT
namespace Go.Proofs.Ytigakemkanobaaa
open E
set_option maxRecDepth 100000
set_option linter.unusedVariables false
set_option linter.unusedSimpArgs false


def FAlive6 : List V → Option V := fun _ => some (Bo true)
theorem tells0_0 (l : List Rw) (s : Sp) (m sec : Int) (hz : Nat → Int) (svc op : ByteArray) (lev : Int)  (h1 : l.length > 60) : Contract Try.prog 6 [.sl 14 (l.map Rw.row), s.v, I m, I sec, .agg (h3 hz), Sg svc, Sg op, I lev] [] (Bo true) ([]) :=
  vcP hmix [.reg 2 [(6, [], some true), (9, [.call [] [] (Bo (fewS s)) []], none), (14, [.call [] [] (Bo (ordB l)) []], none)], .tab [(8, FAlive6)]] [] [
      Contract Try.prog (8 : Nat) [] [] (Bo true) [],
      decide (Int.ofNat (List.length (List.map Rw.row l)) > (60 : Int)) = true] (by kernel_rfl)
    (by
      simp only [allP]
      and_intros <;> first
        | exact cAlive
        | (simp; omega))

theorem tells0 (l : List Rw) (s : Sp) (m sec : Int) (hz : Nat → Int) (svc op : ByteArray) (lev : Int)  (h1 : l.length > 60) : Contract Try.prog 6 [.sl 14 (l.map Rw.row), s.v, I m, I sec, .agg (h3 hz), Sg svc, Sg op, I lev] [] (Bo true) [] := by
  exact Contract.cast (by
    first
      | rfl) (by
    first
      | rfl) (tells0_0 l s m sec hz svc op lev h1 )

theorem tells1_0 (l : List Rw) (s : Sp) (m sec : Int) (hz : Nat → Int) (svc op : ByteArray) (lev : Int) (h1 : l.length ≤ 60) (h2 : fewS s = false) : Contract Try.prog 6 [.sl 14 (l.map Rw.row), s.v, I m, I sec, .agg (h3 hz), Sg svc, Sg op, I lev] [] (Bo true) ([]) :=
  vcP hmix [.reg 2 [(6, [], some false), (9, [.call [] [] (Bo (fewS s)) []], none), (11, [], some true), (14, [.call [] [] (Bo (ordB l)) []], none)], .tab [(8, FAlive6)]] [] [
      Contract Try.prog (8 : Nat) [] [] (Bo true) [],
      decide (Int.ofNat (List.length (List.map Rw.row l)) > (60 : Int)) = false,
      Contract Try.prog (18 : Nat) [V.agg [V.val (Value.int IntKind.u64 (Sp.hi s)), V.val (Value.int IntKind.u64 (Sp.lo s)), V.val (Value.int IntKind.u64 (Sp.id s)), V.val (Value.int IntKind.u64 (Sp.par s)), Sg (Sp.svc s), Sg (Sp.op s), I (Sp.start s), I (Sp.dur s), Bo (Sp.err s), V.sl (2 : Nat) (List.map At.row (Sp.attrs s))]] [] (Bo (fewS s)) [],
      (!fewS s) = true] (by kernel_rfl)
    (by
      simp only [allP]
      and_intros <;> first
        | exact cAlive
        | exact cFew s
        | (simp [h2]; done)
        | (simp; omega))

theorem tells1 (l : List Rw) (s : Sp) (m sec : Int) (hz : Nat → Int) (svc op : ByteArray) (lev : Int) (h1 : l.length ≤ 60) (h2 : fewS s = false) : Contract Try.prog 6 [.sl 14 (l.map Rw.row), s.v, I m, I sec, .agg (h3 hz), Sg svc, Sg op, I lev] [] (Bo true) [] := by
  exact Contract.cast (by
    first
      | rfl) (by
    first
      | rfl) (tells1_0 l s m sec hz svc op lev h1 h2 )

theorem tells2_0 (l : List Rw) (s : Sp) (m sec : Int) (hz : Nat → Int) (svc op : ByteArray) (lev : Int) (h1 : l.length ≤ 60) (h2 : fewS s = true) (hr : ordB l = false) : Contract Try.prog 6 [.sl 14 (l.map Rw.row), s.v, I m, I sec, .agg (h3 hz), Sg svc, Sg op, I lev] [] (Bo true) ([]) :=
  vcP hmix [.reg 2 [(6, [], some false), (9, [.call [] [] (Bo (fewS s)) []], none), (11, [], some false), (14, [.call [] [] (Bo (ordB l)) []], none), (16, [], some true)], .tab [(8, FAlive6)]] [] [
      Contract Try.prog (8 : Nat) [] [] (Bo true) [],
      decide (Int.ofNat (List.length (List.map Rw.row l)) > (60 : Int)) = false,
      Contract Try.prog (18 : Nat) [V.agg [V.val (Value.int IntKind.u64 (Sp.hi s)), V.val (Value.int IntKind.u64 (Sp.lo s)), V.val (Value.int IntKind.u64 (Sp.id s)), V.val (Value.int IntKind.u64 (Sp.par s)), Sg (Sp.svc s), Sg (Sp.op s), I (Sp.start s), I (Sp.dur s), Bo (Sp.err s), V.sl (2 : Nat) (List.map At.row (Sp.attrs s))]] [] (Bo (fewS s)) [],
      (!fewS s) = false,
      Contract Try.prog (12 : Nat) [V.sl (14 : Nat) (List.map Rw.row l)] [] (Bo (ordB l)) [],
      (!ordB l) = true] (by kernel_rfl)
    (by
      simp only [allP]
      and_intros <;> first
        | exact cAlive
        | exact cFew s
        | exact cOrdered l (by omega)
        | (simp [h2]; done)
        | (simp [hr]; done)
        | (simp; omega))

theorem tells2 (l : List Rw) (s : Sp) (m sec : Int) (hz : Nat → Int) (svc op : ByteArray) (lev : Int) (h1 : l.length ≤ 60) (h2 : fewS s = true) (hr : ordB l = false) : Contract Try.prog 6 [.sl 14 (l.map Rw.row), s.v, I m, I sec, .agg (h3 hz), Sg svc, Sg op, I lev] [] (Bo true) [] := by
  exact Contract.cast (by
    first
      | rfl) (by
    first
      | rfl) (tells2_0 l s m sec hz svc op lev h1 h2 hr )

theorem tells3_0 (l : List Rw) (s : Sp) (m sec : Int) (hz : Nat → Int) (svc op : ByteArray) (lev : Int) (h1 : l.length ≤ 60) (h2 : fewS s = true) (hr : ordB l = true) (h4 : svc.size > 100) : Contract Try.prog 6 [.sl 14 (l.map Rw.row), s.v, I m, I sec, .agg (h3 hz), Sg svc, Sg op, I lev] [] (Bo true) ([]) :=
  vcP hmix [.reg 2 [(6, [], some false), (9, [.call [] [] (Bo (fewS s)) []], none), (11, [], some false), (14, [.call [] [] (Bo (ordB l)) []], none), (16, [], some false), (21, [], some true)], .tab [(8, FAlive6)]] [] [
      Contract Try.prog (8 : Nat) [] [] (Bo true) [],
      decide (Int.ofNat (List.length (List.map Rw.row l)) > (60 : Int)) = false,
      Contract Try.prog (18 : Nat) [V.agg [V.val (Value.int IntKind.u64 (Sp.hi s)), V.val (Value.int IntKind.u64 (Sp.lo s)), V.val (Value.int IntKind.u64 (Sp.id s)), V.val (Value.int IntKind.u64 (Sp.par s)), Sg (Sp.svc s), Sg (Sp.op s), I (Sp.start s), I (Sp.dur s), Bo (Sp.err s), V.sl (2 : Nat) (List.map At.row (Sp.attrs s))]] [] (Bo (fewS s)) [],
      (!fewS s) = false,
      Contract Try.prog (12 : Nat) [V.sl (14 : Nat) (List.map Rw.row l)] [] (Bo (ordB l)) [],
      (!ordB l) = false,
      decide (Int.ofNat (ByteArray.size svc) > (100 : Int)) = true] (by kernel_rfl)
    (by
      simp only [allP]
      and_intros <;> first
        | exact cAlive
        | exact cFew s
        | exact cOrdered l (by omega)
        | (simp [h2]; done)
        | (simp [hr]; done)
        | (simp; omega))

theorem tells3 (l : List Rw) (s : Sp) (m sec : Int) (hz : Nat → Int) (svc op : ByteArray) (lev : Int) (h1 : l.length ≤ 60) (h2 : fewS s = true) (hr : ordB l = true) (h4 : svc.size > 100) : Contract Try.prog 6 [.sl 14 (l.map Rw.row), s.v, I m, I sec, .agg (h3 hz), Sg svc, Sg op, I lev] [] (Bo true) [] := by
  exact Contract.cast (by
    first
      | rfl) (by
    first
      | rfl) (tells3_0 l s m sec hz svc op lev h1 h2 hr h4 )

theorem tells4_0 (l : List Rw) (s : Sp) (m sec : Int) (hz : Nat → Int) (svc op : ByteArray) (lev : Int) (h1 : l.length ≤ 60) (h2 : fewS s = true) (hr : ordB l = true) (h4 : svc.size ≤ 100) (h5 : op.size > 100) : Contract Try.prog 6 [.sl 14 (l.map Rw.row), s.v, I m, I sec, .agg (h3 hz), Sg svc, Sg op, I lev] [] (Bo true) ([]) :=
  vcP hmix [.reg 2 [(6, [], some false), (9, [.call [] [] (Bo (fewS s)) []], none), (11, [], some false), (14, [.call [] [] (Bo (ordB l)) []], none), (16, [], some false), (21, [], some false), (26, [], some true)], .tab [(8, FAlive6)]] [] [
      Contract Try.prog (8 : Nat) [] [] (Bo true) [],
      decide (Int.ofNat (List.length (List.map Rw.row l)) > (60 : Int)) = false,
      Contract Try.prog (18 : Nat) [V.agg [V.val (Value.int IntKind.u64 (Sp.hi s)), V.val (Value.int IntKind.u64 (Sp.lo s)), V.val (Value.int IntKind.u64 (Sp.id s)), V.val (Value.int IntKind.u64 (Sp.par s)), Sg (Sp.svc s), Sg (Sp.op s), I (Sp.start s), I (Sp.dur s), Bo (Sp.err s), V.sl (2 : Nat) (List.map At.row (Sp.attrs s))]] [] (Bo (fewS s)) [],
      (!fewS s) = false,
      Contract Try.prog (12 : Nat) [V.sl (14 : Nat) (List.map Rw.row l)] [] (Bo (ordB l)) [],
      (!ordB l) = false,
      decide (Int.ofNat (ByteArray.size svc) > (100 : Int)) = false,
      decide (Int.ofNat (ByteArray.size op) > (100 : Int)) = true] (by kernel_rfl)
    (by
      simp only [allP]
      and_intros <;> first
        | exact cAlive
        | exact cFew s
        | exact cOrdered l (by omega)
        | (simp [h2]; done)
        | (simp [hr]; done)
        | (simp; omega))

theorem tells4 (l : List Rw) (s : Sp) (m sec : Int) (hz : Nat → Int) (svc op : ByteArray) (lev : Int) (h1 : l.length ≤ 60) (h2 : fewS s = true) (hr : ordB l = true) (h4 : svc.size ≤ 100) (h5 : op.size > 100) : Contract Try.prog 6 [.sl 14 (l.map Rw.row), s.v, I m, I sec, .agg (h3 hz), Sg svc, Sg op, I lev] [] (Bo true) [] := by
  exact Contract.cast (by
    first
      | rfl) (by
    first
      | rfl) (tells4_0 l s m sec hz svc op lev h1 h2 hr h4 h5 )

theorem tellsO_0 (l : List Rw) (s : Sp) (m sec : Int) (hz : Nat → Int) (svc op : ByteArray) (lev : Int) (h1 : l.length ≤ 60) (h2 : fewS s = true) (hr : ordB l = true) (h4 : svc.size ≤ 100) (h5 : op.size ≤ 100) (ha : s.attrs.length ≤ 1000000000) (hm : inI m) (hso : SortedK cmpR l) (h6 : inI sec) (h7 : ∀ k, inI (hz k)) (l1 : (addR l s m).length ≤ 1000) (l2 : (l.filter (fun y => !goneB sec hz y)).length ≤ 1000) (l3 : (l.filter (pFind svc op lev)).length ≤ 1000) : Contract Try.prog 6 [.sl 14 (l.map Rw.row), s.v, I m, I sec, .agg (h3 hz), Sg svc, Sg op, I lev] [] (Bo true) ([]) :=
  vcP hmix [.reg 2 [(6, [], some false), (9, [.call [] [] (Bo (fewS s)) []], none), (11, [], some false), (14, [.call [] [] (Bo (ordB l)) []], none), (16, [], some false), (21, [], some false), (26, [], some false)], .reg 4 [(2, [.idx 1], none)], .reg 5 [(3, [.call [] [] (.own 0) [some (.arr 14 ((addR l s m).map Rw.row))]], none), (7, [.call [] [] (.sl 14 ((addR l s m).map Rw.row)) []], none), (8, [.call [] [] (Bo true) []], none), (13, [.call [] [] (.own 0) [some (.arr 14 ((l.filter (fun y => !goneB sec hz y)).map Rw.row))]], none), (17, [.call [] [] (.own 0) [some (.arr 14 ((l.filter (fun y => !goneB sec hz y)).map Rw.row))]], none), (18, [.call [] [] (Bo true) []], none), (25, [.call [] [] (.own 0) [some (.arr 14 ((l.filter (pFind svc op lev)).map Rw.row))]], none), (30, [.call [] [] (.own 0) [some (.arr 14 ((l.filter (pFind svc op lev)).map Rw.row))]], none), (31, [.call [] [] (Bo true) []], none)], .tab [(8, FAlive6)]] [] [
      Contract Try.prog (8 : Nat) [] [] (Bo true) [],
      decide (Int.ofNat (List.length (List.map Rw.row l)) > (60 : Int)) = false,
      Contract Try.prog (18 : Nat) [V.agg [V.val (Value.int IntKind.u64 (Sp.hi s)), V.val (Value.int IntKind.u64 (Sp.lo s)), V.val (Value.int IntKind.u64 (Sp.id s)), V.val (Value.int IntKind.u64 (Sp.par s)), Sg (Sp.svc s), Sg (Sp.op s), I (Sp.start s), I (Sp.dur s), Bo (Sp.err s), V.sl (2 : Nat) (List.map At.row (Sp.attrs s))]] [] (Bo (fewS s)) [],
      (!fewS s) = false,
      Contract Try.prog (12 : Nat) [V.sl (14 : Nat) (List.map Rw.row l)] [] (Bo (ordB l)) [],
      (!ordB l) = false,
      decide (Int.ofNat (ByteArray.size svc) > (100 : Int)) = false,
      decide (Int.ofNat (ByteArray.size op) > (100 : Int)) = false,
      List.length (List.map Rw.row l) * (128 : Nat) ≤ (140737488355328 : Nat),
      Contract Try.prog (19 : Nat) [V.sl (14 : Nat) (List.map Rw.row l), V.agg [V.val (Value.int IntKind.u64 (Sp.hi s)), V.val (Value.int IntKind.u64 (Sp.lo s)), V.val (Value.int IntKind.u64 (Sp.id s)), V.val (Value.int IntKind.u64 (Sp.par s)), Sg (Sp.svc s), Sg (Sp.op s), I (Sp.start s), I (Sp.dur s), Bo (Sp.err s), V.sl (2 : Nat) (List.map At.row (Sp.attrs s))], I m] [] (V.own (0 : Nat)) [some (Obj.arr (14 : Nat) (List.map Rw.row (addR l s m)))],
      Contract Try.prog (20 : Nat) [V.sl (14 : Nat) (List.map Rw.row l), V.agg [V.val (Value.int IntKind.u64 (Sp.hi s)), V.val (Value.int IntKind.u64 (Sp.lo s)), V.val (Value.int IntKind.u64 (Sp.id s)), V.val (Value.int IntKind.u64 (Sp.par s)), Sg (Sp.svc s), Sg (Sp.op s), I (Sp.start s), I (Sp.dur s), Bo (Sp.err s), V.sl (2 : Nat) (List.map At.row (Sp.attrs s))], I m] [] (V.sl (14 : Nat) (List.map Rw.row (addR l s m))) [],
      Contract Try.prog (11 : Nat) [V.sl (14 : Nat) (List.map Rw.row (addR l s m)), V.sl (14 : Nat) (List.map Rw.row (addR l s m))] [] (Bo true) [],
      true = true,
      Contract Try.prog (21 : Nat) [V.sl (14 : Nat) (List.map Rw.row l), I sec, V.agg [I (hz (0 : Nat)), I (hz (1 : Nat)), I (hz (2 : Nat))]] [] (V.own (0 : Nat)) [some (Obj.arr (14 : Nat) (List.map Rw.row (List.filter (fun y0 => !goneB sec hz y0) l)))],
      Contract Try.prog (22 : Nat) [V.sl (14 : Nat) (List.map Rw.row l), I sec, V.agg [I (hz (0 : Nat)), I (hz (1 : Nat)), I (hz (2 : Nat))]] [] (V.own (0 : Nat)) [some (Obj.arr (14 : Nat) (List.map Rw.row (List.filter (fun y0 => !goneB sec hz y0) l)))],
      Contract Try.prog (11 : Nat) [V.sl (14 : Nat) (List.map Rw.row (List.filter (fun y0 => !goneB sec hz y0) l)), V.sl (14 : Nat) (List.map Rw.row (List.filter (fun y0 => !goneB sec hz y0) l))] [] (Bo true) [],
      true = true,
      Contract Try.prog (23 : Nat) [V.sl (14 : Nat) (List.map Rw.row l), Sg svc, Sg op, I lev] [] (V.own (0 : Nat)) [some (Obj.arr (14 : Nat) (List.map Rw.row (List.filter (pFind svc op lev) l)))],
      Contract Try.prog (24 : Nat) [V.sl (14 : Nat) (List.map Rw.row l), Sg svc, Sg op, I lev] [] (V.own (0 : Nat)) [some (Obj.arr (14 : Nat) (List.map Rw.row (List.filter (pFind svc op lev) l)))],
      Contract Try.prog (11 : Nat) [V.sl (14 : Nat) (List.map Rw.row (List.filter (pFind svc op lev) l)), V.sl (14 : Nat) (List.map Rw.row (List.filter (pFind svc op lev) l))] [] (Bo true) [],
      true = true] (by kernel_rfl)
    (by
      simp only [allP]
      and_intros <;> first
        | exact cAlive
        | exact cFew s
        | exact cOrdered l (by omega)
        | (simp [h2]; done)
        | (simp [hr]; done)
        | (simp; omega)
        | exact cAdd l s m (by omega) ha
        | exact cAddRows l s m hm hso (by omega)
        | exact cSame _ (by omega)
        | exact cExpire l sec hz (by omega)
        | exact cExpR l sec hz (by omega) h6 h7
        | exact cFind l svc op lev (by omega)
        | exact cFindR l svc op lev (by omega))

theorem tellsO (l : List Rw) (s : Sp) (m sec : Int) (hz : Nat → Int) (svc op : ByteArray) (lev : Int) (h1 : l.length ≤ 60) (h2 : fewS s = true) (hr : ordB l = true) (h4 : svc.size ≤ 100) (h5 : op.size ≤ 100) (ha : s.attrs.length ≤ 1000000000) (hm : inI m) (hso : SortedK cmpR l) (h6 : inI sec) (h7 : ∀ k, inI (hz k)) (l1 : (addR l s m).length ≤ 1000) (l2 : (l.filter (fun y => !goneB sec hz y)).length ≤ 1000) (l3 : (l.filter (pFind svc op lev)).length ≤ 1000) : Contract Try.prog 6 [.sl 14 (l.map Rw.row), s.v, I m, I sec, .agg (h3 hz), Sg svc, Sg op, I lev] [] (Bo true) [] := by
  exact Contract.cast (by
    first
      | rfl) (by
    first
      | rfl) (tellsO_0 l s m sec hz svc op lev h1 h2 hr h4 h5 ha hm hso h6 h7 l1 l2 l3 )

theorem cTells (l : List Rw) (s : Sp) (m sec : Int) (hz : Nat → Int) (svc op : ByteArray) (lev : Int) (hm : inI m) (h6 : inI sec) (h7 : ∀ k, inI (hz k)) : Contract Try.prog 6 [.sl 14 (l.map Rw.row), s.v, I m, I sec, .agg (h3 hz), Sg svc, Sg op, I lev] [] (Bo true) [] := by
  by_cases h1 : l.length > 60
  · exact tells0 l s m sec hz svc op lev h1
  cases h2 : fewS s with
  | false => exact tells1 l s m sec hz svc op lev (by omega) h2
  | true =>
  cases hr : ordB l with
  | false => exact tells2 l s m sec hz svc op lev (by omega) h2 hr
  | true =>
  by_cases h4 : svc.size > 100
  · exact tells3 l s m sec hz svc op lev (by omega) h2 hr h4
  by_cases h5 : op.size > 100
  · exact tells4 l s m sec hz svc op lev (by omega) h2 hr (by omega) h5
  have ha := few_of h2
  have q1 := addR_len l s m
  have q2 := List.length_filter_le (fun y => !goneB sec hz y) l
  have q3 := List.length_filter_le (pFind svc op lev) l
  exact tellsO l s m sec hz svc op lev (by omega) h2 hr (by omega) (by omega) (by omega) hm (ord_sorted hr) h6 h7 (by omega) (by omega) (by omega)
end Go.Proofs.Ytigakemkanobaaa
