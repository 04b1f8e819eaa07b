/- slots: exemplars put one by one, and found. -/
import Derived.Test.YtemjhlmdiicdcaaSlC
namespace Go.Proofs.Ytemjhlmdiicdcaa
open E
set_option maxRecDepth 100000
set_option linter.unusedVariables false
set_option linter.unusedSimpArgs false


def plS (es : List Em) (m : List Em) (i : Nat) : SL := ⟨[(0, .own 900), (9, .sl 6 (es.map Em.row)), (10, I (es.length : Int)), (11, I (i : Int))], [(900, .arr 6 (m.map Em.row))], [900]⟩
def fiS (l : List Em) (s o : ByteArray) (out : List Em) (i : Nat) : SL := ⟨[(1, Sg s), (2, Sg o), (7, .own 901), (10, .sl 6 (l.map Em.row)), (11, I (l.length : Int)), (12, I (i : Int))], [(901, .arr 6 (out.map Em.row))], [901]⟩
def sameK (s o : ByteArray) (x : Em) : Bool := (x.svc.toList == s.toList) && (x.op.toList == o.toList)
def frS (l : List Em) (s o : ByteArray) (out : List Em) (i : Nat) : SL := ⟨[(0, .sl 6 (l.map Em.row)), (1, Sg s), (2, Sg o), (7, .own 901), (8, I (i : Int))], [(901, .arr 6 (out.map Em.row))], [901]⟩
noncomputable def plB : Code := codeAt Try.prog 7 [true, true, false, true, false, false]

noncomputable def fiB : Code := codeAt Try.prog 8 [true, true, false, true, false, false]

noncomputable def frB : Code := codeAt Try.prog 15 [true, true, false, true, false, false]

theorem plGo (es m : List Em) (x : Em) (i : Nat) (h : i < es.length) (hx : es[i]? = some x) (hs : es.length ≤ 1000000000000000) (hm : m.length ≤ 1000000000) : CodeC Try.prog 0 20 plB (plS es m i) .normal (plS es (putE m x) (i + 1)) :=
  runP hmix [.reg 3 [(0, [], some true)], .reg 4 [(1, [.row (Em.row x)], none)], .reg 5 [(2, [.call [900] [] (.own 1) [none, some (.arr 6 ((putE m x).map Em.row))]], none)], .reg 6 [(0, [.be (I ((i + 1 : Nat) : Int))], none)]] ⟨[0, 9, 10, 11], [(1003001, 900)], []⟩ [
      decide (Int.ofNat i < Int.ofNat (List.length es)) = true,
      (0 : Int) ≤ Int.ofNat i,
      Int.ofNat i < Int.ofNat (List.length (List.map Em.row es)),
      (List.map Em.row es)[i]? = some (Em.row x),
      Contract Try.prog (17 : Nat) [V.own (0 : Nat), V.agg [Sg (Em.svc x), Sg (Em.op x), V.val (Value.int IntKind.u64 (Em.hi x)), V.val (Value.int IntKind.u64 (Em.lo x)), V.val (Value.int IntKind.u64 (Em.id x)), I (Em.block x)]] [Obj.arr (6 : Nat) (List.map Em.row m)] (V.own (1 : Nat)) [none, some (Obj.arr (6 : Nat) (List.map Em.row (putE m x)))],
      IntKind.wrap IntKind.i64 (Int.ofNat (i + (1 : Nat))) = Int.ofNat (i + (1 : Nat))] (by kernel_rfl)
    (by
      simp only [allP]
      and_intros <;> first
        | omega
        | with_reducible assumption
        | exact cPut m x hm
        | (simp; omega)
        | (simp [hx]; done)
        | exact i64_small (by simp; omega)
        | (simp; done)
        | decide)

theorem plEnd (es m : List Em) (i : Nat) (h : es.length ≤ i) : CodeC Try.prog 0 20 plB (plS es m i) (.exit 0) (plS es m i) :=
  runP hmix [.reg 3 [(0, [], some false)]] ⟨[0, 9, 10, 11], [(900, 900)], []⟩ [
      decide (Int.ofNat i < Int.ofNat (List.length es)) = false] (by kernel_rfl)
    (by
      simp only [allP]
      and_intros <;> first
        | omega
        | with_reducible assumption
        | (simp; omega)
        | (simp; done)
        | decide)

theorem putE_len (l : List Em) (e : Em) : (putE l e).length ≤ l.length + 1 := by
  unfold putE
  have h := insE_len l (atE l e) e
  simp only
  split
  · simp only [delE, List.length_append, List.length_take, List.length_drop]; omega
  · omega

theorem plLoop (es m : List Em) (hb : m.length + es.length ≤ 1000000000) : LoopC Try.prog 0 20 plB (plS es m 0) (.exit 0) (plS es (es.foldl putE m) es.length) :=
  LoopC.fold (P := Try.prog) (k := 0) (n := 20) (c := plB) es putE (fun i s => s.length ≤ m.length + i) (fun s i => plS es s i) (e := .exit 0) (by simp)
    (fun i s x hx hi h => by
      have h : s.length ≤ m.length + i := h
      have h1 : es.length ≤ 1000000000000000 := by omega
      have h2 : s.length ≤ 1000000000 := by omega
      have h3 := putE_len s x
      exact ⟨plGo es s x i hi hx h1 h2, (by omega : (putE s x).length ≤ m.length + (i + 1))⟩)
    (fun s h => plEnd es s _ (Nat.le_refl _)) m (by omega)

theorem foldl_len (es m : List Em) : (es.foldl putE m).length ≤ m.length + es.length := by
  have := foldl_inv putE (fun i s => s.length ≤ m.length + i) es 0 m (by omega) (fun i s x _ h => by have := putE_len s x; have h : s.length ≤ m.length + i := h; show _ ≤ _; omega)
  simpa using this

theorem cPuts (l es : List Em) (hb : l.length + es.length ≤ 1000000000) : Contract Try.prog 7 [.sl 6 (l.map Em.row), .sl 6 (es.map Em.row)] [] (.own 0) [some (.arr 6 ((es.foldl putE l).map Em.row))] :=
  vcP hmix [.reg 1 [(1, [.call [] [] (.own 0) [some (.arr 6 (l.map Em.row))]], none)], .reg 2 [(1, [.be (I (es.length : Int))], none)], .cut ⟨[0, 9, 10, 11], [(202001, 900)], []⟩ (.exit 0) (plS es (es.foldl putE l) es.length)] [900] [
      Contract Try.prog (16 : Nat) [V.sl (6 : Nat) (List.map Em.row l)] [] (V.own (0 : Nat)) [some (Obj.arr (6 : Nat) (List.map Em.row l))],
      Int.ofNat (List.length (List.map Em.row es)) = Int.ofNat (List.length es),
      LoopC Try.prog (0 : Nat) (20 : Nat) plB { env := [((0 : Nat), V.own (900 : Nat)), ((9 : Nat), V.sl (6 : Nat) (List.map Em.row es)), ((10 : Nat), I (Int.ofNat (List.length es))), ((11 : Nat), I (0 : Int))], st := [((900 : Nat), Obj.arr (6 : Nat) (List.map Em.row l))], ids := [(900 : Nat)] } (Ex.exit (0 : Nat)) { env := [((0 : Nat), V.own (900 : Nat)), ((9 : Nat), V.sl (6 : Nat) (List.map Em.row es)), ((10 : Nat), I (Int.ofNat (List.length es))), ((11 : Nat), I (Int.ofNat (List.length es)))], st := [((900 : Nat), Obj.arr (6 : Nat) (List.map Em.row (List.foldl putE l es)))], ids := [(900 : Nat)] }] (by kernel_rfl)
    (by
      simp only [allP]
      and_intros <;> first
        | omega
        | with_reducible assumption
        | exact cln _ (by rw [List.length_map]; omega)
        | exact plLoop es l hb
        | (simp; done)
        | decide)

def addK (s o : ByteArray) (out : List Em) (x : Em) : List Em := bif sameK s o x then out ++ [x] else out
theorem foldl_addK (s o : ByteArray) : ∀ (l out : List Em), l.foldl (addK s o) out = out ++ l.filter (sameK s o)
  | [], out => by simp
  | x :: l, out => by
    rw [List.foldl_cons, foldl_addK s o l]
    unfold addK
    cases h : sameK s o x <;> simp [h]

theorem fiHit (l out : List Em) (s o : ByteArray) (x : Em) (i : Nat) (h : i < l.length) (hx : l[i]? = some x) (hs : l.length ≤ 1000000000000000) (ho : out.length ≤ 1000000000) (h1 : (x.svc.toList == s.toList) = true) (h2 : (x.op.toList == o.toList) = true) : CodeC Try.prog 0 32 fiB (fiS l s o out i) .normal (fiS l s o (out ++ [x]) (i + 1)) :=
  runP hmix [.reg 3 [(0, [], some true)], .reg 4 [(1, [.row (Em.row x)], none)], .reg 5 [(4, [], some true), (8, [], some true)], .reg 6 [(3, [.beO ((out ++ [x]).map Em.row)], none)], .reg 7 [(0, [.be (I ((i + 1 : Nat) : Int))], none)]] ⟨[1, 2, 7, 10, 11, 12], [(1204000, 901)], []⟩ [
      decide (Int.ofNat i < Int.ofNat (List.length l)) = true,
      (0 : Int) ≤ Int.ofNat i,
      Int.ofNat i < Int.ofNat (List.length (List.map Em.row l)),
      (List.map Em.row l)[i]? = some (Em.row x),
      (ByteArray.toList (Em.svc x) == ByteArray.toList s) = true,
      (ByteArray.toList (Em.op x) == ByteArray.toList o) = true,
      (List.length (List.map Em.row out) + (1 : Nat)) * (64 : Nat) ≤ (140737488355328 : Nat),
      List.map Em.row out ++ [[Sg (Em.svc x), Sg (Em.op x), V.val (Value.int IntKind.u64 (Em.hi x)), V.val (Value.int IntKind.u64 (Em.lo x)), V.val (Value.int IntKind.u64 (Em.id x)), I (Em.block x)]] = List.map Em.row (out ++ [x]),
      IntKind.wrap IntKind.i64 (Int.ofNat (i + (1 : Nat))) = Int.ofNat (i + (1 : Nat))] (by kernel_rfl)
    (by
      simp only [allP]
      and_intros <;> first
        | omega
        | with_reducible assumption
        | (simp; omega)
        | (simp [hx]; done)
        | exact i64_small (by simp; omega)
        | (simp [Em.row, U]; done)
        | (simp; done)
        | decide)

theorem fiMissA (l out : List Em) (s o : ByteArray) (x : Em) (i : Nat) (h : i < l.length) (hx : l[i]? = some x) (hs : l.length ≤ 1000000000000000) (ho : out.length ≤ 1000000000) (h1 : (x.svc.toList == s.toList) = false) : CodeC Try.prog 0 32 fiB (fiS l s o out i) .normal (fiS l s o out (i + 1)) :=
  runP hmix [.reg 3 [(0, [], some true)], .reg 4 [(1, [.row (Em.row x)], none)], .reg 5 [(4, [], some false)], .reg 7 [(0, [.be (I ((i + 1 : Nat) : Int))], none)]] ⟨[1, 2, 7, 10, 11, 12], [(901, 901)], []⟩ [
      decide (Int.ofNat i < Int.ofNat (List.length l)) = true,
      (0 : Int) ≤ Int.ofNat i,
      Int.ofNat i < Int.ofNat (List.length (List.map Em.row l)),
      (List.map Em.row l)[i]? = some (Em.row x),
      (ByteArray.toList (Em.svc x) == ByteArray.toList s) = false,
      IntKind.wrap IntKind.i64 (Int.ofNat (i + (1 : Nat))) = Int.ofNat (i + (1 : Nat))] (by kernel_rfl)
    (by
      simp only [allP]
      and_intros <;> first
        | omega
        | with_reducible assumption
        | (simp; omega)
        | (simp [hx]; done)
        | exact i64_small (by simp; omega)
        | (simp [Em.row, U]; done)
        | (simp; done)
        | decide)

theorem fiMissB (l out : List Em) (s o : ByteArray) (x : Em) (i : Nat) (h : i < l.length) (hx : l[i]? = some x) (hs : l.length ≤ 1000000000000000) (ho : out.length ≤ 1000000000) (h1 : (x.svc.toList == s.toList) = true) (h2 : (x.op.toList == o.toList) = false) : CodeC Try.prog 0 32 fiB (fiS l s o out i) .normal (fiS l s o out (i + 1)) :=
  runP hmix [.reg 3 [(0, [], some true)], .reg 4 [(1, [.row (Em.row x)], none)], .reg 5 [(4, [], some true), (8, [], some false)], .reg 7 [(0, [.be (I ((i + 1 : Nat) : Int))], none)]] ⟨[1, 2, 7, 10, 11, 12], [(901, 901)], []⟩ [
      decide (Int.ofNat i < Int.ofNat (List.length l)) = true,
      (0 : Int) ≤ Int.ofNat i,
      Int.ofNat i < Int.ofNat (List.length (List.map Em.row l)),
      (List.map Em.row l)[i]? = some (Em.row x),
      (ByteArray.toList (Em.svc x) == ByteArray.toList s) = true,
      (ByteArray.toList (Em.op x) == ByteArray.toList o) = false,
      IntKind.wrap IntKind.i64 (Int.ofNat (i + (1 : Nat))) = Int.ofNat (i + (1 : Nat))] (by kernel_rfl)
    (by
      simp only [allP]
      and_intros <;> first
        | omega
        | with_reducible assumption
        | (simp; omega)
        | (simp [hx]; done)
        | exact i64_small (by simp; omega)
        | (simp [Em.row, U]; done)
        | (simp; done)
        | decide)

theorem fiEnd (l out : List Em) (s o : ByteArray) (i : Nat) (h : l.length ≤ i) : CodeC Try.prog 0 32 fiB (fiS l s o out i) (.exit 0) (fiS l s o out i) :=
  runP hmix [.reg 3 [(0, [], some false)]] ⟨[1, 2, 7, 10, 11, 12], [(901, 901)], []⟩ [
      decide (Int.ofNat i < Int.ofNat (List.length l)) = false] (by kernel_rfl)
    (by
      simp only [allP]
      and_intros <;> first
        | omega
        | with_reducible assumption
        | (simp; omega)
        | (simp; done)
        | decide)

theorem fiLoop (l : List Em) (s o : ByteArray) (hb : l.length ≤ 1000000000) : LoopC Try.prog 0 32 fiB (fiS l s o [] 0) (.exit 0) (fiS l s o (l.filter (sameK s o)) l.length) := by
  have := LoopC.fold (P := Try.prog) (k := 0) (n := 32) (c := fiB) l (addK s o) (fun i out => out.length ≤ i) (fun out i => fiS l s o out i) (e := .exit 0) (by simp)
    (fun i out x hx hi h => by
      have hs : l.length ≤ 1000000000000000 := by omega
      have ho : out.length ≤ 1000000000 := by omega
      unfold addK sameK
      cases h1 : x.svc.toList == s.toList with
      | false => simp only [Bool.false_and, cond_false]; exact ⟨fiMissA l out s o x i hi hx hs ho h1, by omega⟩
      | true =>
        cases h2 : x.op.toList == o.toList with
        | false => simp only [Bool.and_false, cond_false]; exact ⟨fiMissB l out s o x i hi hx hs ho h1 h2, by omega⟩
        | true => simp only [Bool.and_true, cond_true]; exact ⟨fiHit l out s o x i hi hx hs ho h1 h2, by simp; omega⟩)
    (fun out h => fiEnd l out s o _ (Nat.le_refl _)) [] (by simp)
  rw [foldl_addK, List.nil_append] at this
  exact this

theorem frHit (l out : List Em) (s o : ByteArray) (x : Em) (i : Nat) (h : i < l.length) (hx : l[i]? = some x) (hs : l.length ≤ 1000000000000000) (ho : out.length ≤ 1000000000) (h1 : (x.svc.toList == s.toList) = true) (h2 : (x.op.toList == o.toList) = true) : CodeC Try.prog 0 39 frB (frS l s o out i) .normal (frS l s o (out ++ [x]) (i + 1)) :=
  runP hmix [.reg 3 [(3, [], some true)], .reg 5 [(4, [.row (Em.row x)], none), (6, [], some true), (12, [.row (Em.row x)], none), (14, [], some true)], .reg 6 [(4, [.row (Em.row x)], none), (6, [.beO ((out ++ [x]).map Em.row)], none)], .reg 4 [(1, [.be (I ((i + 1 : Nat) : Int))], none)]] ⟨[0, 1, 2, 7, 8], [(1207000, 901)], []⟩ [
      decide (Int.ofNat i < Int.ofNat (List.length (List.map Em.row l))) = true,
      (0 : Int) ≤ Int.ofNat i,
      Int.ofNat i < Int.ofNat (List.length (List.map Em.row l)),
      (List.map Em.row l)[i]? = some (Em.row x),
      (ByteArray.toList (Em.svc x) == ByteArray.toList s) = true,
      (0 : Int) ≤ Int.ofNat i,
      Int.ofNat i < Int.ofNat (List.length (List.map Em.row l)),
      (List.map Em.row l)[i]? = some (Em.row x),
      (ByteArray.toList (Em.op x) == ByteArray.toList o) = true,
      (0 : Int) ≤ Int.ofNat i,
      Int.ofNat i < Int.ofNat (List.length (List.map Em.row l)),
      (List.map Em.row l)[i]? = some (Em.row x),
      (List.length (List.map Em.row out) + (1 : Nat)) * (64 : Nat) ≤ (140737488355328 : Nat),
      List.map Em.row out ++ [[Sg (Em.svc x), Sg (Em.op x), V.val (Value.int IntKind.u64 (Em.hi x)), V.val (Value.int IntKind.u64 (Em.lo x)), V.val (Value.int IntKind.u64 (Em.id x)), I (Em.block x)]] = List.map Em.row (out ++ [x]),
      IntKind.wrap IntKind.i64 (Int.ofNat (i + (1 : Nat))) = Int.ofNat (i + (1 : Nat))] (by kernel_rfl)
    (by
      simp only [allP]
      and_intros <;> first
        | omega
        | with_reducible assumption
        | (simp; omega)
        | (simp [hx]; done)
        | exact i64_small (by simp; omega)
        | (simp [Em.row, U]; done)
        | (simp; done)
        | decide)

theorem frMissA (l out : List Em) (s o : ByteArray) (x : Em) (i : Nat) (h : i < l.length) (hx : l[i]? = some x) (hs : l.length ≤ 1000000000000000) (ho : out.length ≤ 1000000000) (h1 : (x.svc.toList == s.toList) = false) : CodeC Try.prog 0 39 frB (frS l s o out i) .normal (frS l s o out (i + 1)) :=
  runP hmix [.reg 3 [(3, [], some true)], .reg 5 [(4, [.row (Em.row x)], none), (6, [], some false)], .reg 4 [(1, [.be (I ((i + 1 : Nat) : Int))], none)]] ⟨[0, 1, 2, 7, 8], [(901, 901)], []⟩ [
      decide (Int.ofNat i < Int.ofNat (List.length (List.map Em.row l))) = true,
      (0 : Int) ≤ Int.ofNat i,
      Int.ofNat i < Int.ofNat (List.length (List.map Em.row l)),
      (List.map Em.row l)[i]? = some (Em.row x),
      (ByteArray.toList (Em.svc x) == ByteArray.toList s) = false,
      IntKind.wrap IntKind.i64 (Int.ofNat (i + (1 : Nat))) = Int.ofNat (i + (1 : Nat))] (by kernel_rfl)
    (by
      simp only [allP]
      and_intros <;> first
        | omega
        | with_reducible assumption
        | (simp; omega)
        | (simp [hx]; done)
        | exact i64_small (by simp; omega)
        | (simp [Em.row, U]; done)
        | (simp; done)
        | decide)

theorem frMissB (l out : List Em) (s o : ByteArray) (x : Em) (i : Nat) (h : i < l.length) (hx : l[i]? = some x) (hs : l.length ≤ 1000000000000000) (ho : out.length ≤ 1000000000) (h1 : (x.svc.toList == s.toList) = true) (h2 : (x.op.toList == o.toList) = false) : CodeC Try.prog 0 39 frB (frS l s o out i) .normal (frS l s o out (i + 1)) :=
  runP hmix [.reg 3 [(3, [], some true)], .reg 5 [(4, [.row (Em.row x)], none), (6, [], some true), (12, [.row (Em.row x)], none), (14, [], some false)], .reg 4 [(1, [.be (I ((i + 1 : Nat) : Int))], none)]] ⟨[0, 1, 2, 7, 8], [(901, 901)], []⟩ [
      decide (Int.ofNat i < Int.ofNat (List.length (List.map Em.row l))) = true,
      (0 : Int) ≤ Int.ofNat i,
      Int.ofNat i < Int.ofNat (List.length (List.map Em.row l)),
      (List.map Em.row l)[i]? = some (Em.row x),
      (ByteArray.toList (Em.svc x) == ByteArray.toList s) = true,
      (0 : Int) ≤ Int.ofNat i,
      Int.ofNat i < Int.ofNat (List.length (List.map Em.row l)),
      (List.map Em.row l)[i]? = some (Em.row x),
      (ByteArray.toList (Em.op x) == ByteArray.toList o) = false,
      IntKind.wrap IntKind.i64 (Int.ofNat (i + (1 : Nat))) = Int.ofNat (i + (1 : Nat))] (by kernel_rfl)
    (by
      simp only [allP]
      and_intros <;> first
        | omega
        | with_reducible assumption
        | (simp; omega)
        | (simp [hx]; done)
        | exact i64_small (by simp; omega)
        | (simp [Em.row, U]; done)
        | (simp; done)
        | decide)

theorem frEnd (l out : List Em) (s o : ByteArray) (i : Nat) (h : l.length ≤ i) : CodeC Try.prog 0 39 frB (frS l s o out i) (.exit 0) (frS l s o out i) :=
  runP hmix [.reg 3 [(3, [], some false)]] ⟨[0, 1, 2, 7, 8], [(901, 901)], []⟩ [
      decide (Int.ofNat i < Int.ofNat (List.length (List.map Em.row l))) = false] (by kernel_rfl)
    (by
      simp only [allP]
      and_intros <;> first
        | omega
        | with_reducible assumption
        | (simp; omega)
        | (simp; done)
        | decide)

theorem frLoop (l : List Em) (s o : ByteArray) (hb : l.length ≤ 1000000000) : LoopC Try.prog 0 39 frB (frS l s o [] 0) (.exit 0) (frS l s o (l.filter (sameK s o)) l.length) := by
  have := LoopC.fold (P := Try.prog) (k := 0) (n := 39) (c := frB) l (addK s o) (fun i out => out.length ≤ i) (fun out i => frS l s o out i) (e := .exit 0) (by simp)
    (fun i out x hx hi h => by
      have hs : l.length ≤ 1000000000000000 := by omega
      have ho : out.length ≤ 1000000000 := by omega
      unfold addK sameK
      cases h1 : x.svc.toList == s.toList with
      | false => simp only [Bool.false_and, cond_false]; exact ⟨frMissA l out s o x i hi hx hs ho h1, by omega⟩
      | true =>
        cases h2 : x.op.toList == o.toList with
        | false => simp only [Bool.and_false, cond_false]; exact ⟨frMissB l out s o x i hi hx hs ho h1 h2, by omega⟩
        | true => simp only [Bool.and_true, cond_true]; exact ⟨frHit l out s o x i hi hx hs ho h1 h2, by simp; omega⟩)
    (fun out h => frEnd l out s o _ (Nat.le_refl _)) [] (by simp)
  rw [foldl_addK, List.nil_append] at this
  exact this

theorem cFind (l : List Em) (s o : ByteArray) (hb : l.length ≤ 1000000000) : Contract Try.prog 8 [.sl 6 (l.map Em.row), Sg s, Sg o] [] (.own 0) [some (.arr 6 ((l.filter (sameK s o)).map Em.row))] :=
  vcP hmix [.reg 2 [(1, [.be (I (l.length : Int))], none)], .cut ⟨[1, 2, 7, 10, 11, 12], [], [.slot 7 901 6]⟩ (.exit 0) (fiS l s o (l.filter (sameK s o)) l.length)] [901] [
      Int.ofNat (List.length (List.map Em.row l)) = Int.ofNat (List.length l),
      LoopC Try.prog (0 : Nat) (32 : Nat) fiB { env := [((1 : Nat), Sg s), ((2 : Nat), Sg o), ((7 : Nat), V.own (901 : Nat)), ((10 : Nat), V.sl (6 : Nat) (List.map Em.row l)), ((11 : Nat), I (Int.ofNat (List.length l))), ((12 : Nat), I (0 : Int))], st := [((901 : Nat), Obj.arr (6 : Nat) [])], ids := [(901 : Nat)] } (Ex.exit (0 : Nat)) { env := [((1 : Nat), Sg s), ((2 : Nat), Sg o), ((7 : Nat), V.own (901 : Nat)), ((10 : Nat), V.sl (6 : Nat) (List.map Em.row l)), ((11 : Nat), I (Int.ofNat (List.length l))), ((12 : Nat), I (Int.ofNat (List.length l)))], st := [((901 : Nat), Obj.arr (6 : Nat) (List.map Em.row (List.filter (sameK s o) l)))], ids := [(901 : Nat)] }] (by kernel_rfl)
    (by
      simp only [allP]
      and_intros <;> first
        | omega
        | with_reducible assumption
        | exact fiLoop l s o hb
        | (simp; done)
        | decide)

theorem cFindR (l : List Em) (s o : ByteArray) (hb : l.length ≤ 1000000000) : Contract Try.prog 15 [.sl 6 (l.map Em.row), Sg s, Sg o] [] (.own 0) [some (.arr 6 ((l.filter (sameK s o)).map Em.row))] :=
  vcP hmix [.cut ⟨[0, 1, 2, 7, 8], [], [.slot 7 901 6]⟩ (.exit 0) (frS l s o (l.filter (sameK s o)) l.length)] [901] [
      LoopC Try.prog (0 : Nat) (39 : Nat) frB { env := [((0 : Nat), V.sl (6 : Nat) (List.map Em.row l)), ((1 : Nat), Sg s), ((2 : Nat), Sg o), ((7 : Nat), V.own (901 : Nat)), ((8 : Nat), I (0 : Int))], st := [((901 : Nat), Obj.arr (6 : Nat) [])], ids := [(901 : Nat)] } (Ex.exit (0 : Nat)) { env := [((0 : Nat), V.sl (6 : Nat) (List.map Em.row l)), ((1 : Nat), Sg s), ((2 : Nat), Sg o), ((7 : Nat), V.own (901 : Nat)), ((8 : Nat), I (Int.ofNat (List.length l)))], st := [((901 : Nat), Obj.arr (6 : Nat) (List.map Em.row (List.filter (sameK s o) l)))], ids := [(901 : Nat)] }] (by kernel_rfl)
    (by
      simp only [allP]
      and_intros <;> first
        | omega
        | with_reducible assumption
        | exact frLoop l s o hb
        | (simp; done)
        | decide)

end Go.Proofs.Ytemjhlmdiicdcaa
