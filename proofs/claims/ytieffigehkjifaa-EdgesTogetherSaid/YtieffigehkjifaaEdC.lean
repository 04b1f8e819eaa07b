/- edges: which spans may be, and who calls. -/
import Derived.Test.YtieffigehkjifaaEdB
namespace Go.Proofs.Ytieffigehkjifaa
open E
set_option maxRecDepth 100000
set_option linter.unusedVariables false
set_option linter.unusedSimpArgs false


def badA (l : List At) (i : Nat) (a : At) : Bool := bif nameB a.key then (bif decide (16 < (a.val.size : Int)) then true else decide (0 ≤ idxI (pKey a) (l.take i))) else true
def attrsB (l : List At) : Bool := (List.range l.length).all (fun i => match l[i]? with
  | some a => !badA l i a
  | none => true) && decide ((l.length : Int) ≤ 4)
def rightS (s : Sp) : Bool := bif nameB s.svc then (bif nameB s.op then (bif decide (0 ≤ s.start) then (bif decide (s.start ≤ 1099511627776) then (bif decide (0 ≤ s.dur) then (bif decide (s.dur ≤ 1073741824) then (bif decide ((s.attrs.length : Int) ≤ 4) then attrsB s.attrs else false) else false) else false) else false) else false) else false) else false
def callM (s x : Sp) : Bool := bif (decide (x.hi = s.hi) && (decide (x.lo = s.lo) && true)) then (bif x.id == s.par then rightS x else false) else false
def callerS (batch : List Sp) (s : Sp) : ByteArray × Bool := match batch.find? (callM s) with
  | some x => (x.svc, !(x.svc.toList == s.svc.toList))
  | none => (ByteArray.empty, false)
def atS (l : List At) (r : Bool) (i : Nat) : SL := ⟨[(0, .sl 2 (l.map At.row)), (2, Bo r), (5, .sl 2 (l.map At.row)), (6, I (l.length : Int)), (7, I (i : Int))], [], []⟩
def caS (b : List Sp) (s : Sp) (r1 : ByteArray) (r2 : Bool) (i : Nat) : SL := ⟨[(3, .ptr 1000 0 0 0), (4, Sg r1), (5, Bo r2), (8, .sl 10 (b.map Sp.row)), (9, I (b.length : Int)), (10, I (i : Int))], [(1000, .box s.row)], [1000]⟩
noncomputable def atB : Code := codeAt Try.prog 17 [true, false, true, false, false]

noncomputable def caB : Code := codeAt Try.prog 14 [true, false, true, false, false]

theorem cKeys (l : List At) (a : At) (hs : l.length ≤ 1000000000000000) : Contract Try.prog 24 [.sl 2 (l.map At.row), .clo (.func 25) [] [.ptr 0 0 0 0]] [.box a.row] (Bo (decide (0 ≤ idxI (pKey a) l))) [some (.box a.row)] :=
  vcP hmix [.reg 1 [(2, [.call [0] [] (I (idxI (pKey a) l)) [some (.box a.row)]], none)]] [] [
      Contract Try.prog (30 : Nat) [V.sl (2 : Nat) (List.map At.row l), V.clo (Fn.func (25 : Nat)) [] [V.ptr (0 : Nat) (0 : Nat) (0 : Nat) (0 : Nat)]] [Obj.box [Sg (At.key a), Sg (At.val a)]] (I (idxI (pKey a) l)) [some (Obj.box (At.row a))]] (by kernel_rfl)
    (by
      simp only [allP]
      and_intros <;> first
        | omega
        | with_reducible assumption
        | exact ixK l a hs
        | (simp; done)
        | decide)

theorem atStopA (l : List At) (a : At) (i : Nat) (h : i < l.length) (hx : l[i]? = some a) (hs : l.length ≤ 1000000000) (h1 : nameB a.key = false) : CodeC Try.prog 0 33 atB (atS l false i) .ret (atS l false i) :=
  runP hmix [.reg 2 [(0, [], some true)], .reg 3 [(2, [.row (At.row a)], none)], .reg 4 [(2, [.call [] [] (Bo (nameB a.key)) []], some false)]] ⟨[0, 2, 5, 6, 7], [], []⟩ [
      decide (Int.ofNat i < Int.ofNat (List.length l)) = true,
      (0 : Int) ≤ Int.ofNat i,
      Int.ofNat i < Int.ofNat (List.length (List.map At.row l)),
      (List.map At.row l)[i]? = some (At.row a),
      Contract Try.prog (16 : Nat) [Sg (At.key a)] [] (Bo (nameB (At.key a))) [],
      nameB (At.key a) = false] (by kernel_rfl)
    (by
      simp only [allP]
      and_intros <;> first
        | omega
        | with_reducible assumption
        | exact cName a.key
        | exact cKeys (l.take i) a (by simp; omega)
        | (simp; omega)
        | (simp [hx]; done)
        | exact i64_small (by simp; omega)
        | (simp [List.map_take]; done)
        | (simp; done)
        | decide)

theorem atStopB (l : List At) (a : At) (i : Nat) (h : i < l.length) (hx : l[i]? = some a) (hs : l.length ≤ 1000000000) (h1 : nameB a.key = true) (h2 : decide (16 < (a.val.size : Int)) = true) : CodeC Try.prog 0 33 atB (atS l false i) .ret (atS l false i) :=
  runP hmix [.reg 2 [(0, [], some true)], .reg 3 [(2, [.row (At.row a)], none)], .reg 4 [(2, [.call [] [] (Bo (nameB a.key)) []], some true), (8, [], some true)]] ⟨[0, 2, 5, 6, 7], [], []⟩ [
      decide (Int.ofNat i < Int.ofNat (List.length l)) = true,
      (0 : Int) ≤ Int.ofNat i,
      Int.ofNat i < Int.ofNat (List.length (List.map At.row l)),
      (List.map At.row l)[i]? = some (At.row a),
      Contract Try.prog (16 : Nat) [Sg (At.key a)] [] (Bo (nameB (At.key a))) [],
      nameB (At.key a) = true,
      decide (Int.ofNat (ByteArray.size (At.val a)) > (16 : Int)) = true] (by kernel_rfl)
    (by
      simp only [allP]
      and_intros <;> first
        | omega
        | with_reducible assumption
        | exact cName a.key
        | exact cKeys (l.take i) a (by simp; omega)
        | (simp; omega)
        | (simp [hx]; done)
        | exact i64_small (by simp; omega)
        | (simp [List.map_take]; done)
        | (simp; done)
        | decide)

theorem atStopC (l : List At) (a : At) (i : Nat) (h : i < l.length) (hx : l[i]? = some a) (hs : l.length ≤ 1000000000) (h1 : nameB a.key = true) (h2 : decide (16 < (a.val.size : Int)) = false) (h3 : decide (0 ≤ idxI (pKey a) (l.take i)) = true) : CodeC Try.prog 0 33 atB (atS l false i) .ret (atS l false i) :=
  runP hmix [.reg 2 [(0, [], some true)], .reg 3 [(2, [.row (At.row a)], none)], .reg 4 [(2, [.call [] [] (Bo (nameB a.key)) []], some true), (8, [], some false), (13, [.be (.sl 2 ((l.take i).map At.row))], none), (15, [.call [604000] [] (Bo (decide (0 ≤ idxI (pKey a) (l.take i)))) [some (.box a.row)]], some true)]] ⟨[0, 2, 5, 6, 7], [], []⟩ [
      decide (Int.ofNat i < Int.ofNat (List.length l)) = true,
      (0 : Int) ≤ Int.ofNat i,
      Int.ofNat i < Int.ofNat (List.length (List.map At.row l)),
      (List.map At.row l)[i]? = some (At.row a),
      Contract Try.prog (16 : Nat) [Sg (At.key a)] [] (Bo (nameB (At.key a))) [],
      nameB (At.key a) = true,
      decide (Int.ofNat (ByteArray.size (At.val a)) > (16 : Int)) = false,
      (0 : Int) ≤ (0 : Int),
      (0 : Int) ≤ Int.ofNat i,
      Int.ofNat i ≤ Int.ofNat (List.length (List.map At.row l)),
      List.take i (List.map At.row l) = List.map At.row (List.take i l),
      Contract Try.prog (24 : Nat) [V.sl (2 : Nat) (List.map At.row (List.take i l)), V.clo (Fn.func (25 : Nat)) [] [V.ptr (0 : Nat) (0 : Nat) (0 : Nat) (0 : Nat)]] [Obj.box [Sg (At.key a), Sg (At.val a)]] (Bo (decide ((0 : Int) ≤ idxI (pKey a) (List.take i l)))) [some (Obj.box (At.row a))],
      decide ((0 : Int) ≤ idxI (pKey a) (List.take i l)) = true] (by kernel_rfl)
    (by
      simp only [allP]
      and_intros <;> first
        | omega
        | with_reducible assumption
        | exact cName a.key
        | exact cKeys (l.take i) a (by simp; omega)
        | (simp; omega)
        | (simp [hx]; done)
        | exact i64_small (by simp; omega)
        | (simp [List.map_take]; done)
        | (simp; done)
        | decide)

theorem atGo (l : List At) (a : At) (i : Nat) (h : i < l.length) (hx : l[i]? = some a) (hs : l.length ≤ 1000000000) (h1 : nameB a.key = true) (h2 : decide (16 < (a.val.size : Int)) = false) (h3 : decide (0 ≤ idxI (pKey a) (l.take i)) = false) : CodeC Try.prog 0 33 atB (atS l false i) .normal (atS l false (i + 1)) :=
  runP hmix [.reg 2 [(0, [], some true)], .reg 3 [(2, [.row (At.row a)], none)], .reg 4 [(2, [.call [] [] (Bo (nameB a.key)) []], some true), (8, [], some false), (13, [.be (.sl 2 ((l.take i).map At.row))], none), (15, [.call [604000] [] (Bo (decide (0 ≤ idxI (pKey a) (l.take i)))) [some (.box a.row)]], some false)], .reg 6 [(0, [.be (I ((i + 1 : Nat) : Int))], none)]] ⟨[0, 2, 5, 6, 7], [], []⟩ [
      decide (Int.ofNat i < Int.ofNat (List.length l)) = true,
      (0 : Int) ≤ Int.ofNat i,
      Int.ofNat i < Int.ofNat (List.length (List.map At.row l)),
      (List.map At.row l)[i]? = some (At.row a),
      Contract Try.prog (16 : Nat) [Sg (At.key a)] [] (Bo (nameB (At.key a))) [],
      nameB (At.key a) = true,
      decide (Int.ofNat (ByteArray.size (At.val a)) > (16 : Int)) = false,
      (0 : Int) ≤ (0 : Int),
      (0 : Int) ≤ Int.ofNat i,
      Int.ofNat i ≤ Int.ofNat (List.length (List.map At.row l)),
      List.take i (List.map At.row l) = List.map At.row (List.take i l),
      Contract Try.prog (24 : Nat) [V.sl (2 : Nat) (List.map At.row (List.take i l)), V.clo (Fn.func (25 : Nat)) [] [V.ptr (0 : Nat) (0 : Nat) (0 : Nat) (0 : Nat)]] [Obj.box [Sg (At.key a), Sg (At.val a)]] (Bo (decide ((0 : Int) ≤ idxI (pKey a) (List.take i l)))) [some (Obj.box (At.row a))],
      decide ((0 : Int) ≤ idxI (pKey a) (List.take i l)) = false,
      IntKind.wrap IntKind.i64 (Int.ofNat (i + (1 : Nat))) = Int.ofNat (i + (1 : Nat))] (by kernel_rfl)
    (by
      simp only [allP]
      and_intros <;> first
        | omega
        | with_reducible assumption
        | exact cName a.key
        | exact cKeys (l.take i) a (by simp; omega)
        | (simp; omega)
        | (simp [hx]; done)
        | exact i64_small (by simp; omega)
        | (simp [List.map_take]; done)
        | (simp; done)
        | decide)

theorem atEnd (l : List At) (i : Nat) (h : l.length ≤ i) : CodeC Try.prog 0 33 atB (atS l false i) (.exit 0) (atS l false i) :=
  runP hmix [.reg 2 [(0, [], some false)]] ⟨[0, 2, 5, 6, 7], [], []⟩ [
      decide (Int.ofNat i < Int.ofNat (List.length l)) = false] (by kernel_rfl)
    (by
      simp only [allP]
      and_intros <;> first
        | omega
        | with_reducible assumption
        | (simp; omega)
        | (simp; done)
        | decide)

theorem atBad (l : List At) (i : Nat) (hl : LoopC Try.prog 0 33 atB (atS l false 0) .ret (atS l false i)) : Contract Try.prog 17 [.sl 2 (l.map At.row)] [] (Bo false) [] :=
  vcP hmix [.reg 1 [(1, [.be (I (l.length : Int))], none)], .cut ⟨[0, 2, 5, 6, 7], [], []⟩ .ret (atS l false i)] [] [
      Int.ofNat (List.length (List.map At.row l)) = Int.ofNat (List.length l),
      LoopC Try.prog (0 : Nat) (33 : Nat) atB { env := [((0 : Nat), V.sl (2 : Nat) (List.map At.row l)), ((2 : Nat), Bo false), ((5 : Nat), V.sl (2 : Nat) (List.map At.row l)), ((6 : Nat), I (Int.ofNat (List.length l))), ((7 : Nat), I (0 : Int))], st := [], ids := [] } Ex.ret { env := [((0 : Nat), V.sl (2 : Nat) (List.map At.row l)), ((2 : Nat), Bo false), ((5 : Nat), V.sl (2 : Nat) (List.map At.row l)), ((6 : Nat), I (Int.ofNat (List.length l))), ((7 : Nat), I (Int.ofNat i))], st := [], ids := [] }] (by kernel_rfl)
    (by
      simp only [allP]
      and_intros <;> first
        | omega
        | with_reducible assumption
        | exact hl
        | (simp; done)
        | decide)

theorem atGood (l : List At) (hl : LoopC Try.prog 0 33 atB (atS l false 0) (.exit 0) (atS l false l.length)) : Contract Try.prog 17 [.sl 2 (l.map At.row)] [] (Bo (decide ((l.length : Int) ≤ 4))) [] :=
  vcP hmix [.reg 1 [(1, [.be (I (l.length : Int))], none)], .cut ⟨[0, 2, 5, 6, 7], [], []⟩ (.exit 0) (atS l false l.length), .reg 7 [(1, [.be (I (l.length : Int))], none)]] [] [
      Int.ofNat (List.length (List.map At.row l)) = Int.ofNat (List.length l),
      LoopC Try.prog (0 : Nat) (33 : Nat) atB { env := [((0 : Nat), V.sl (2 : Nat) (List.map At.row l)), ((2 : Nat), Bo false), ((5 : Nat), V.sl (2 : Nat) (List.map At.row l)), ((6 : Nat), I (Int.ofNat (List.length l))), ((7 : Nat), I (0 : Int))], st := [], ids := [] } (Ex.exit (0 : Nat)) { env := [((0 : Nat), V.sl (2 : Nat) (List.map At.row l)), ((2 : Nat), Bo false), ((5 : Nat), V.sl (2 : Nat) (List.map At.row l)), ((6 : Nat), I (Int.ofNat (List.length l))), ((7 : Nat), I (Int.ofNat (List.length l)))], st := [], ids := [] },
      Int.ofNat (List.length (List.map At.row l)) = Int.ofNat (List.length l)] (by kernel_rfl)
    (by
      simp only [allP]
      and_intros <;> first
        | omega
        | with_reducible assumption
        | exact hl
        | (simp; done)
        | decide)

theorem cAttrs (l : List At) (hs : l.length ≤ 1000000000) : Contract Try.prog 17 [.sl 2 (l.map At.row)] [] (Bo (attrsB l)) [] := by
  rcases LoopC.search (P := Try.prog) (k := 0) (n := 33) (c := atB) l (badA l) (fun i => atS l false i) (fun i => atS l false i) (e1 := .ret) (e2 := .exit 0) (by simp) (by simp)
    (fun i a hx hi hb => by
      unfold badA at hb
      cases h1 : nameB a.key with
      | false => rw [h1] at hb; cases hb
      | true =>
        cases h2 : decide (16 < (a.val.size : Int)) with
        | true => rw [h1, h2] at hb; cases hb
        | false => rw [h1, h2] at hb; exact atGo l a i hi hx hs h1 h2 hb)
    (fun i a hx hi hb => by
      unfold badA at hb
      cases h1 : nameB a.key with
      | false => exact atStopA l a i hi hx hs h1
      | true =>
        cases h2 : decide (16 < (a.val.size : Int)) with
        | true => exact atStopB l a i hi hx hs h1 h2
        | false => rw [h1, h2] at hb; exact atStopC l a i hi hx hs h1 h2 hb)
    (atEnd l _ (Nat.le_refl _)) with ⟨i, a, k1, k2, _, k4⟩ | ⟨k1, k2⟩
  · have : attrsB l = false := by
      unfold attrsB
      rw [Bool.and_eq_false_iff]
      left
      rw [List.all_eq_false]
      exact ⟨i, List.mem_range.2 (List.getElem?_eq_some_iff.1 k1).1, by rw [k1]; simp [k2]⟩
    rw [this]
    exact atBad l i k4
  · have : attrsB l = decide ((l.length : Int) ≤ 4) := by
      unfold attrsB
      have : ((List.range l.length).all fun i => match l[i]? with
        | some a => !badA l i a
        | none => true) = true := by
        rw [List.all_eq_true]
        intro i hi
        cases hx : l[i]? with
        | none => rfl
        | some a => simp [k1 i a hx]
      rw [this, Bool.true_and]
    rw [this]
    exact atGood l k2

theorem right0 (s : Sp) (hs : s.attrs.length ≤ 1000000000) (h0 : (nameB s.svc) = false) : Contract Try.prog 13 [s.v] [] (Bo (rightS s)) [] := by
  unfold rightS
  rw [h0]
  exact vcP hmix [.reg 1 [(2, [.call [] [] (Bo (nameB s.svc)) []], some false)]] [] [
      Contract Try.prog (16 : Nat) [Sg (Sp.svc s)] [] (Bo (nameB (Sp.svc s))) [],
      nameB (Sp.svc s) = false] (by kernel_rfl)
    (by
      simp only [allP]
      and_intros <;> first
        | omega
        | with_reducible assumption
        | exact cName _
        | exact cAttrs _ hs
        | (simp; done)
        | (simp; done)
        | decide)

theorem right1 (s : Sp) (hs : s.attrs.length ≤ 1000000000) (h0 : (nameB s.svc) = true) (h1 : (nameB s.op) = false) : Contract Try.prog 13 [s.v] [] (Bo (rightS s)) [] := by
  unfold rightS
  rw [h0, h1]
  exact vcP hmix [.reg 1 [(2, [.call [] [] (Bo (nameB s.svc)) []], some true), (6, [.call [] [] (Bo (nameB s.op)) []], some false)]] [] [
      Contract Try.prog (16 : Nat) [Sg (Sp.svc s)] [] (Bo (nameB (Sp.svc s))) [],
      nameB (Sp.svc s) = true,
      Contract Try.prog (16 : Nat) [Sg (Sp.op s)] [] (Bo (nameB (Sp.op s))) [],
      nameB (Sp.op s) = false] (by kernel_rfl)
    (by
      simp only [allP]
      and_intros <;> first
        | omega
        | with_reducible assumption
        | exact cName _
        | exact cAttrs _ hs
        | (simp; done)
        | (simp; done)
        | decide)

theorem right2 (s : Sp) (hs : s.attrs.length ≤ 1000000000) (h0 : (nameB s.svc) = true) (h1 : (nameB s.op) = true) (h2 : (decide (0 ≤ s.start)) = false) : Contract Try.prog 13 [s.v] [] (Bo (rightS s)) [] := by
  unfold rightS
  rw [h0, h1, h2]
  exact vcP hmix [.reg 1 [(2, [.call [] [] (Bo (nameB s.svc)) []], some true), (6, [.call [] [] (Bo (nameB s.op)) []], some true), (11, [], some false)]] [] [
      Contract Try.prog (16 : Nat) [Sg (Sp.svc s)] [] (Bo (nameB (Sp.svc s))) [],
      nameB (Sp.svc s) = true,
      Contract Try.prog (16 : Nat) [Sg (Sp.op s)] [] (Bo (nameB (Sp.op s))) [],
      nameB (Sp.op s) = true,
      decide (Sp.start s ≥ (0 : Int)) = false] (by kernel_rfl)
    (by
      simp only [allP]
      and_intros <;> first
        | omega
        | with_reducible assumption
        | exact cName _
        | exact cAttrs _ hs
        | (simp; done)
        | (simp; done)
        | decide)

theorem right3 (s : Sp) (hs : s.attrs.length ≤ 1000000000) (h0 : (nameB s.svc) = true) (h1 : (nameB s.op) = true) (h2 : (decide (0 ≤ s.start)) = true) (h3 : (decide (s.start ≤ 1099511627776)) = false) : Contract Try.prog 13 [s.v] [] (Bo (rightS s)) [] := by
  unfold rightS
  rw [h0, h1, h2, h3]
  exact vcP hmix [.reg 1 [(2, [.call [] [] (Bo (nameB s.svc)) []], some true), (6, [.call [] [] (Bo (nameB s.op)) []], some true), (11, [], some true), (16, [], some false)]] [] [
      Contract Try.prog (16 : Nat) [Sg (Sp.svc s)] [] (Bo (nameB (Sp.svc s))) [],
      nameB (Sp.svc s) = true,
      Contract Try.prog (16 : Nat) [Sg (Sp.op s)] [] (Bo (nameB (Sp.op s))) [],
      nameB (Sp.op s) = true,
      decide (Sp.start s ≥ (0 : Int)) = true,
      decide (Sp.start s ≤ (1099511627776 : Int)) = false] (by kernel_rfl)
    (by
      simp only [allP]
      and_intros <;> first
        | omega
        | with_reducible assumption
        | exact cName _
        | exact cAttrs _ hs
        | (simp; done)
        | (simp; done)
        | decide)

theorem right4 (s : Sp) (hs : s.attrs.length ≤ 1000000000) (h0 : (nameB s.svc) = true) (h1 : (nameB s.op) = true) (h2 : (decide (0 ≤ s.start)) = true) (h3 : (decide (s.start ≤ 1099511627776)) = true) (h4 : (decide (0 ≤ s.dur)) = false) : Contract Try.prog 13 [s.v] [] (Bo (rightS s)) [] := by
  unfold rightS
  rw [h0, h1, h2, h3, h4]
  exact vcP hmix [.reg 1 [(2, [.call [] [] (Bo (nameB s.svc)) []], some true), (6, [.call [] [] (Bo (nameB s.op)) []], some true), (11, [], some true), (16, [], some true), (21, [], some false)]] [] [
      Contract Try.prog (16 : Nat) [Sg (Sp.svc s)] [] (Bo (nameB (Sp.svc s))) [],
      nameB (Sp.svc s) = true,
      Contract Try.prog (16 : Nat) [Sg (Sp.op s)] [] (Bo (nameB (Sp.op s))) [],
      nameB (Sp.op s) = true,
      decide (Sp.start s ≥ (0 : Int)) = true,
      decide (Sp.start s ≤ (1099511627776 : Int)) = true,
      decide (Sp.dur s ≥ (0 : Int)) = false] (by kernel_rfl)
    (by
      simp only [allP]
      and_intros <;> first
        | omega
        | with_reducible assumption
        | exact cName _
        | exact cAttrs _ hs
        | (simp; done)
        | (simp; done)
        | decide)

theorem right5 (s : Sp) (hs : s.attrs.length ≤ 1000000000) (h0 : (nameB s.svc) = true) (h1 : (nameB s.op) = true) (h2 : (decide (0 ≤ s.start)) = true) (h3 : (decide (s.start ≤ 1099511627776)) = true) (h4 : (decide (0 ≤ s.dur)) = true) (h5 : (decide (s.dur ≤ 1073741824)) = false) : Contract Try.prog 13 [s.v] [] (Bo (rightS s)) [] := by
  unfold rightS
  rw [h0, h1, h2, h3, h4, h5]
  exact vcP hmix [.reg 1 [(2, [.call [] [] (Bo (nameB s.svc)) []], some true), (6, [.call [] [] (Bo (nameB s.op)) []], some true), (11, [], some true), (16, [], some true), (21, [], some true), (26, [], some false)]] [] [
      Contract Try.prog (16 : Nat) [Sg (Sp.svc s)] [] (Bo (nameB (Sp.svc s))) [],
      nameB (Sp.svc s) = true,
      Contract Try.prog (16 : Nat) [Sg (Sp.op s)] [] (Bo (nameB (Sp.op s))) [],
      nameB (Sp.op s) = true,
      decide (Sp.start s ≥ (0 : Int)) = true,
      decide (Sp.start s ≤ (1099511627776 : Int)) = true,
      decide (Sp.dur s ≥ (0 : Int)) = true,
      decide (Sp.dur s ≤ (1073741824 : Int)) = false] (by kernel_rfl)
    (by
      simp only [allP]
      and_intros <;> first
        | omega
        | with_reducible assumption
        | exact cName _
        | exact cAttrs _ hs
        | (simp; done)
        | (simp; done)
        | decide)

theorem right6 (s : Sp) (hs : s.attrs.length ≤ 1000000000) (h0 : (nameB s.svc) = true) (h1 : (nameB s.op) = true) (h2 : (decide (0 ≤ s.start)) = true) (h3 : (decide (s.start ≤ 1099511627776)) = true) (h4 : (decide (0 ≤ s.dur)) = true) (h5 : (decide (s.dur ≤ 1073741824)) = true) (h6 : (decide ((s.attrs.length : Int) ≤ 4)) = false) : Contract Try.prog 13 [s.v] [] (Bo (rightS s)) [] := by
  unfold rightS
  rw [h0, h1, h2, h3, h4, h5, h6]
  exact vcP hmix [.reg 1 [(2, [.call [] [] (Bo (nameB s.svc)) []], some true), (6, [.call [] [] (Bo (nameB s.op)) []], some true), (11, [], some true), (16, [], some true), (21, [], some true), (26, [], some true), (31, [.be (I (s.attrs.length : Int))], none), (32, [], some false)]] [] [
      Contract Try.prog (16 : Nat) [Sg (Sp.svc s)] [] (Bo (nameB (Sp.svc s))) [],
      nameB (Sp.svc s) = true,
      Contract Try.prog (16 : Nat) [Sg (Sp.op s)] [] (Bo (nameB (Sp.op s))) [],
      nameB (Sp.op s) = true,
      decide (Sp.start s ≥ (0 : Int)) = true,
      decide (Sp.start s ≤ (1099511627776 : Int)) = true,
      decide (Sp.dur s ≥ (0 : Int)) = true,
      decide (Sp.dur s ≤ (1073741824 : Int)) = true,
      Int.ofNat (List.length (List.map At.row (Sp.attrs s))) = Int.ofNat (List.length (Sp.attrs s)),
      decide (Int.ofNat (List.length (Sp.attrs s)) ≤ (4 : Int)) = false] (by kernel_rfl)
    (by
      simp only [allP]
      and_intros <;> first
        | omega
        | with_reducible assumption
        | exact cName _
        | exact cAttrs _ hs
        | (simp; done)
        | (simp; done)
        | decide)

theorem right7 (s : Sp) (hs : s.attrs.length ≤ 1000000000) (h0 : (nameB s.svc) = true) (h1 : (nameB s.op) = true) (h2 : (decide (0 ≤ s.start)) = true) (h3 : (decide (s.start ≤ 1099511627776)) = true) (h4 : (decide (0 ≤ s.dur)) = true) (h5 : (decide (s.dur ≤ 1073741824)) = true) (h6 : (decide ((s.attrs.length : Int) ≤ 4)) = true) : Contract Try.prog 13 [s.v] [] (Bo (rightS s)) [] := by
  unfold rightS
  rw [h0, h1, h2, h3, h4, h5, h6]
  exact vcP hmix [.reg 1 [(2, [.call [] [] (Bo (nameB s.svc)) []], some true), (6, [.call [] [] (Bo (nameB s.op)) []], some true), (11, [], some true), (16, [], some true), (21, [], some true), (26, [], some true), (31, [.be (I (s.attrs.length : Int))], none), (32, [], some true), (37, [.call [] [] (Bo (attrsB s.attrs)) []], none)]] [] [
      Contract Try.prog (16 : Nat) [Sg (Sp.svc s)] [] (Bo (nameB (Sp.svc s))) [],
      nameB (Sp.svc s) = true,
      Contract Try.prog (16 : Nat) [Sg (Sp.op s)] [] (Bo (nameB (Sp.op s))) [],
      nameB (Sp.op s) = true,
      decide (Sp.start s ≥ (0 : Int)) = true,
      decide (Sp.start s ≤ (1099511627776 : Int)) = true,
      decide (Sp.dur s ≥ (0 : Int)) = true,
      decide (Sp.dur s ≤ (1073741824 : Int)) = true,
      Int.ofNat (List.length (List.map At.row (Sp.attrs s))) = Int.ofNat (List.length (Sp.attrs s)),
      decide (Int.ofNat (List.length (Sp.attrs s)) ≤ (4 : Int)) = true,
      Contract Try.prog (17 : Nat) [V.sl (2 : Nat) (List.map At.row (Sp.attrs s))] [] (Bo (attrsB (Sp.attrs s))) []] (by kernel_rfl)
    (by
      simp only [allP]
      and_intros <;> first
        | omega
        | with_reducible assumption
        | exact cName _
        | exact cAttrs _ hs
        | (simp; done)
        | (simp; done)
        | decide)

theorem cRight (s : Sp) (hs : s.attrs.length ≤ 1000000000) : Contract Try.prog 13 [s.v] [] (Bo (rightS s)) [] := by
  cases h0 : (nameB s.svc) with
  | false => exact right0 s hs h0
  | true =>
    cases h1 : (nameB s.op) with
    | false => exact right1 s hs h0 h1
    | true =>
      cases h2 : (decide (0 ≤ s.start)) with
      | false => exact right2 s hs h0 h1 h2
      | true =>
        cases h3 : (decide (s.start ≤ 1099511627776)) with
        | false => exact right3 s hs h0 h1 h2 h3
        | true =>
          cases h4 : (decide (0 ≤ s.dur)) with
          | false => exact right4 s hs h0 h1 h2 h3 h4
          | true =>
            cases h5 : (decide (s.dur ≤ 1073741824)) with
            | false => exact right5 s hs h0 h1 h2 h3 h4 h5
            | true =>
              cases h6 : (decide ((s.attrs.length : Int) ≤ 4)) with
              | false => exact right6 s hs h0 h1 h2 h3 h4 h5 h6
              | true =>
                exact right7 s hs h0 h1 h2 h3 h4 h5 h6

theorem caGoA (b : List Sp) (s x : Sp) (i : Nat) (h : i < b.length) (hx : b[i]? = some x) (hs : b.length ≤ 1000000000) (ha : x.attrs.length ≤ 1000000000) (h1 : (decide (x.hi = s.hi) && (decide (x.lo = s.lo) && true)) = false) : CodeC Try.prog 0 38 caB (caS b s ByteArray.empty false i) .normal (caS b s ByteArray.empty false (i + 1)) :=
  runP hmix [.reg 2 [(0, [], some true)], .reg 3 [(1, [.row (Sp.row x)], none)], .reg 4 [(4, [], some false)], .reg 6 [(0, [.be (I ((i + 1 : Nat) : Int))], none)]] ⟨[3, 4, 5, 8, 9, 10], [(1000, 1000)], []⟩ [
      decide (Int.ofNat i < Int.ofNat (List.length b)) = true,
      (0 : Int) ≤ Int.ofNat i,
      Int.ofNat i < Int.ofNat (List.length (List.map Sp.row b)),
      (List.map Sp.row b)[i]? = some (Sp.row x),
      (decide (Sp.hi x = Sp.hi s) && (decide (Sp.lo x = Sp.lo s) && true)) = false,
      IntKind.wrap IntKind.i64 (Int.ofNat (i + (1 : Nat))) = Int.ofNat (i + (1 : Nat))] (by kernel_rfl)
    (by
      simp only [allP]
      and_intros <;> first
        | omega
        | with_reducible assumption
        | exact cRight x ha
        | (simp; omega)
        | (simp [hx]; done)
        | exact i64_small (by simp; omega)
        | exact h1
        | exact h2
        | exact h3
        | (simp; done)
        | decide)

theorem caGoB (b : List Sp) (s x : Sp) (i : Nat) (h : i < b.length) (hx : b[i]? = some x) (hs : b.length ≤ 1000000000) (ha : x.attrs.length ≤ 1000000000) (h1 : (decide (x.hi = s.hi) && (decide (x.lo = s.lo) && true)) = true) (h2 : (x.id == s.par) = false) : CodeC Try.prog 0 38 caB (caS b s ByteArray.empty false i) .normal (caS b s ByteArray.empty false (i + 1)) :=
  runP hmix [.reg 2 [(0, [], some true)], .reg 3 [(1, [.row (Sp.row x)], none)], .reg 4 [(4, [], some true), (10, [], some false)], .reg 6 [(0, [.be (I ((i + 1 : Nat) : Int))], none)]] ⟨[3, 4, 5, 8, 9, 10], [(1000, 1000)], []⟩ [
      decide (Int.ofNat i < Int.ofNat (List.length b)) = true,
      (0 : Int) ≤ Int.ofNat i,
      Int.ofNat i < Int.ofNat (List.length (List.map Sp.row b)),
      (List.map Sp.row b)[i]? = some (Sp.row x),
      (decide (Sp.hi x = Sp.hi s) && (decide (Sp.lo x = Sp.lo s) && true)) = true,
      (Sp.id x == Sp.par s) = false,
      IntKind.wrap IntKind.i64 (Int.ofNat (i + (1 : Nat))) = Int.ofNat (i + (1 : Nat))] (by kernel_rfl)
    (by
      simp only [allP]
      and_intros <;> first
        | omega
        | with_reducible assumption
        | exact cRight x ha
        | (simp; omega)
        | (simp [hx]; done)
        | exact i64_small (by simp; omega)
        | exact h1
        | exact h2
        | exact h3
        | (simp; done)
        | decide)

theorem caGoC (b : List Sp) (s x : Sp) (i : Nat) (h : i < b.length) (hx : b[i]? = some x) (hs : b.length ≤ 1000000000) (ha : x.attrs.length ≤ 1000000000) (h1 : (decide (x.hi = s.hi) && (decide (x.lo = s.lo) && true)) = true) (h2 : (x.id == s.par) = true) (h3 : rightS x = false) : CodeC Try.prog 0 38 caB (caS b s ByteArray.empty false i) .normal (caS b s ByteArray.empty false (i + 1)) :=
  runP hmix [.reg 2 [(0, [], some true)], .reg 3 [(1, [.row (Sp.row x)], none)], .reg 4 [(4, [], some true), (10, [], some true), (14, [.call [] [] (Bo (rightS x)) []], some false)], .reg 6 [(0, [.be (I ((i + 1 : Nat) : Int))], none)]] ⟨[3, 4, 5, 8, 9, 10], [(1000, 1000)], []⟩ [
      decide (Int.ofNat i < Int.ofNat (List.length b)) = true,
      (0 : Int) ≤ Int.ofNat i,
      Int.ofNat i < Int.ofNat (List.length (List.map Sp.row b)),
      (List.map Sp.row b)[i]? = some (Sp.row x),
      (decide (Sp.hi x = Sp.hi s) && (decide (Sp.lo x = Sp.lo s) && true)) = true,
      (Sp.id x == Sp.par s) = true,
      Contract Try.prog (13 : Nat) [V.agg [V.val (Value.int IntKind.u64 (Sp.hi x)), V.val (Value.int IntKind.u64 (Sp.lo x)), V.val (Value.int IntKind.u64 (Sp.id x)), V.val (Value.int IntKind.u64 (Sp.par x)), Sg (Sp.svc x), Sg (Sp.op x), I (Sp.start x), I (Sp.dur x), Bo (Sp.err x), V.sl (2 : Nat) (List.map At.row (Sp.attrs x))]] [] (Bo (rightS x)) [],
      rightS x = false,
      IntKind.wrap IntKind.i64 (Int.ofNat (i + (1 : Nat))) = Int.ofNat (i + (1 : Nat))] (by kernel_rfl)
    (by
      simp only [allP]
      and_intros <;> first
        | omega
        | with_reducible assumption
        | exact cRight x ha
        | (simp; omega)
        | (simp [hx]; done)
        | exact i64_small (by simp; omega)
        | exact h1
        | exact h2
        | exact h3
        | (simp; done)
        | decide)

theorem caStop (b : List Sp) (s x : Sp) (i : Nat) (h : i < b.length) (hx : b[i]? = some x) (hs : b.length ≤ 1000000000) (ha : x.attrs.length ≤ 1000000000) (h1 : (decide (x.hi = s.hi) && (decide (x.lo = s.lo) && true)) = true) (h2 : (x.id == s.par) = true) (h3 : rightS x = true) : CodeC Try.prog 0 38 caB (caS b s ByteArray.empty false i) .ret (caS b s x.svc (!(x.svc.toList == s.svc.toList)) i) :=
  runP hmix [.reg 2 [(0, [], some true)], .reg 3 [(1, [.row (Sp.row x)], none)], .reg 4 [(4, [], some true), (10, [], some true), (14, [.call [] [] (Bo (rightS x)) []], some true)]] ⟨[3, 4, 5, 8, 9, 10], [(1000, 1000)], []⟩ [
      decide (Int.ofNat i < Int.ofNat (List.length b)) = true,
      (0 : Int) ≤ Int.ofNat i,
      Int.ofNat i < Int.ofNat (List.length (List.map Sp.row b)),
      (List.map Sp.row b)[i]? = some (Sp.row x),
      (decide (Sp.hi x = Sp.hi s) && (decide (Sp.lo x = Sp.lo s) && true)) = true,
      (Sp.id x == Sp.par s) = true,
      Contract Try.prog (13 : Nat) [V.agg [V.val (Value.int IntKind.u64 (Sp.hi x)), V.val (Value.int IntKind.u64 (Sp.lo x)), V.val (Value.int IntKind.u64 (Sp.id x)), V.val (Value.int IntKind.u64 (Sp.par x)), Sg (Sp.svc x), Sg (Sp.op x), I (Sp.start x), I (Sp.dur x), Bo (Sp.err x), V.sl (2 : Nat) (List.map At.row (Sp.attrs x))]] [] (Bo (rightS x)) [],
      rightS x = true] (by kernel_rfl)
    (by
      simp only [allP]
      and_intros <;> first
        | omega
        | with_reducible assumption
        | exact cRight x ha
        | (simp; omega)
        | (simp [hx]; done)
        | exact i64_small (by simp; omega)
        | exact h1
        | exact h2
        | exact h3
        | (simp; done)
        | decide)

theorem caEnd (b : List Sp) (s : Sp) (i : Nat) (h : b.length ≤ i) : CodeC Try.prog 0 38 caB (caS b s ByteArray.empty false i) (.exit 0) (caS b s ByteArray.empty false i) :=
  runP hmix [.reg 2 [(0, [], some false)]] ⟨[3, 4, 5, 8, 9, 10], [(1000, 1000)], []⟩ [
      decide (Int.ofNat i < Int.ofNat (List.length b)) = false] (by kernel_rfl)
    (by
      simp only [allP]
      and_intros <;> first
        | omega
        | with_reducible assumption
        | (simp; omega)
        | (simp; done)
        | decide)

theorem caSome (b : List Sp) (s x : Sp) (i : Nat) (hl : LoopC Try.prog 0 38 caB (caS b s ByteArray.empty false 0) .ret (caS b s x.svc (!(x.svc.toList == s.svc.toList)) i)) : Contract Try.prog 14 [.sl 10 (b.map Sp.row), s.v] [] (.tup [Sg x.svc, Bo (!(x.svc.toList == s.svc.toList))]) [] :=
  vcP hmix [.reg 1 [(1, [.be (I (b.length : Int))], none)], .cut ⟨[3, 4, 5, 8, 9, 10], [(1000, 1000)], []⟩ .ret (caS b s x.svc (!(x.svc.toList == s.svc.toList)) i)] [] [
      Int.ofNat (List.length (List.map Sp.row b)) = Int.ofNat (List.length b),
      LoopC Try.prog (0 : Nat) (38 : Nat) caB { env := [((3 : Nat), V.ptr (1000 : Nat) (0 : Nat) (0 : Nat) (0 : Nat)), ((4 : Nat), Sg { data := { toList := [] } }), ((5 : Nat), Bo false), ((8 : Nat), V.sl (10 : Nat) (List.map Sp.row b)), ((9 : Nat), I (Int.ofNat (List.length b))), ((10 : Nat), I (0 : Int))], st := [((1000 : Nat), Obj.box [V.val (Value.int IntKind.u64 (Sp.hi s)), V.val (Value.int IntKind.u64 (Sp.lo s)), V.val (Value.int IntKind.u64 (Sp.id s)), V.val (Value.int IntKind.u64 (Sp.par s)), Sg (Sp.svc s), Sg (Sp.op s), I (Sp.start s), I (Sp.dur s), Bo (Sp.err s), V.sl (2 : Nat) (List.map At.row (Sp.attrs s))])], ids := [(1000 : Nat)] } Ex.ret { env := [((3 : Nat), V.ptr (1000 : Nat) (0 : Nat) (0 : Nat) (0 : Nat)), ((4 : Nat), Sg (Sp.svc x)), ((5 : Nat), Bo !ByteArray.toList (Sp.svc x) == ByteArray.toList (Sp.svc s)), ((8 : Nat), V.sl (10 : Nat) (List.map Sp.row b)), ((9 : Nat), I (Int.ofNat (List.length b))), ((10 : Nat), I (Int.ofNat i))], st := [((1000 : Nat), Obj.box (Sp.row s))], ids := [(1000 : Nat)] }] (by kernel_rfl)
    (by
      simp only [allP]
      and_intros <;> first
        | omega
        | with_reducible assumption
        | exact hl
        | (simp; done)
        | (simp; done)
        | decide)

theorem caNone (b : List Sp) (s : Sp) (hl : LoopC Try.prog 0 38 caB (caS b s ByteArray.empty false 0) (.exit 0) (caS b s ByteArray.empty false b.length)) : Contract Try.prog 14 [.sl 10 (b.map Sp.row), s.v] [] (.tup [Sg ByteArray.empty, Bo false]) [] :=
  vcP hmix [.reg 1 [(1, [.be (I (b.length : Int))], none)], .cut ⟨[3, 4, 5, 8, 9, 10], [(1000, 1000)], []⟩ (.exit 0) (caS b s ByteArray.empty false b.length)] [] [
      Int.ofNat (List.length (List.map Sp.row b)) = Int.ofNat (List.length b),
      LoopC Try.prog (0 : Nat) (38 : Nat) caB { env := [((3 : Nat), V.ptr (1000 : Nat) (0 : Nat) (0 : Nat) (0 : Nat)), ((4 : Nat), Sg { data := { toList := [] } }), ((5 : Nat), Bo false), ((8 : Nat), V.sl (10 : Nat) (List.map Sp.row b)), ((9 : Nat), I (Int.ofNat (List.length b))), ((10 : Nat), I (0 : Int))], st := [((1000 : Nat), Obj.box [V.val (Value.int IntKind.u64 (Sp.hi s)), V.val (Value.int IntKind.u64 (Sp.lo s)), V.val (Value.int IntKind.u64 (Sp.id s)), V.val (Value.int IntKind.u64 (Sp.par s)), Sg (Sp.svc s), Sg (Sp.op s), I (Sp.start s), I (Sp.dur s), Bo (Sp.err s), V.sl (2 : Nat) (List.map At.row (Sp.attrs s))])], ids := [(1000 : Nat)] } (Ex.exit (0 : Nat)) { env := [((3 : Nat), V.ptr (1000 : Nat) (0 : Nat) (0 : Nat) (0 : Nat)), ((4 : Nat), Sg { data := { toList := [] } }), ((5 : Nat), Bo false), ((8 : Nat), V.sl (10 : Nat) (List.map Sp.row b)), ((9 : Nat), I (Int.ofNat (List.length b))), ((10 : Nat), I (Int.ofNat (List.length b)))], st := [((1000 : Nat), Obj.box (Sp.row s))], ids := [(1000 : Nat)] }] (by kernel_rfl)
    (by
      simp only [allP]
      and_intros <;> first
        | omega
        | with_reducible assumption
        | exact hl
        | (simp; done)
        | (simp; done)
        | decide)

theorem cCaller (b : List Sp) (s : Sp) (hs : b.length ≤ 1000000000) (ha : ∀ x ∈ b, x.attrs.length ≤ 1000000000) : Contract Try.prog 14 [.sl 10 (b.map Sp.row), s.v] [] (.tup [Sg (callerS b s).1, Bo (callerS b s).2]) [] := by
  rcases LoopC.search (P := Try.prog) (k := 0) (n := 38) (c := caB) b (fun _ x => callM s x) (fun i => caS b s ByteArray.empty false i) (fun i => match b[i]? with
      | some x => caS b s x.svc (!(x.svc.toList == s.svc.toList)) i
      | none => caS b s ByteArray.empty false i) (e1 := .ret) (e2 := .exit 0) (by simp) (by simp)
    (fun i x hx hi hb => by
      have hax := ha x (List.mem_of_getElem? hx)
      unfold callM at hb
      cases h1 : (decide (x.hi = s.hi) && (decide (x.lo = s.lo) && true)) with
      | false => exact caGoA b s x i hi hx hs hax h1
      | true =>
        cases h2 : x.id == s.par with
        | false => exact caGoB b s x i hi hx hs hax h1 h2
        | true => rw [h1, h2] at hb; exact caGoC b s x i hi hx hs hax h1 h2 hb)
    (fun i x hx hi hb => by
      have hax := ha x (List.mem_of_getElem? hx)
      unfold callM at hb
      simp only [hx]
      cases h1 : (decide (x.hi = s.hi) && (decide (x.lo = s.lo) && true)) with
      | false => rw [h1] at hb; cases hb
      | true =>
        cases h2 : x.id == s.par with
        | false => rw [h1, h2] at hb; cases hb
        | true => rw [h1, h2] at hb; exact caStop b s x i hi hx hs hax h1 h2 hb)
    (caEnd b s _ (Nat.le_refl _)) with ⟨i, x, k1, k2, k3, k4⟩ | ⟨k1, k2⟩
  · unfold callerS
    rw [find_first k1 k2 fun j y hj hy => k3 j y hj hy]
    simp only [k1] at k4
    exact caSome b s x i k4
  · unfold callerS
    rw [find_none fun i x hx => k1 i x hx]
    exact caNone b s k2

end Go.Proofs.Ytieffigehkjifaa
