/- spans: which may be. -/
import Derived.Test.YtigakemkanobaaaSpA
namespace Go.Proofs.Ytigakemkanobaaa
open E
set_option maxRecDepth 100000
set_option linter.unusedVariables false
set_option linter.unusedSimpArgs false

def atS (l : List At) (r : Bool) (i : Nat) : SL := ⟨[(0, .sl 2 (l.map At.row)), (2, Bo r), (5, .sl 2 (l.map At.row)), (6, I (l.length : Int)), (7, I (i : Int))], [], []⟩
noncomputable def atB : Code := codeAt Try.prog 41 [true, false, true, false, false]

theorem cKeys_0 (l : List At) (a : At) (hs : l.length ≤ 1000000000000000) : Contract Try.prog 52 [.sl 2 (l.map At.row), .clo (.func 53) [] [.ptr 0 0 0 0]] [.box a.row] (Bo (decide (idxI (pKey a) l ≥ (0 : Int)))) ([some (Obj.box [Sg (At.key a), Sg (At.val a)])]) :=
  vcP hmix [.reg 1 [(2, [.call [0] [] (I (idxI (pKey a) l)) [some (.box a.row)]], none)]] [] [
      Contract Try.prog (62 : Nat) [V.sl (2 : Nat) (List.map At.row l), V.clo (Fn.func (53 : Nat)) [] [V.ptr (0 : Nat) (0 : Nat) (0 : Nat) (0 : Nat)]] [Obj.box [Sg (At.key a), Sg (At.val a)]] (I (idxI (pKey a) l)) [some (Obj.box (At.row a))]] (by kernel_rfl)
    (by
      simp only [allP]
      and_intros <;> first
        | exact ixK l a hs)

theorem cKeys (l : List At) (a : At) (hs : l.length ≤ 1000000000000000) : Contract Try.prog 52 [.sl 2 (l.map At.row), .clo (.func 53) [] [.ptr 0 0 0 0]] [.box a.row] (Bo (decide (0 ≤ idxI (pKey a) l))) [some (.box a.row)] := by
  exact Contract.cast (by
    first
      | rfl) (by
    first
      | rfl) (cKeys_0 l a hs )

theorem at_0 (l : List At) (a : At) (i : Nat) (h : i < l.length) (hx : l[i]? = some a) (hs : l.length ≤ 1000000000) (tq0 : (!nameB (At.key a)) = true) : CodeC Try.prog 0 33 atB (atS l false i) (Ex.ret) ({ env := [((0 : Nat), V.sl (2 : Nat) (List.map At.row l)), ((2 : Nat), Bo false), ((5 : Nat), V.sl (2 : Nat) (List.map At.row l)), ((6 : Nat), I (Int.ofNat (List.length l))), ((7 : Nat), I (Int.ofNat i))], st := [], ids := [] }) :=
  runP hmix [.reg 2 [(0, [], some true)], .reg 3 [(2, [.row (At.row a)], none)], .reg 4 [(4, [], some true), (13, [.be (.sl 2 ((l.take i).map At.row))], none), (15, [.call [604000] [] (Bo (decide (0 ≤ idxI (pKey a) (l.take i)))) [some (.box a.row)]], none)], .tab [(40, FName)]] ⟨[0, 2, 5, 6, 7], [], []⟩ [
      decide (Int.ofNat i < Int.ofNat (List.length l)) = true,
      (0 : Int) ≤ Int.ofNat i,
      Int.ofNat i < Int.ofNat (List.length (List.map At.row l)),
      (List.map At.row l)[i]? = some (At.row a),
      Contract Try.prog (40 : Nat) [Sg (At.key a)] [] (Bo (nameB (At.key a))) [],
      (!nameB (At.key a)) = true] (by kernel_rfl)
    (by
      have d0 := tq0
      try simp only [Int.ofNat_eq_natCast, List.length_map, Bool.not_eq_true', Bool.not_eq_false', decide_eq_true_eq, decide_eq_false_iff_not] at d0
      simp only [allP]
      and_intros <;> first
        | omega
        | exact cName a.key
        | (simp; omega)
        | (simp [hx]; done))

theorem at_1 (l : List At) (a : At) (i : Nat) (h : i < l.length) (hx : l[i]? = some a) (hs : l.length ≤ 1000000000) (tq0 : (!nameB (At.key a)) = false) (tq1 : (decide (Int.ofNat (ByteArray.size (At.val a)) > (16 : Int))) = true) : CodeC Try.prog 0 33 atB (atS l false i) (Ex.ret) ({ env := [((0 : Nat), V.sl (2 : Nat) (List.map At.row l)), ((2 : Nat), Bo false), ((5 : Nat), V.sl (2 : Nat) (List.map At.row l)), ((6 : Nat), I (Int.ofNat (List.length l))), ((7 : Nat), I (Int.ofNat i))], st := [], ids := [] }) :=
  runP hmix [.reg 2 [(0, [], some true)], .reg 3 [(2, [.row (At.row a)], none)], .reg 4 [(4, [], some false), (10, [], some true), (13, [.be (.sl 2 ((l.take i).map At.row))], none), (15, [.call [604000] [] (Bo (decide (0 ≤ idxI (pKey a) (l.take i)))) [some (.box a.row)]], none)], .tab [(40, FName)]] ⟨[0, 2, 5, 6, 7], [], []⟩ [
      decide (Int.ofNat i < Int.ofNat (List.length l)) = true,
      (0 : Int) ≤ Int.ofNat i,
      Int.ofNat i < Int.ofNat (List.length (List.map At.row l)),
      (List.map At.row l)[i]? = some (At.row a),
      Contract Try.prog (40 : Nat) [Sg (At.key a)] [] (Bo (nameB (At.key a))) [],
      (!nameB (At.key a)) = false,
      decide (Int.ofNat (ByteArray.size (At.val a)) > (16 : Int)) = true] (by kernel_rfl)
    (by
      have d0 := tq0
      have d1 := tq1
      try simp only [Int.ofNat_eq_natCast, List.length_map, Bool.not_eq_true', Bool.not_eq_false', decide_eq_true_eq, decide_eq_false_iff_not] at d0 d1
      simp only [allP]
      and_intros <;> first
        | omega
        | exact cName a.key
        | (simp; omega)
        | (simp [hx]; done))

theorem at_2 (l : List At) (a : At) (i : Nat) (h : i < l.length) (hx : l[i]? = some a) (hs : l.length ≤ 1000000000) (tq0 : (!nameB (At.key a)) = false) (tq1 : (decide (Int.ofNat (ByteArray.size (At.val a)) > (16 : Int))) = false) (tq2 : (decide ((0 : Int) ≤ idxI (pKey a) (List.take i l))) = true) : CodeC Try.prog 0 33 atB (atS l false i) (Ex.ret) ({ env := [((0 : Nat), V.sl (2 : Nat) (List.map At.row l)), ((2 : Nat), Bo false), ((5 : Nat), V.sl (2 : Nat) (List.map At.row l)), ((6 : Nat), I (Int.ofNat (List.length l))), ((7 : Nat), I (Int.ofNat i))], st := [], ids := [] }) :=
  runP hmix [.reg 2 [(0, [], some true)], .reg 3 [(2, [.row (At.row a)], none)], .reg 4 [(4, [], some false), (10, [], some false), (13, [.be (.sl 2 ((l.take i).map At.row))], none), (15, [.call [604000] [] (Bo (decide (0 ≤ idxI (pKey a) (l.take i)))) [some (.box a.row)]], none), (16, [], some true)], .tab [(40, FName)]] ⟨[0, 2, 5, 6, 7], [], []⟩ [
      decide (Int.ofNat i < Int.ofNat (List.length l)) = true,
      (0 : Int) ≤ Int.ofNat i,
      Int.ofNat i < Int.ofNat (List.length (List.map At.row l)),
      (List.map At.row l)[i]? = some (At.row a),
      Contract Try.prog (40 : Nat) [Sg (At.key a)] [] (Bo (nameB (At.key a))) [],
      (!nameB (At.key a)) = false,
      decide (Int.ofNat (ByteArray.size (At.val a)) > (16 : Int)) = false,
      (0 : Int) ≤ (0 : Int),
      (0 : Int) ≤ Int.ofNat i,
      Int.ofNat i ≤ Int.ofNat (List.length (List.map At.row l)),
      List.take i (List.map At.row l) = List.map At.row (List.take i l),
      Contract Try.prog (52 : Nat) [V.sl (2 : Nat) (List.map At.row (List.take i l)), V.clo (Fn.func (53 : Nat)) [] [V.ptr (0 : Nat) (0 : Nat) (0 : Nat) (0 : Nat)]] [Obj.box [Sg (At.key a), Sg (At.val a)]] (Bo (decide ((0 : Int) ≤ idxI (pKey a) (List.take i l)))) [some (Obj.box (At.row a))],
      decide ((0 : Int) ≤ idxI (pKey a) (List.take i l)) = true] (by kernel_rfl)
    (by
      have d0 := tq0
      have d1 := tq1
      have d2 := tq2
      try simp only [Int.ofNat_eq_natCast, List.length_map, Bool.not_eq_true', Bool.not_eq_false', decide_eq_true_eq, decide_eq_false_iff_not] at d0 d1 d2
      simp only [allP]
      and_intros <;> first
        | omega
        | exact cName a.key
        | exact cKeys (l.take i) a (by simp; omega)
        | (simp; omega)
        | (simp [hx]; done))

theorem at_3 (l : List At) (a : At) (i : Nat) (h : i < l.length) (hx : l[i]? = some a) (hs : l.length ≤ 1000000000) (tq0 : (!nameB (At.key a)) = false) (tq1 : (decide (Int.ofNat (ByteArray.size (At.val a)) > (16 : Int))) = false) (tq2 : (decide ((0 : Int) ≤ idxI (pKey a) (List.take i l))) = false) : CodeC Try.prog 0 33 atB (atS l false i) (Ex.normal) ({ env := [((0 : Nat), V.sl (2 : Nat) (List.map At.row l)), ((2 : Nat), Bo false), ((5 : Nat), V.sl (2 : Nat) (List.map At.row l)), ((6 : Nat), I (Int.ofNat (List.length l))), ((7 : Nat), I (Int.ofNat (i + (1 : Nat))))], st := [], ids := [] }) :=
  runP hmix [.reg 2 [(0, [], some true)], .reg 3 [(2, [.row (At.row a)], none)], .reg 4 [(4, [], some false), (10, [], some false), (13, [.be (.sl 2 ((l.take i).map At.row))], none), (15, [.call [604000] [] (Bo (decide (0 ≤ idxI (pKey a) (l.take i)))) [some (.box a.row)]], none), (16, [], some false)], .reg 6 [(0, [.be (I ((i + 1 : Nat) : Int))], none)], .tab [(40, FName)]] ⟨[0, 2, 5, 6, 7], [], []⟩ [
      decide (Int.ofNat i < Int.ofNat (List.length l)) = true,
      (0 : Int) ≤ Int.ofNat i,
      Int.ofNat i < Int.ofNat (List.length (List.map At.row l)),
      (List.map At.row l)[i]? = some (At.row a),
      Contract Try.prog (40 : Nat) [Sg (At.key a)] [] (Bo (nameB (At.key a))) [],
      (!nameB (At.key a)) = false,
      decide (Int.ofNat (ByteArray.size (At.val a)) > (16 : Int)) = false,
      (0 : Int) ≤ (0 : Int),
      (0 : Int) ≤ Int.ofNat i,
      Int.ofNat i ≤ Int.ofNat (List.length (List.map At.row l)),
      List.take i (List.map At.row l) = List.map At.row (List.take i l),
      Contract Try.prog (52 : Nat) [V.sl (2 : Nat) (List.map At.row (List.take i l)), V.clo (Fn.func (53 : Nat)) [] [V.ptr (0 : Nat) (0 : Nat) (0 : Nat) (0 : Nat)]] [Obj.box [Sg (At.key a), Sg (At.val a)]] (Bo (decide ((0 : Int) ≤ idxI (pKey a) (List.take i l)))) [some (Obj.box (At.row a))],
      decide ((0 : Int) ≤ idxI (pKey a) (List.take i l)) = false,
      IntKind.wrap IntKind.i64 (Int.ofNat (i + (1 : Nat))) = Int.ofNat (i + (1 : Nat))] (by kernel_rfl)
    (by
      have d0 := tq0
      have d1 := tq1
      have d2 := tq2
      try simp only [Int.ofNat_eq_natCast, List.length_map, Bool.not_eq_true', Bool.not_eq_false', decide_eq_true_eq, decide_eq_false_iff_not] at d0 d1 d2
      simp only [allP]
      and_intros <;> first
        | omega
        | exact cName a.key
        | exact cKeys (l.take i) a (by simp; omega)
        | (simp; omega)
        | (simp [hx]; done)
        | exact i64_small (by simp; omega))

theorem atGo (l : List At) (a : At) (i : Nat) (h : i < l.length) (hx : l[i]? = some a) (hs : l.length ≤ 1000000000) (hb : badA l i a = false) : CodeC Try.prog 0 33 atB (atS l false i) .normal (atS l false (i + 1)) := by
  rcases tf (!nameB (At.key a)) with tq0 | tq0
  · exact absurd hb (by
      first
        | (simp [badA, tq0]; done))
  · rcases tf (decide (Int.ofNat (ByteArray.size (At.val a)) > (16 : Int))) with tq1 | tq1
    · exact absurd hb (by
        first
          | ((try simp only [Int.ofNat_eq_natCast, List.length_map, Bool.not_eq_true', Bool.not_eq_false', decide_eq_true_eq, decide_eq_false_iff_not] at tq0 tq1); simp [badA, tq0, tq1]; done))
    · rcases tf (decide ((0 : Int) ≤ idxI (pKey a) (List.take i l))) with tq2 | tq2
      · exact absurd hb (by
          first
            | (simp [badA, tq0, tq1, tq2]; done))
      · exact CodeC.cast (by
          first
            | rfl) (at_3 l a i h hx hs tq0 tq1 tq2)

theorem atStop (l : List At) (a : At) (i : Nat) (h : i < l.length) (hx : l[i]? = some a) (hs : l.length ≤ 1000000000) (hb : badA l i a = true) : CodeC Try.prog 0 33 atB (atS l false i) .ret (atS l false i) := by
  rcases tf (!nameB (At.key a)) with tq0 | tq0
  · exact CodeC.cast (by
      first
        | rfl) (at_0 l a i h hx hs tq0)
  · rcases tf (decide (Int.ofNat (ByteArray.size (At.val a)) > (16 : Int))) with tq1 | tq1
    · exact CodeC.cast (by
        first
          | rfl) (at_1 l a i h hx hs tq0 tq1)
    · rcases tf (decide ((0 : Int) ≤ idxI (pKey a) (List.take i l))) with tq2 | tq2
      · exact CodeC.cast (by
          first
            | rfl) (at_2 l a i h hx hs tq0 tq1 tq2)
      · exact absurd hb (by
          first
            | ((try simp only [Int.ofNat_eq_natCast, List.length_map, Bool.not_eq_true', Bool.not_eq_false', decide_eq_true_eq, decide_eq_false_iff_not] at tq0 tq1 tq2); simp [badA, tq0, tq1, tq2]; done))

theorem atE_0 (l : List At) (i : Nat) (h : l.length ≤ i) : CodeC Try.prog 0 33 atB (atS l false i) (Ex.exit (0 : Nat)) ({ env := [((0 : Nat), V.sl (2 : Nat) (List.map At.row l)), ((2 : Nat), Bo false), ((5 : Nat), V.sl (2 : Nat) (List.map At.row l)), ((6 : Nat), I (Int.ofNat (List.length l))), ((7 : Nat), I (Int.ofNat i))], st := [], ids := [] }) :=
  runP hmix [.reg 2 [(0, [], some false)]] ⟨[0, 2, 5, 6, 7], [], []⟩ [
      decide (Int.ofNat i < Int.ofNat (List.length l)) = false] (by kernel_rfl)
    (by
      simp only [allP]
      and_intros <;> first
        | (simp; omega))

theorem atE (l : List At) (i : Nat) (h : l.length ≤ i)  : CodeC Try.prog 0 33 atB (atS l false i) (.exit 0) (atS l false i) := by
  exact CodeC.cast (by
    first
      | rfl) (atE_0 l i h )

theorem atBad_0 (l : List At) (i : Nat) (hl : LoopC Try.prog 0 33 atB (atS l false 0) .ret (atS l false i)) : Contract Try.prog 41 [.sl 2 (l.map At.row)] [] (Bo false) ([]) :=
  vcP hmix [.reg 1 [(1, [.be (I (l.length : Int))], none)], .cut ⟨[0, 2, 5, 6, 7], [], []⟩ .ret (atS l false i)] [] [
      Int.ofNat (List.length (List.map At.row l)) = Int.ofNat (List.length l),
      LoopC Try.prog (0 : Nat) (33 : Nat) atB { env := [((0 : Nat), V.sl (2 : Nat) (List.map At.row l)), ((2 : Nat), Bo false), ((5 : Nat), V.sl (2 : Nat) (List.map At.row l)), ((6 : Nat), I (Int.ofNat (List.length l))), ((7 : Nat), I (0 : Int))], st := [], ids := [] } Ex.ret { env := [((0 : Nat), V.sl (2 : Nat) (List.map At.row l)), ((2 : Nat), Bo false), ((5 : Nat), V.sl (2 : Nat) (List.map At.row l)), ((6 : Nat), I (Int.ofNat (List.length l))), ((7 : Nat), I (Int.ofNat i))], st := [], ids := [] }] (by kernel_rfl)
    (by
      simp only [allP]
      and_intros <;> first
        | exact hl
        | (simp; done))

theorem atBad (l : List At) (i : Nat) (hl : LoopC Try.prog 0 33 atB (atS l false 0) .ret (atS l false i)) : Contract Try.prog 41 [.sl 2 (l.map At.row)] [] (Bo false) [] := by
  exact Contract.cast (by
    first
      | rfl) (by
    first
      | rfl) (atBad_0 l i hl )

theorem atGood_0 (l : List At) (hl : LoopC Try.prog 0 33 atB (atS l false 0) (.exit 0) (atS l false l.length)) : Contract Try.prog 41 [.sl 2 (l.map At.row)] [] (Bo (decide (Int.ofNat (List.length l) ≤ (4 : Int)))) ([]) :=
  vcP hmix [.reg 1 [(1, [.be (I (l.length : Int))], none)], .cut ⟨[0, 2, 5, 6, 7], [], []⟩ (.exit 0) (atS l false l.length), .reg 7 [(1, [.be (I (l.length : Int))], none)]] [] [
      Int.ofNat (List.length (List.map At.row l)) = Int.ofNat (List.length l),
      LoopC Try.prog (0 : Nat) (33 : Nat) atB { env := [((0 : Nat), V.sl (2 : Nat) (List.map At.row l)), ((2 : Nat), Bo false), ((5 : Nat), V.sl (2 : Nat) (List.map At.row l)), ((6 : Nat), I (Int.ofNat (List.length l))), ((7 : Nat), I (0 : Int))], st := [], ids := [] } (Ex.exit (0 : Nat)) { env := [((0 : Nat), V.sl (2 : Nat) (List.map At.row l)), ((2 : Nat), Bo false), ((5 : Nat), V.sl (2 : Nat) (List.map At.row l)), ((6 : Nat), I (Int.ofNat (List.length l))), ((7 : Nat), I (Int.ofNat (List.length l)))], st := [], ids := [] },
      Int.ofNat (List.length (List.map At.row l)) = Int.ofNat (List.length l)] (by kernel_rfl)
    (by
      simp only [allP]
      and_intros <;> first
        | exact hl
        | (simp; done))

theorem atGood (l : List At) (hl : LoopC Try.prog 0 33 atB (atS l false 0) (.exit 0) (atS l false l.length)) : Contract Try.prog 41 [.sl 2 (l.map At.row)] [] (Bo (decide ((l.length : Int) ≤ 4))) [] := by
  exact Contract.cast (by
    first
      | rfl) (by
    first
      | rfl) (atGood_0 l hl )

theorem cAttrs (l : List At) (hs : l.length ≤ 1000000000) : Contract Try.prog 41 [.sl 2 (l.map At.row)] [] (Bo (attrsB l)) [] := by
  rcases LoopC.search (P := Try.prog) (k := 0) (n := 33) (c := atB) l (badA l) (fun i => atS l false i) (fun i => atS l false i) (e1 := .ret) (e2 := .exit 0) (by simp) (by simp)
    (fun i a hx hi hb => atGo l a i hi hx hs hb) (fun i a hx hi hb => atStop l a i hi hx hs hb) (atE l _ (Nat.le_refl _)) with ⟨i, a, k1, k2, _, k4⟩ | ⟨k1, k2⟩
  · rw [attrs_bad k1 k2]; exact atBad l i k4
  · rw [attrs_good k1]; exact atGood l k2

theorem cRight_0 (s : Sp) (hs : s.attrs.length ≤ 1000000000) (tq0 : (nameB (Sp.svc s)) = true) (tq1 : (nameB (Sp.op s)) = true) (tq2 : (decide (Sp.start s ≥ (0 : Int))) = true) (tq3 : (decide (Sp.start s ≤ (1099511627776 : Int))) = true) (tq4 : (decide (Sp.dur s ≥ (0 : Int))) = true) (tq5 : (decide (Sp.dur s ≤ (1073741824 : Int))) = true) (tq6 : (decide (Int.ofNat (List.length (Sp.attrs s)) ≤ (4 : Int))) = true) : Contract Try.prog 31 [s.v] [] (Bo (attrsB (Sp.attrs s))) ([]) :=
  vcP hmix [.reg 1 [(3, [], some true), (8, [], some true), (13, [], some true), (18, [], some true), (23, [], some true), (28, [], some true), (31, [.be (I (s.attrs.length : Int))], none), (34, [], some true), (37, [.call [] [] (Bo (attrsB s.attrs)) []], none)], .tab [(40, FName)]] [] [
      Contract Try.prog (40 : Nat) [Sg (Sp.svc s)] [] (Bo (nameB (Sp.svc s))) [],
      nameB (Sp.svc s) = true,
      Contract Try.prog (40 : Nat) [Sg (Sp.op s)] [] (Bo (nameB (Sp.op s))) [],
      nameB (Sp.op s) = true,
      decide (Sp.start s ≥ (0 : Int)) = true,
      decide (Sp.start s ≤ (1099511627776 : Int)) = true,
      decide (Sp.dur s ≥ (0 : Int)) = true,
      decide (Sp.dur s ≤ (1073741824 : Int)) = true,
      Int.ofNat (List.length (List.map At.row (Sp.attrs s))) = Int.ofNat (List.length (Sp.attrs s)),
      decide (Int.ofNat (List.length (Sp.attrs s)) ≤ (4 : Int)) = true,
      Contract Try.prog (41 : Nat) [V.sl (2 : Nat) (List.map At.row (Sp.attrs s))] [] (Bo (attrsB (Sp.attrs s))) []] (by kernel_rfl)
    (by
      have d0 := tq0
      have d1 := tq1
      have d2 := tq2
      have d3 := tq3
      have d4 := tq4
      have d5 := tq5
      have d6 := tq6
      try simp only [Int.ofNat_eq_natCast, List.length_map, Bool.not_eq_true', Bool.not_eq_false', decide_eq_true_eq, decide_eq_false_iff_not] at d0 d1 d2 d3 d4 d5 d6
      simp only [allP]
      and_intros <;> first
        | omega
        | exact cName _
        | exact cAttrs _ hs
        | (simp; done))

theorem cRight_1 (s : Sp) (hs : s.attrs.length ≤ 1000000000) (tq0 : (nameB (Sp.svc s)) = true) (tq1 : (nameB (Sp.op s)) = true) (tq2 : (decide (Sp.start s ≥ (0 : Int))) = true) (tq3 : (decide (Sp.start s ≤ (1099511627776 : Int))) = true) (tq4 : (decide (Sp.dur s ≥ (0 : Int))) = true) (tq5 : (decide (Sp.dur s ≤ (1073741824 : Int))) = true) (tq6 : (decide (Int.ofNat (List.length (Sp.attrs s)) ≤ (4 : Int))) = false) : Contract Try.prog 31 [s.v] [] (Bo false) ([]) :=
  vcP hmix [.reg 1 [(3, [], some true), (8, [], some true), (13, [], some true), (18, [], some true), (23, [], some true), (28, [], some true), (31, [.be (I (s.attrs.length : Int))], none), (34, [], some false), (37, [.call [] [] (Bo (attrsB s.attrs)) []], none)], .tab [(40, FName)]] [] [
      Contract Try.prog (40 : Nat) [Sg (Sp.svc s)] [] (Bo (nameB (Sp.svc s))) [],
      nameB (Sp.svc s) = true,
      Contract Try.prog (40 : Nat) [Sg (Sp.op s)] [] (Bo (nameB (Sp.op s))) [],
      nameB (Sp.op s) = true,
      decide (Sp.start s ≥ (0 : Int)) = true,
      decide (Sp.start s ≤ (1099511627776 : Int)) = true,
      decide (Sp.dur s ≥ (0 : Int)) = true,
      decide (Sp.dur s ≤ (1073741824 : Int)) = true,
      Int.ofNat (List.length (List.map At.row (Sp.attrs s))) = Int.ofNat (List.length (Sp.attrs s)),
      decide (Int.ofNat (List.length (Sp.attrs s)) ≤ (4 : Int)) = false] (by kernel_rfl)
    (by
      have d0 := tq0
      have d1 := tq1
      have d2 := tq2
      have d3 := tq3
      have d4 := tq4
      have d5 := tq5
      have d6 := tq6
      try simp only [Int.ofNat_eq_natCast, List.length_map, Bool.not_eq_true', Bool.not_eq_false', decide_eq_true_eq, decide_eq_false_iff_not] at d0 d1 d2 d3 d4 d5 d6
      simp only [allP]
      and_intros <;> first
        | omega
        | exact cName _
        | (simp; done))

theorem cRight_2 (s : Sp) (hs : s.attrs.length ≤ 1000000000) (tq0 : (nameB (Sp.svc s)) = true) (tq1 : (nameB (Sp.op s)) = true) (tq2 : (decide (Sp.start s ≥ (0 : Int))) = true) (tq3 : (decide (Sp.start s ≤ (1099511627776 : Int))) = true) (tq4 : (decide (Sp.dur s ≥ (0 : Int))) = true) (tq5 : (decide (Sp.dur s ≤ (1073741824 : Int))) = false) : Contract Try.prog 31 [s.v] [] (Bo false) ([]) :=
  vcP hmix [.reg 1 [(3, [], some true), (8, [], some true), (13, [], some true), (18, [], some true), (23, [], some true), (28, [], some false), (31, [.be (I (s.attrs.length : Int))], none), (37, [.call [] [] (Bo (attrsB s.attrs)) []], none)], .tab [(40, FName)]] [] [
      Contract Try.prog (40 : Nat) [Sg (Sp.svc s)] [] (Bo (nameB (Sp.svc s))) [],
      nameB (Sp.svc s) = true,
      Contract Try.prog (40 : Nat) [Sg (Sp.op s)] [] (Bo (nameB (Sp.op s))) [],
      nameB (Sp.op s) = true,
      decide (Sp.start s ≥ (0 : Int)) = true,
      decide (Sp.start s ≤ (1099511627776 : Int)) = true,
      decide (Sp.dur s ≥ (0 : Int)) = true,
      decide (Sp.dur s ≤ (1073741824 : Int)) = false] (by kernel_rfl)
    (by
      have d0 := tq0
      have d1 := tq1
      have d2 := tq2
      have d3 := tq3
      have d4 := tq4
      have d5 := tq5
      try simp only [Int.ofNat_eq_natCast, List.length_map, Bool.not_eq_true', Bool.not_eq_false', decide_eq_true_eq, decide_eq_false_iff_not] at d0 d1 d2 d3 d4 d5
      simp only [allP]
      and_intros <;> first
        | omega
        | exact cName _)

theorem cRight_3 (s : Sp) (hs : s.attrs.length ≤ 1000000000) (tq0 : (nameB (Sp.svc s)) = true) (tq1 : (nameB (Sp.op s)) = true) (tq2 : (decide (Sp.start s ≥ (0 : Int))) = true) (tq3 : (decide (Sp.start s ≤ (1099511627776 : Int))) = true) (tq4 : (decide (Sp.dur s ≥ (0 : Int))) = false) : Contract Try.prog 31 [s.v] [] (Bo false) ([]) :=
  vcP hmix [.reg 1 [(3, [], some true), (8, [], some true), (13, [], some true), (18, [], some true), (23, [], some false), (31, [.be (I (s.attrs.length : Int))], none), (37, [.call [] [] (Bo (attrsB s.attrs)) []], none)], .tab [(40, FName)]] [] [
      Contract Try.prog (40 : Nat) [Sg (Sp.svc s)] [] (Bo (nameB (Sp.svc s))) [],
      nameB (Sp.svc s) = true,
      Contract Try.prog (40 : Nat) [Sg (Sp.op s)] [] (Bo (nameB (Sp.op s))) [],
      nameB (Sp.op s) = true,
      decide (Sp.start s ≥ (0 : Int)) = true,
      decide (Sp.start s ≤ (1099511627776 : Int)) = true,
      decide (Sp.dur s ≥ (0 : Int)) = false] (by kernel_rfl)
    (by
      have d0 := tq0
      have d1 := tq1
      have d2 := tq2
      have d3 := tq3
      have d4 := tq4
      try simp only [Int.ofNat_eq_natCast, List.length_map, Bool.not_eq_true', Bool.not_eq_false', decide_eq_true_eq, decide_eq_false_iff_not] at d0 d1 d2 d3 d4
      simp only [allP]
      and_intros <;> first
        | omega
        | exact cName _)

theorem cRight_4 (s : Sp) (hs : s.attrs.length ≤ 1000000000) (tq0 : (nameB (Sp.svc s)) = true) (tq1 : (nameB (Sp.op s)) = true) (tq2 : (decide (Sp.start s ≥ (0 : Int))) = true) (tq3 : (decide (Sp.start s ≤ (1099511627776 : Int))) = false) : Contract Try.prog 31 [s.v] [] (Bo false) ([]) :=
  vcP hmix [.reg 1 [(3, [], some true), (8, [], some true), (13, [], some true), (18, [], some false), (31, [.be (I (s.attrs.length : Int))], none), (37, [.call [] [] (Bo (attrsB s.attrs)) []], none)], .tab [(40, FName)]] [] [
      Contract Try.prog (40 : Nat) [Sg (Sp.svc s)] [] (Bo (nameB (Sp.svc s))) [],
      nameB (Sp.svc s) = true,
      Contract Try.prog (40 : Nat) [Sg (Sp.op s)] [] (Bo (nameB (Sp.op s))) [],
      nameB (Sp.op s) = true,
      decide (Sp.start s ≥ (0 : Int)) = true,
      decide (Sp.start s ≤ (1099511627776 : Int)) = false] (by kernel_rfl)
    (by
      have d0 := tq0
      have d1 := tq1
      have d2 := tq2
      have d3 := tq3
      try simp only [Int.ofNat_eq_natCast, List.length_map, Bool.not_eq_true', Bool.not_eq_false', decide_eq_true_eq, decide_eq_false_iff_not] at d0 d1 d2 d3
      simp only [allP]
      and_intros <;> first
        | omega
        | exact cName _)

theorem cRight_5 (s : Sp) (hs : s.attrs.length ≤ 1000000000) (tq0 : (nameB (Sp.svc s)) = true) (tq1 : (nameB (Sp.op s)) = true) (tq2 : (decide (Sp.start s ≥ (0 : Int))) = false) : Contract Try.prog 31 [s.v] [] (Bo false) ([]) :=
  vcP hmix [.reg 1 [(3, [], some true), (8, [], some true), (13, [], some false), (31, [.be (I (s.attrs.length : Int))], none), (37, [.call [] [] (Bo (attrsB s.attrs)) []], none)], .tab [(40, FName)]] [] [
      Contract Try.prog (40 : Nat) [Sg (Sp.svc s)] [] (Bo (nameB (Sp.svc s))) [],
      nameB (Sp.svc s) = true,
      Contract Try.prog (40 : Nat) [Sg (Sp.op s)] [] (Bo (nameB (Sp.op s))) [],
      nameB (Sp.op s) = true,
      decide (Sp.start s ≥ (0 : Int)) = false] (by kernel_rfl)
    (by
      have d0 := tq0
      have d1 := tq1
      have d2 := tq2
      try simp only [Int.ofNat_eq_natCast, List.length_map, Bool.not_eq_true', Bool.not_eq_false', decide_eq_true_eq, decide_eq_false_iff_not] at d0 d1 d2
      simp only [allP]
      and_intros <;> first
        | omega
        | exact cName _)

theorem cRight_6 (s : Sp) (hs : s.attrs.length ≤ 1000000000) (tq0 : (nameB (Sp.svc s)) = true) (tq1 : (nameB (Sp.op s)) = false) : Contract Try.prog 31 [s.v] [] (Bo false) ([]) :=
  vcP hmix [.reg 1 [(3, [], some true), (8, [], some false), (31, [.be (I (s.attrs.length : Int))], none), (37, [.call [] [] (Bo (attrsB s.attrs)) []], none)], .tab [(40, FName)]] [] [
      Contract Try.prog (40 : Nat) [Sg (Sp.svc s)] [] (Bo (nameB (Sp.svc s))) [],
      nameB (Sp.svc s) = true,
      Contract Try.prog (40 : Nat) [Sg (Sp.op s)] [] (Bo (nameB (Sp.op s))) [],
      nameB (Sp.op s) = false] (by kernel_rfl)
    (by
      have d0 := tq0
      have d1 := tq1
      try simp only [Int.ofNat_eq_natCast, List.length_map, Bool.not_eq_true', Bool.not_eq_false', decide_eq_true_eq, decide_eq_false_iff_not] at d0 d1
      simp only [allP]
      and_intros <;> first
        | omega
        | exact cName _)

theorem cRight_7 (s : Sp) (hs : s.attrs.length ≤ 1000000000) (tq0 : (nameB (Sp.svc s)) = false) : Contract Try.prog 31 [s.v] [] (Bo false) ([]) :=
  vcP hmix [.reg 1 [(3, [], some false), (31, [.be (I (s.attrs.length : Int))], none), (37, [.call [] [] (Bo (attrsB s.attrs)) []], none)], .tab [(40, FName)]] [] [
      Contract Try.prog (40 : Nat) [Sg (Sp.svc s)] [] (Bo (nameB (Sp.svc s))) [],
      nameB (Sp.svc s) = false] (by kernel_rfl)
    (by
      have d0 := tq0
      try simp only [Int.ofNat_eq_natCast, List.length_map, Bool.not_eq_true', Bool.not_eq_false', decide_eq_true_eq, decide_eq_false_iff_not] at d0
      simp only [allP]
      and_intros <;> first
        | omega
        | exact cName _)

theorem cRight (s : Sp) (hs : s.attrs.length ≤ 1000000000) : Contract Try.prog 31 [s.v] [] (Bo (rightS s)) [] := by
  rcases tf (nameB (Sp.svc s)) with tq0 | tq0
  · rcases tf (nameB (Sp.op s)) with tq1 | tq1
    · rcases tf (decide (Sp.start s ≥ (0 : Int))) with tq2 | tq2
      · rcases tf (decide (Sp.start s ≤ (1099511627776 : Int))) with tq3 | tq3
        · rcases tf (decide (Sp.dur s ≥ (0 : Int))) with tq4 | tq4
          · rcases tf (decide (Sp.dur s ≤ (1073741824 : Int))) with tq5 | tq5
            · rcases tf (decide (Int.ofNat (List.length (Sp.attrs s)) ≤ (4 : Int))) with tq6 | tq6
              · exact Contract.cast (by
                  first
                    | ((try simp only [Int.ofNat_eq_natCast, List.length_map, Bool.not_eq_true', Bool.not_eq_false', decide_eq_true_eq, decide_eq_false_iff_not] at tq0 tq1 tq2 tq3 tq4 tq5 tq6); simp [rightS, withinB, tq0, tq1, tq2, tq3, tq4, tq5, tq6]; done)) (by
                  first
                    | rfl) (cRight_0 s hs tq0 tq1 tq2 tq3 tq4 tq5 tq6)
              · exact Contract.cast (by
                  first
                    | ((try simp only [Int.ofNat_eq_natCast, List.length_map, Bool.not_eq_true', Bool.not_eq_false', decide_eq_true_eq, decide_eq_false_iff_not] at tq0 tq1 tq2 tq3 tq4 tq5 tq6); simp [rightS, withinB, tq0, tq1, tq2, tq3, tq4, tq5, tq6]; done)) (by
                  first
                    | rfl) (cRight_1 s hs tq0 tq1 tq2 tq3 tq4 tq5 tq6)
            · exact Contract.cast (by
                first
                  | (simp only [rightS, withinB, tq0, tq1, tq2, tq3, tq4, tq5, cond_true, cond_false]; rfl)) (by
                first
                  | rfl) (cRight_2 s hs tq0 tq1 tq2 tq3 tq4 tq5)
          · exact Contract.cast (by
              first
                | (simp only [rightS, withinB, tq0, tq1, tq2, tq3, tq4, cond_true, cond_false]; rfl)) (by
              first
                | rfl) (cRight_3 s hs tq0 tq1 tq2 tq3 tq4)
        · exact Contract.cast (by
            first
              | (simp only [rightS, withinB, tq0, tq1, tq2, tq3, cond_true, cond_false]; rfl)) (by
            first
              | rfl) (cRight_4 s hs tq0 tq1 tq2 tq3)
      · exact Contract.cast (by
          first
            | (simp only [rightS, withinB, tq0, tq1, tq2, cond_true, cond_false]; rfl)) (by
          first
            | rfl) (cRight_5 s hs tq0 tq1 tq2)
    · exact Contract.cast (by
        first
          | (simp only [rightS, withinB, tq0, tq1, cond_true, cond_false]; rfl)) (by
        first
          | rfl) (cRight_6 s hs tq0 tq1)
  · exact Contract.cast (by
      first
        | (simp only [rightS, withinB, tq0, cond_true, cond_false]; rfl)) (by
      first
        | rfl) (cRight_7 s hs tq0)

end Go.Proofs.Ytigakemkanobaaa
