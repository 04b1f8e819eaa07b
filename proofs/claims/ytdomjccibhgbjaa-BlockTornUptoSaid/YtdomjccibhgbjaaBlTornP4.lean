/- episodes and blocks that may be, by the reference. -/
import Derived.Test.YtdomjccibhgbjaaBlTornP3
namespace Go.Proofs.Ytdomjccibhgbjaa
open E
set_option maxRecDepth 100000
set_option linter.unusedVariables false
set_option linter.unusedSimpArgs false

def countB (n : Int) : Bool := withinB n 0 1099511627776
def FCount : List V → Option V
  | [.val (.int _ n)] => some (Bo (countB n))
  | _ => none
def reS (e : Ep) (r : Bool) (i : Nat) : SL := ⟨[(1, .ptr 1000 0 0 0), (2, Bo r), (3, I (i : Int))], [(1000, .box e.row)], [1000]⟩
def rjS (e : Ep) (r : Bool) (i k : Nat) : SL := ⟨[(1, .ptr 1000 0 0 0), (2, Bo r), (3, I (i : Int)), (4, I (k : Int))], [(1000, .box e.row)], [1000]⟩
def badX (e : Ep) (x : Sp) : Bool := !rightS x || !(x.hi == e.hi && x.lo == e.lo)
/-- What is wrong with a span of an episode. -/
def badE (e : Ep) (i : Nat) (x : Sp) : Bool := badX e x || !allI (fun _ (y : Sp) => y.id == x.id) (e.spans.take i)
def rightE (e : Ep) : Bool := (countB e.first && countB e.last && !((e.spans.length : Int) == 0)) && allI (fun i (x : Sp) => badE e i x) e.spans
def rbS (b : Bk) (r : Bool) (i : Nat) : SL := ⟨[(1, .ptr 1000 0 0 0), (2, Bo r), (3, I (i : Int))], [(1000, .box b.row)], [1000]⟩
def badB (b : Bk) (i : Nat) (x : Ep) : Bool := !rightE x || (decide (0 < i) && (match b.eps[i - 1]? with
  | some y => soLt x y
  | none => false))
def rightB (b : Bk) : Bool := allI (fun i (x : Ep) => badB b i x) b.eps && (countB b.num && countB b.born && countB b.tier)
noncomputable def reB : Code := codeAt Try.prog 24 [true, true, false, true, false, false]

noncomputable def rjB : Code := codeAt Try.prog 24 [true, true, false, true, false, false, true, false, false, true, true, false, false]

noncomputable def rbB : Code := codeAt Try.prog 19 [true, false, true, false, false]

theorem take_get {α : Type} {l : List α} {m i : Nat} {x : α} (h : (l.take m)[i]? = some x) : l[i]? = some x := by
  have h1 := (List.getElem?_eq_some_iff.1 h).1
  simp only [List.length_take] at h1
  rw [List.getElem?_take_of_lt (by omega)] at h
  exact h
theorem cCount_0 (n : Int)  (tq0 : (decide (n ≥ (0 : Int))) = true) : Contract Try.prog 45 [I n] [] (Bo (decide (n ≤ 1099511627776))) ([]) :=
 vcS hmix [.reg 1 [(2, [], some true)]] [] [⟨tq0⟩]

theorem cCount_1 (n : Int)  (tq0 : (decide (n ≥ (0 : Int))) = false) : Contract Try.prog 45 [I n] [] (Bo false) ([]) :=
 vcS hmix [.reg 1 [(2, [], some false)]] [] [⟨tq0⟩]

theorem cCount (n : Int)  : Contract Try.prog 45 [I n] [] (Bo (countB n)) [] := by
  rcases tf (decide (n ≥ (0 : Int))) with tq0 | tq0
  · exact Contract.cast (by simp only [countB, withinB, tq0, cond_true, cond_false]; rfl) rfl (cCount_0 n  tq0)
  · exact Contract.cast (by simp only [countB, withinB, tq0, cond_true, cond_false]; rfl) rfl (cCount_1 n  tq0)

theorem rj_0 (e : Ep) (z : Sp) (m : Nat) (x : Sp) (i : Nat) (hx : (e.spans.take m)[i]? = some x) (hi : i < (e.spans.take m).length) (hz : e.spans[m]? = some z) (hs : e.spans.length ≤ 1048576) (tq0 : (Sp.id x == Sp.id z) = true) : CodeC Try.prog 0 64 rjB (rjS e false m (i)) .ret (rjS e false m (i)) :=
 runS hmix [.reg 9 [(2, [], some true)], .reg 11 [(5, [.row (Sp.row x)], none), (11, [.row (Sp.row z)], none), (12, [], some true)]] ⟨[1, 2, 3, 4], [(1000, 1000)], []⟩ [⟨(by simp at hi; simp; omega : decide (Int.ofNat i < Int.ofNat m) = true)⟩, ⟨nn i⟩, ⟨(by simp at hi; simp; omega : Int.ofNat i < Int.ofNat (List.length (List.map Sp.row (Ep.spans e))))⟩, ⟨(by rw [List.getElem?_map, take_get hx]; rfl : (List.map Sp.row (Ep.spans e))[i]? = some (Sp.row x))⟩, ⟨nn m⟩, ⟨(by have q := (List.getElem?_eq_some_iff.1 hz).1; simp; omega : Int.ofNat m < Int.ofNat (List.length (List.map Sp.row (Ep.spans e))))⟩, ⟨gtm Sp.row hz⟩, ⟨tq0⟩]

theorem rj_1 (e : Ep) (z : Sp) (m : Nat) (x : Sp) (i : Nat) (hx : (e.spans.take m)[i]? = some x) (hi : i < (e.spans.take m).length) (hz : e.spans[m]? = some z) (hs : e.spans.length ≤ 1048576) (tq0 : (Sp.id x == Sp.id z) = false) : CodeC Try.prog 0 64 rjB (rjS e false m (i)) .normal (rjS e false m (i + 1)) :=
 runS hmix [.reg 9 [(2, [], some true)], .reg 11 [(5, [.row (Sp.row x)], none), (11, [.row (Sp.row z)], none), (12, [], some false)], .reg 10 [(1, [.be (I ((i + 1 : Nat) : Int))], none)]] ⟨[1, 2, 3, 4], [(1000, 1000)], []⟩ [⟨(by simp at hi; simp; omega : decide (Int.ofNat i < Int.ofNat m) = true)⟩, ⟨nn i⟩, ⟨(by simp at hi; simp; omega : Int.ofNat i < Int.ofNat (List.length (List.map Sp.row (Ep.spans e))))⟩, ⟨(by rw [List.getElem?_map, take_get hx]; rfl : (List.map Sp.row (Ep.spans e))[i]? = some (Sp.row x))⟩, ⟨nn m⟩, ⟨(by have q := (List.getElem?_eq_some_iff.1 hz).1; simp; omega : Int.ofNat m < Int.ofNat (List.length (List.map Sp.row (Ep.spans e))))⟩, ⟨gtm Sp.row hz⟩, ⟨tq0⟩, ⟨(by have q := (List.getElem?_eq_some_iff.1 (take_get hx)).1; exact i64_small (by simp; omega) : IntKind.wrap IntKind.i64 (Int.ofNat (i + 1)) = Int.ofNat (i + 1))⟩]

theorem rjGo (e : Ep) (z : Sp) (m : Nat) (x : Sp) (i : Nat) (hx : (e.spans.take m)[i]? = some x) (hi : i < (e.spans.take m).length) (hz : e.spans[m]? = some z) (hs : e.spans.length ≤ 1048576) (hb : (x.id == z.id) = false) : CodeC Try.prog 0 64 rjB (rjS e false m (i)) .normal (rjS e false m (i + 1)) := by
  rcases tf (Sp.id x == Sp.id z) with tq0 | tq0
  · exact absurd hb (by simp [tq0])
  · exact rj_1 e z m x i hx hi hz hs tq0

theorem rjStop (e : Ep) (z : Sp) (m : Nat) (x : Sp) (i : Nat) (hx : (e.spans.take m)[i]? = some x) (hi : i < (e.spans.take m).length) (hz : e.spans[m]? = some z) (hs : e.spans.length ≤ 1048576) (hb : (x.id == z.id) = true) : CodeC Try.prog 0 64 rjB (rjS e false m (i)) .ret (rjS e false m (i)) := by
  rcases tf (Sp.id x == Sp.id z) with tq0 | tq0
  · exact rj_0 e z m x i hx hi hz hs tq0
  · exact absurd hb (by simp [tq0])

theorem rjE (e : Ep) (z : Sp) (m : Nat) (i : Nat) (hz : e.spans[m]? = some z) (hs : e.spans.length ≤ 1048576) (h : (e.spans.take m).length ≤ i)  : CodeC Try.prog 0 64 rjB (rjS e false m (i)) (.exit 2) (rjS e false m (i)) :=
 runS hmix [.reg 9 [(2, [], some false)]] ⟨[1, 2, 3, 4], [(1000, 1000)], []⟩ [⟨(by have q := (List.getElem?_eq_some_iff.1 hz).1; simp at h ⊢; omega : decide (Int.ofNat i < Int.ofNat m) = false)⟩]

theorem rjL (e : Ep) (z : Sp) (m : Nat) (hz : e.spans[m]? = some z) (hs : e.spans.length ≤ 1048576) : (∃ i x, (e.spans.take m)[i]? = some x ∧ (x.id == z.id) = true ∧ LoopC Try.prog 0 64 rjB (rjS e false m (0)) .ret (rjS e false m (i))) ∨ ((∀ (i : Nat) (x : Sp), (e.spans.take m)[i]? = some x → (x.id == z.id) = false) ∧ LoopC Try.prog 0 64 rjB (rjS e false m (0)) (.exit 2) (rjS e false m ((e.spans.take m).length))) := by
  rcases LoopC.search (P := Try.prog) (k := 0) (n := 64) (c := rjB) (e.spans.take m) (fun i (x : Sp) => x.id == z.id) (fun i => rjS e false m (i)) (fun i => rjS e false m (i)) (e1 := .ret) (e2 := (.exit 2)) (by simp) (by simp)
    (fun i x hx hi hb => rjGo e z m x i hx hi hz hs hb) (fun i x hx hi hb => rjStop e z m x i hx hi hz hs hb) (rjE e z m _ hz hs (Nat.le_refl _)) with ⟨i, x, k1, k2, _, k4⟩ | ⟨k1, k2⟩
  · exact .inl ⟨i, x, k1, k2, k4⟩
  · exact .inr ⟨k1, k2⟩

theorem reX_0 (e : Ep) (x : Sp) (i : Nat) (hx : e.spans[i]? = some x) (hi : i < e.spans.length) (hs : e.spans.length ≤ 1048576) (hl : LoopC Try.prog 0 64 rjB (rjS e false i 0) (.exit 2) (rjS e false i (e.spans.take i).length)) (tq0 : (!rightS x) = true) : CodeC Try.prog 0 64 reB (reS e false i) .ret (reS e false i) :=
 runS hmix [.reg 4 [(4, [], some true)], .reg 6 [(4, [.row (Sp.row x)], none), (5, [.call [] [] (Bo (rightS x)) []], none), (7, [], some true), (13, [.row (Sp.row x)], none)]] ⟨[1, 2, 3], [(1000, 1000)], []⟩ [⟨dltm Sp.row hi⟩, ⟨nn i⟩, ⟨ltm Sp.row hi⟩, ⟨gtm Sp.row hx⟩, ⟨cRightR x⟩, ⟨tq0⟩]

theorem reX_1 (e : Ep) (x : Sp) (i : Nat) (hx : e.spans[i]? = some x) (hi : i < e.spans.length) (hs : e.spans.length ≤ 1048576) (hl : LoopC Try.prog 0 64 rjB (rjS e false i 0) (.exit 2) (rjS e false i (e.spans.take i).length)) (tq0 : (!rightS x) = false) (tq1 : (!(decide (Sp.hi x = Ep.hi e) && (decide (Sp.lo x = Ep.lo e) && true))) = true) : CodeC Try.prog 0 64 reB (reS e false i) .ret (reS e false i) :=
 runS hmix [.reg 4 [(4, [], some true)], .reg 6 [(4, [.row (Sp.row x)], none), (5, [.call [] [] (Bo (rightS x)) []], none), (7, [], some false), (13, [.row (Sp.row x)], none), (17, [], some true)]] ⟨[1, 2, 3], [(1000, 1000)], []⟩ [⟨dltm Sp.row hi⟩, ⟨nn i⟩, ⟨ltm Sp.row hi⟩, ⟨gtm Sp.row hx⟩, ⟨cRightR x⟩, ⟨tq0⟩, ⟨nn i⟩, ⟨ltm Sp.row hi⟩, ⟨gtm Sp.row hx⟩, ⟨tq1⟩]

theorem reX_2 (e : Ep) (x : Sp) (i : Nat) (hx : e.spans[i]? = some x) (hi : i < e.spans.length) (hs : e.spans.length ≤ 1048576) (hl : LoopC Try.prog 0 64 rjB (rjS e false i 0) (.exit 2) (rjS e false i (e.spans.take i).length)) (tq0 : (!rightS x) = false) (tq1 : (!(decide (Sp.hi x = Ep.hi e) && (decide (Sp.lo x = Ep.lo e) && true))) = false) : CodeC Try.prog 0 64 reB (reS e false i) .normal (reS e false (i + 1)) :=
 runS hmix [.reg 4 [(4, [], some true)], .reg 6 [(4, [.row (Sp.row x)], none), (5, [.call [] [] (Bo (rightS x)) []], none), (7, [], some false), (13, [.row (Sp.row x)], none), (17, [], some false)], .cut ⟨[1, 2, 3, 4], [(1000, 1000)], []⟩ (.exit 2) (rjS e false i (e.spans.take i).length), .reg 5 [(1, [.be (I ((i + 1 : Nat) : Int))], none)]] ⟨[1, 2, 3], [(1000, 1000)], []⟩ [⟨dltm Sp.row hi⟩, ⟨nn i⟩, ⟨ltm Sp.row hi⟩, ⟨gtm Sp.row hx⟩, ⟨cRightR x⟩, ⟨tq0⟩, ⟨nn i⟩, ⟨ltm Sp.row hi⟩, ⟨gtm Sp.row hx⟩, ⟨tq1⟩, ⟨hl⟩, ⟨w64 (i + 1) (by omega)⟩]

theorem reXGo (e : Ep) (x : Sp) (i : Nat) (hx : e.spans[i]? = some x) (hi : i < e.spans.length) (hs : e.spans.length ≤ 1048576) (hl : LoopC Try.prog 0 64 rjB (rjS e false i 0) (.exit 2) (rjS e false i (e.spans.take i).length)) (hb : badX e x = false) : CodeC Try.prog 0 64 reB (reS e false i) .normal (reS e false (i + 1)) := by
  rcases tf (!rightS x) with tq0 | tq0
  · exact absurd hb (by simp [badX, tq0])
  · rcases tf (!(decide (Sp.hi x = Ep.hi e) && (decide (Sp.lo x = Ep.lo e) && true))) with tq1 | tq1
    · exact absurd hb (by intro hb; simp_all [badX])
    · exact reX_2 e x i hx hi hs hl tq0 tq1

theorem reXStop (e : Ep) (x : Sp) (i : Nat) (hx : e.spans[i]? = some x) (hi : i < e.spans.length) (hs : e.spans.length ≤ 1048576) (hl : LoopC Try.prog 0 64 rjB (rjS e false i 0) (.exit 2) (rjS e false i (e.spans.take i).length)) (hb : badX e x = true) : CodeC Try.prog 0 64 reB (reS e false i) .ret (reS e false i) := by
  rcases tf (!rightS x) with tq0 | tq0
  · exact reX_0 e x i hx hi hs hl tq0
  · rcases tf (!(decide (Sp.hi x = Ep.hi e) && (decide (Sp.lo x = Ep.lo e) && true))) with tq1 | tq1
    · exact reX_1 e x i hx hi hs hl tq0 tq1
    · exact absurd hb (by intro hb; simp_all [badX])

theorem reY_0 (e : Ep) (x : Sp) (i k : Nat) (hx : e.spans[i]? = some x) (hi : i < e.spans.length) (hs : e.spans.length ≤ 1048576) (hl : LoopC Try.prog 0 64 rjB (rjS e false i 0) .ret (rjS e false i k)) (tq0 : (!rightS x) = true) : CodeC Try.prog 0 64 reB (reS e false i) .ret (reS e false i) :=
 runS hmix [.reg 4 [(4, [], some true)], .reg 6 [(4, [.row (Sp.row x)], none), (5, [.call [] [] (Bo (rightS x)) []], none), (7, [], some true), (13, [.row (Sp.row x)], none)]] ⟨[1, 2, 3], [(1000, 1000)], []⟩ [⟨dltm Sp.row hi⟩, ⟨nn i⟩, ⟨ltm Sp.row hi⟩, ⟨gtm Sp.row hx⟩, ⟨cRightR x⟩, ⟨tq0⟩]

theorem reY_1 (e : Ep) (x : Sp) (i k : Nat) (hx : e.spans[i]? = some x) (hi : i < e.spans.length) (hs : e.spans.length ≤ 1048576) (hl : LoopC Try.prog 0 64 rjB (rjS e false i 0) .ret (rjS e false i k)) (tq0 : (!rightS x) = false) (tq1 : (!(decide (Sp.hi x = Ep.hi e) && (decide (Sp.lo x = Ep.lo e) && true))) = true) : CodeC Try.prog 0 64 reB (reS e false i) .ret (reS e false i) :=
 runS hmix [.reg 4 [(4, [], some true)], .reg 6 [(4, [.row (Sp.row x)], none), (5, [.call [] [] (Bo (rightS x)) []], none), (7, [], some false), (13, [.row (Sp.row x)], none), (17, [], some true)]] ⟨[1, 2, 3], [(1000, 1000)], []⟩ [⟨dltm Sp.row hi⟩, ⟨nn i⟩, ⟨ltm Sp.row hi⟩, ⟨gtm Sp.row hx⟩, ⟨cRightR x⟩, ⟨tq0⟩, ⟨nn i⟩, ⟨ltm Sp.row hi⟩, ⟨gtm Sp.row hx⟩, ⟨tq1⟩]

theorem reY_2 (e : Ep) (x : Sp) (i k : Nat) (hx : e.spans[i]? = some x) (hi : i < e.spans.length) (hs : e.spans.length ≤ 1048576) (hl : LoopC Try.prog 0 64 rjB (rjS e false i 0) .ret (rjS e false i k)) (tq0 : (!rightS x) = false) (tq1 : (!(decide (Sp.hi x = Ep.hi e) && (decide (Sp.lo x = Ep.lo e) && true))) = false) : CodeC Try.prog 0 64 reB (reS e false i) .ret (reS e false i) :=
 runS hmix [.reg 4 [(4, [], some true)], .reg 6 [(4, [.row (Sp.row x)], none), (5, [.call [] [] (Bo (rightS x)) []], none), (7, [], some false), (13, [.row (Sp.row x)], none), (17, [], some false)], .cut ⟨[1, 2, 3, 4], [(1000, 1000)], []⟩ .ret (rjS e false i k)] ⟨[1, 2, 3], [(1000, 1000)], []⟩ [⟨dltm Sp.row hi⟩, ⟨nn i⟩, ⟨ltm Sp.row hi⟩, ⟨gtm Sp.row hx⟩, ⟨cRightR x⟩, ⟨tq0⟩, ⟨nn i⟩, ⟨ltm Sp.row hi⟩, ⟨gtm Sp.row hx⟩, ⟨tq1⟩, ⟨hl⟩]

theorem reY (e : Ep) (x : Sp) (i k : Nat) (hx : e.spans[i]? = some x) (hi : i < e.spans.length) (hs : e.spans.length ≤ 1048576) (hl : LoopC Try.prog 0 64 rjB (rjS e false i 0) .ret (rjS e false i k))  : CodeC Try.prog 0 64 reB (reS e false i) .ret (reS e false i) := by
  rcases tf (!rightS x) with tq0 | tq0
  · exact reY_0 e x i k hx hi hs hl tq0
  · rcases tf (!(decide (Sp.hi x = Ep.hi e) && (decide (Sp.lo x = Ep.lo e) && true))) with tq1 | tq1
    · exact reY_1 e x i k hx hi hs hl tq0 tq1
    · exact reY_2 e x i k hx hi hs hl tq0 tq1

theorem reE (e : Ep) (i : Nat) (hs : e.spans.length ≤ 1048576) (h : e.spans.length ≤ i)  : CodeC Try.prog 0 64 reB (reS e false i) (.exit 0) (reS e false i) :=
 runS hmix [.reg 4 [(4, [], some false)]] ⟨[1, 2, 3], [(1000, 1000)], []⟩ [⟨dgem Sp.row h⟩]

theorem reGo (e : Ep) (x : Sp) (i : Nat) (hx : e.spans[i]? = some x) (hi : i < e.spans.length) (hs : e.spans.length ≤ 1048576) (hb : badE e i x = false) : CodeC Try.prog 0 64 reB (reS e false i) .normal (reS e false (i + 1)) := by
  unfold badE at hb
  simp only [Bool.or_eq_false_iff, Bool.not_eq_false'] at hb
  rcases rjL e x i hx hs with ⟨k, y, k1, k2, k4⟩ | ⟨k1, k2⟩
  · rw [allI_bad (bad := fun _ (y : Sp) => y.id == x.id) k1 k2] at hb
    exact absurd hb.2 (by simp)
  · exact reXGo e x i hx hi hs k2 hb.1
theorem reStop (e : Ep) (x : Sp) (i : Nat) (hx : e.spans[i]? = some x) (hi : i < e.spans.length) (hs : e.spans.length ≤ 1048576) (hb : badE e i x = true) : CodeC Try.prog 0 64 reB (reS e false i) .ret (reS e false i) := by
  rcases rjL e x i hx hs with ⟨k, y, k1, k2, k4⟩ | ⟨k1, k2⟩
  · exact reY e x i k hx hi hs k4
  · unfold badE at hb
    rw [allI_good (bad := fun _ (y : Sp) => y.id == x.id) k1] at hb
    simp only [Bool.not_true, Bool.or_false] at hb
    exact reXStop e x i hx hi hs k2 hb

theorem reL (e : Ep) (hs : e.spans.length ≤ 1048576) : (∃ i x, e.spans[i]? = some x ∧ (badE e i x) = true ∧ LoopC Try.prog 0 64 reB (reS e false (0)) .ret (reS e false (i))) ∨ ((∀ (i : Nat) (x : Sp), e.spans[i]? = some x → (badE e i x) = false) ∧ LoopC Try.prog 0 64 reB (reS e false (0)) (.exit 0) (reS e false (e.spans.length))) := by
  rcases LoopC.search (P := Try.prog) (k := 0) (n := 64) (c := reB) e.spans (fun i (x : Sp) => badE e i x) (fun i => reS e false (i)) (fun i => reS e false (i)) (e1 := .ret) (e2 := (.exit 0)) (by simp) (by simp)
    (fun i x hx hi hb => reGo e x i hx hi hs hb) (fun i x hx hi hb => reStop e x i hx hi hs hb) (reE e _ hs (Nat.le_refl _)) with ⟨i, x, k1, k2, _, k4⟩ | ⟨k1, k2⟩
  · exact .inl ⟨i, x, k1, k2, k4⟩
  · exact .inr ⟨k1, k2⟩

theorem cRightE_b_0 (e : Ep) (i : Nat) (hs : e.spans.length ≤ 1048576) (hl : LoopC Try.prog 0 64 reB (reS e false (0)) .ret (reS e false (i))) (tq0 : (!countB (Ep.first e)) = true) : Contract Try.prog 24 [e.v] [] (Bo false) [] :=
 vcS hmix [.reg 1 [(4, [], some true)], .tab [(45, FCount)]] [] [⟨(by exact cCount _ : Contract Try.prog 45 [I (Ep.first e)] [] (Bo (countB (Ep.first e))) [])⟩, ⟨tq0⟩]

theorem cRightE_b_1 (e : Ep) (i : Nat) (hs : e.spans.length ≤ 1048576) (hl : LoopC Try.prog 0 64 reB (reS e false (0)) .ret (reS e false (i))) (tq0 : (!countB (Ep.first e)) = false) (tq1 : (!countB (Ep.last e)) = true) : Contract Try.prog 24 [e.v] [] (Bo false) [] :=
 vcS hmix [.reg 1 [(4, [], some false), (10, [], some true)], .tab [(45, FCount)]] [] [⟨(by exact cCount _ : Contract Try.prog 45 [I (Ep.first e)] [] (Bo (countB (Ep.first e))) [])⟩, ⟨tq0⟩, ⟨(by exact cCount _ : Contract Try.prog 45 [I (Ep.last e)] [] (Bo (countB (Ep.last e))) [])⟩, ⟨tq1⟩]

theorem cRightE_b_2 (e : Ep) (i : Nat) (hs : e.spans.length ≤ 1048576) (hl : LoopC Try.prog 0 64 reB (reS e false (0)) .ret (reS e false (i))) (tq0 : (!countB (Ep.first e)) = false) (tq1 : (!countB (Ep.last e)) = false) (tq2 : (Int.ofNat (List.length (List.map Sp.row (Ep.spans e))) == (0 : Int)) = true) : Contract Try.prog 24 [e.v] [] (Bo false) [] :=
 vcS hmix [.reg 1 [(4, [], some false), (10, [], some false), (15, [], some true)], .tab [(45, FCount)]] [] [⟨(by exact cCount _ : Contract Try.prog 45 [I (Ep.first e)] [] (Bo (countB (Ep.first e))) [])⟩, ⟨tq0⟩, ⟨(by exact cCount _ : Contract Try.prog 45 [I (Ep.last e)] [] (Bo (countB (Ep.last e))) [])⟩, ⟨tq1⟩, ⟨tq2⟩]

theorem cRightE_b_3 (e : Ep) (i : Nat) (hs : e.spans.length ≤ 1048576) (hl : LoopC Try.prog 0 64 reB (reS e false (0)) .ret (reS e false (i))) (tq0 : (!countB (Ep.first e)) = false) (tq1 : (!countB (Ep.last e)) = false) (tq2 : (Int.ofNat (List.length (List.map Sp.row (Ep.spans e))) == (0 : Int)) = false) : Contract Try.prog 24 [e.v] [] (Bo false) [] :=
 vcS hmix [.reg 1 [(4, [], some false), (10, [], some false), (15, [], some false)], .cut ⟨[1, 2, 3], [(1000, 1000)], []⟩ .ret (reS e false (i)), .tab [(45, FCount)]] [] [⟨(by exact cCount _ : Contract Try.prog 45 [I (Ep.first e)] [] (Bo (countB (Ep.first e))) [])⟩, ⟨tq0⟩, ⟨(by exact cCount _ : Contract Try.prog 45 [I (Ep.last e)] [] (Bo (countB (Ep.last e))) [])⟩, ⟨tq1⟩, ⟨tq2⟩, ⟨hl⟩]

theorem cRightE_b (e : Ep) (i : Nat) (hs : e.spans.length ≤ 1048576) (hl : LoopC Try.prog 0 64 reB (reS e false (0)) .ret (reS e false (i))) : Contract Try.prog 24 [e.v] [] (Bo false) [] := by
  rcases tf (!countB (Ep.first e)) with tq0 | tq0
  · exact cRightE_b_0 e i hs hl tq0
  · rcases tf (!countB (Ep.last e)) with tq1 | tq1
    · exact cRightE_b_1 e i hs hl tq0 tq1
    · rcases tf (Int.ofNat (List.length (List.map Sp.row (Ep.spans e))) == (0 : Int)) with tq2 | tq2
      · exact cRightE_b_2 e i hs hl tq0 tq1 tq2
      · exact cRightE_b_3 e i hs hl tq0 tq1 tq2

theorem cRightE_g_0 (e : Ep) (hs : e.spans.length ≤ 1048576) (hl : LoopC Try.prog 0 64 reB (reS e false (0)) (.exit 0) (reS e false (e.spans.length))) (tq0 : (!countB (Ep.first e)) = true) : Contract Try.prog 24 [e.v] [] (Bo false) ([]) :=
 vcS hmix [.reg 1 [(4, [], some true)], .tab [(45, FCount)]] [] [⟨(by exact cCount _ : Contract Try.prog 45 [I (Ep.first e)] [] (Bo (countB (Ep.first e))) [])⟩, ⟨tq0⟩]

theorem cRightE_g_1 (e : Ep) (hs : e.spans.length ≤ 1048576) (hl : LoopC Try.prog 0 64 reB (reS e false (0)) (.exit 0) (reS e false (e.spans.length))) (tq0 : (!countB (Ep.first e)) = false) (tq1 : (!countB (Ep.last e)) = true) : Contract Try.prog 24 [e.v] [] (Bo false) ([]) :=
 vcS hmix [.reg 1 [(4, [], some false), (10, [], some true)], .tab [(45, FCount)]] [] [⟨(by exact cCount _ : Contract Try.prog 45 [I (Ep.first e)] [] (Bo (countB (Ep.first e))) [])⟩, ⟨tq0⟩, ⟨(by exact cCount _ : Contract Try.prog 45 [I (Ep.last e)] [] (Bo (countB (Ep.last e))) [])⟩, ⟨tq1⟩]

theorem cRightE_g_2 (e : Ep) (hs : e.spans.length ≤ 1048576) (hl : LoopC Try.prog 0 64 reB (reS e false (0)) (.exit 0) (reS e false (e.spans.length))) (tq0 : (!countB (Ep.first e)) = false) (tq1 : (!countB (Ep.last e)) = false) (tq2 : (Int.ofNat (List.length (List.map Sp.row (Ep.spans e))) == (0 : Int)) = true) : Contract Try.prog 24 [e.v] [] (Bo false) ([]) :=
 vcS hmix [.reg 1 [(4, [], some false), (10, [], some false), (15, [], some true)], .tab [(45, FCount)]] [] [⟨(by exact cCount _ : Contract Try.prog 45 [I (Ep.first e)] [] (Bo (countB (Ep.first e))) [])⟩, ⟨tq0⟩, ⟨(by exact cCount _ : Contract Try.prog 45 [I (Ep.last e)] [] (Bo (countB (Ep.last e))) [])⟩, ⟨tq1⟩, ⟨tq2⟩]

theorem cRightE_g_3 (e : Ep) (hs : e.spans.length ≤ 1048576) (hl : LoopC Try.prog 0 64 reB (reS e false (0)) (.exit 0) (reS e false (e.spans.length))) (tq0 : (!countB (Ep.first e)) = false) (tq1 : (!countB (Ep.last e)) = false) (tq2 : (Int.ofNat (List.length (List.map Sp.row (Ep.spans e))) == (0 : Int)) = false) : Contract Try.prog 24 [e.v] [] (Bo true) ([]) :=
 vcS hmix [.reg 1 [(4, [], some false), (10, [], some false), (15, [], some false)], .cut ⟨[1, 2, 3], [(1000, 1000)], []⟩ (.exit 0) (reS e false (e.spans.length)), .tab [(45, FCount)]] [] [⟨(by exact cCount _ : Contract Try.prog 45 [I (Ep.first e)] [] (Bo (countB (Ep.first e))) [])⟩, ⟨tq0⟩, ⟨(by exact cCount _ : Contract Try.prog 45 [I (Ep.last e)] [] (Bo (countB (Ep.last e))) [])⟩, ⟨tq1⟩, ⟨tq2⟩, ⟨hl⟩]

theorem cRightE_g (e : Ep) (hs : e.spans.length ≤ 1048576) (hl : LoopC Try.prog 0 64 reB (reS e false (0)) (.exit 0) (reS e false (e.spans.length))) : Contract Try.prog 24 [e.v] [] (Bo (countB e.first && countB e.last && !((e.spans.length : Int) == 0))) [] := by
  rcases tf (!countB (Ep.first e)) with tq0 | tq0
  · exact Contract.cast (by (try simp only [Int.ofNat_eq_natCast, List.length_map, Bool.not_eq_true', Bool.not_eq_false', decide_eq_true_eq, decide_eq_false_iff_not] at tq0); simp [tq0]) rfl (cRightE_g_0 e hs hl tq0)
  · rcases tf (!countB (Ep.last e)) with tq1 | tq1
    · exact Contract.cast (by (try simp only [Int.ofNat_eq_natCast, List.length_map, Bool.not_eq_true', Bool.not_eq_false', decide_eq_true_eq, decide_eq_false_iff_not] at tq0 tq1); simp [tq0, tq1]) rfl (cRightE_g_1 e hs hl tq0 tq1)
    · rcases tf (Int.ofNat (List.length (List.map Sp.row (Ep.spans e))) == (0 : Int)) with tq2 | tq2
      · exact Contract.cast (by (try simp only [Int.ofNat_eq_natCast, List.length_map, Bool.not_eq_true', Bool.not_eq_false', decide_eq_true_eq, decide_eq_false_iff_not] at tq0 tq1 tq2); simp [tq0, tq1, tq2]) rfl (cRightE_g_2 e hs hl tq0 tq1 tq2)
      · exact Contract.cast (by (try simp only [Int.ofNat_eq_natCast, List.length_map, Bool.not_eq_true', Bool.not_eq_false', decide_eq_true_eq, decide_eq_false_iff_not] at tq0 tq1 tq2); simp [tq0, tq1, tq2]) rfl (cRightE_g_3 e hs hl tq0 tq1 tq2)

theorem cRightE (e : Ep) (hs : e.spans.length ≤ 1048576) : Contract Try.prog 24 [e.v] [] (Bo (rightE e)) [] := by
  rcases reL e hs with ⟨i, x, k1, k2, k4⟩ | ⟨k1, k2⟩
  · have q : allI (fun i (x : Sp) => badE e i x) e.spans = false := allI_bad k1 k2
    have := cRightE_b e i hs k4
    unfold rightE; rw [q]; simpa using this
  · have q : allI (fun i (x : Sp) => badE e i x) e.spans = true := allI_good k1
    have := cRightE_g e hs k2
    unfold rightE; rw [q]; simpa using this

theorem rb0_0 (b : Bk) (x : Ep) (hx : b.eps[0]? = some x) (hi : 0 < b.eps.length) (hs : b.eps.length ≤ 1048576) (hm : ∀ e ∈ b.eps, e.spans.length ≤ 1048576) (tq0 : (!rightE x) = true) : CodeC Try.prog 0 51 rbB (rbS b false 0) .ret (rbS b false 0) :=
  runP hmix [.reg 2 [(4, [], some true)], .reg 4 [(4, [.row (Ep.row x)], none), (5, [.call [] [] (Bo (rightE x)) []], none), (7, [], some true)]] ⟨[1, 2, 3], [(1000, 1000)], []⟩ [
      decide ((0 : Int) < Int.ofNat (List.length (List.map Ep.row (Bk.eps b)))) = true,
      (0 : Int) ≤ (0 : Int),
      (0 : Int) < Int.ofNat (List.length (List.map Ep.row (Bk.eps b))),
      (List.map Ep.row (Bk.eps b))[(0 : Nat)]? = some (Ep.row x),
      Contract Try.prog (24 : Nat) [V.agg [V.val (Value.int IntKind.u64 (Ep.hi x)), V.val (Value.int IntKind.u64 (Ep.lo x)), I (Ep.first x), I (Ep.last x), Bo (Ep.sure x), V.sl (10 : Nat) (List.map Sp.row (Ep.spans x))]] [] (Bo (rightE x)) [],
      (!rightE x) = true] (by kernel_rfl)
    (by
      have d0 := tq0
      try simp only [Int.ofNat_eq_natCast, List.length_map, Bool.not_eq_true', Bool.not_eq_false', decide_eq_true_eq, decide_eq_false_iff_not] at d0
      simp only [allP]
      and_intros <;> first
        | omega
        | exact cRightE x (hm x (List.mem_of_getElem? hx))
        | (simp; omega)
        | (simp [hx]; done))

theorem rb0_1 (b : Bk) (x : Ep) (hx : b.eps[0]? = some x) (hi : 0 < b.eps.length) (hs : b.eps.length ≤ 1048576) (hm : ∀ e ∈ b.eps, e.spans.length ≤ 1048576) (tq0 : (!rightE x) = false) : CodeC Try.prog 0 51 rbB (rbS b false 0) .normal (rbS b false 1) :=
  runP hmix [.reg 2 [(4, [], some true)], .reg 4 [(4, [.row (Ep.row x)], none), (5, [.call [] [] (Bo (rightE x)) []], none), (7, [], some false)]] ⟨[1, 2, 3], [(1000, 1000)], []⟩ [
      decide ((0 : Int) < Int.ofNat (List.length (List.map Ep.row (Bk.eps b)))) = true,
      (0 : Int) ≤ (0 : Int),
      (0 : Int) < Int.ofNat (List.length (List.map Ep.row (Bk.eps b))),
      (List.map Ep.row (Bk.eps b))[(0 : Nat)]? = some (Ep.row x),
      Contract Try.prog (24 : Nat) [V.agg [V.val (Value.int IntKind.u64 (Ep.hi x)), V.val (Value.int IntKind.u64 (Ep.lo x)), I (Ep.first x), I (Ep.last x), Bo (Ep.sure x), V.sl (10 : Nat) (List.map Sp.row (Ep.spans x))]] [] (Bo (rightE x)) [],
      (!rightE x) = false] (by kernel_rfl)
    (by
      have d0 := tq0
      try simp only [Int.ofNat_eq_natCast, List.length_map, Bool.not_eq_true', Bool.not_eq_false', decide_eq_true_eq, decide_eq_false_iff_not] at d0
      simp only [allP]
      and_intros <;> first
        | omega
        | exact cRightE x (hm x (List.mem_of_getElem? hx))
        | (simp; omega)
        | (simp [hx]; done))

theorem rb0Go (b : Bk) (x : Ep) (hx : b.eps[0]? = some x) (hi : 0 < b.eps.length) (hs : b.eps.length ≤ 1048576) (hm : ∀ e ∈ b.eps, e.spans.length ≤ 1048576) (hb : rightE x = true) : CodeC Try.prog 0 51 rbB (rbS b false 0) .normal (rbS b false 1) := by
  rcases tf (!rightE x) with tq0 | tq0
  · exact absurd hb (by (try simp only [Int.ofNat_eq_natCast, List.length_map, Bool.not_eq_true', Bool.not_eq_false', decide_eq_true_eq, decide_eq_false_iff_not] at tq0); simp [tq0])
  · exact rb0_1 b x hx hi hs hm tq0

theorem rb0Stop (b : Bk) (x : Ep) (hx : b.eps[0]? = some x) (hi : 0 < b.eps.length) (hs : b.eps.length ≤ 1048576) (hm : ∀ e ∈ b.eps, e.spans.length ≤ 1048576) (hb : rightE x = false) : CodeC Try.prog 0 51 rbB (rbS b false 0) .ret (rbS b false 0) := by
  rcases tf (!rightE x) with tq0 | tq0
  · exact rb0_0 b x hx hi hs hm tq0
  · exact absurd hb (by (try simp only [Int.ofNat_eq_natCast, List.length_map, Bool.not_eq_true', Bool.not_eq_false', decide_eq_true_eq, decide_eq_false_iff_not] at tq0); simp [tq0])

theorem rb1_0 (b : Bk) (x y : Ep) (i : Nat) (hx : b.eps[i]? = some x) (hi : i < b.eps.length) (h0 : 0 < i) (hy : b.eps[i - 1]? = some y) (hs : b.eps.length ≤ 1048576) (hm : ∀ e ∈ b.eps, e.spans.length ≤ 1048576) (tq0 : (!rightE x) = true) : CodeC Try.prog 0 51 rbB (rbS b false i) .ret (rbS b false i) :=
 runS hmix [.reg 2 [(4, [], some true)], .reg 4 [(4, [.row (Ep.row x)], none), (5, [.call [] [] (Bo (rightE x)) []], none), (7, [], some true), (9, [], some true), (16, [.row (Ep.row x)], none), (20, [.be (I ((i - 1 : Nat) : Int))], none), (23, [.row (Ep.row y)], none), (24, [.app FLess], none)]] ⟨[1, 2, 3], [(1000, 1000)], []⟩ [⟨dltm Ep.row hi⟩, ⟨nn i⟩, ⟨ltm Ep.row hi⟩, ⟨gtm Ep.row hx⟩, ⟨cRightE x (hm x (List.mem_of_getElem? hx))⟩, ⟨tq0⟩]

theorem rb1_1 (b : Bk) (x y : Ep) (i : Nat) (hx : b.eps[i]? = some x) (hi : i < b.eps.length) (h0 : 0 < i) (hy : b.eps[i - 1]? = some y) (hs : b.eps.length ≤ 1048576) (hm : ∀ e ∈ b.eps, e.spans.length ≤ 1048576) (tq0 : (!rightE x) = false) (tq1 : (ltT (Ep.hi x) (Ep.lo x) (Ep.hi y) (Ep.lo y)) = true) : CodeC Try.prog 0 51 rbB (rbS b false i) .ret (rbS b false i) :=
 runS hmix [.reg 2 [(4, [], some true)], .reg 4 [(4, [.row (Ep.row x)], none), (5, [.call [] [] (Bo (rightE x)) []], none), (7, [], some false), (9, [], some true), (16, [.row (Ep.row x)], none), (20, [.be (I ((i - 1 : Nat) : Int))], none), (23, [.row (Ep.row y)], none), (24, [.app FLess], none), (26, [], some true)]] ⟨[1, 2, 3], [(1000, 1000)], []⟩ [⟨dltm Ep.row hi⟩, ⟨nn i⟩, ⟨ltm Ep.row hi⟩, ⟨gtm Ep.row hx⟩, ⟨cRightE x (hm x (List.mem_of_getElem? hx))⟩, ⟨tq0⟩, ⟨(by simp; omega : decide (Int.ofNat i > 0) = true)⟩, ⟨nn i⟩, ⟨ltm Ep.row hi⟩, ⟨gtm Ep.row hx⟩, ⟨(by rw [i64_small (by simp; omega)]; simp; omega : IntKind.wrap IntKind.i64 (Int.ofNat i + (-1)) = Int.ofNat (i - 1))⟩, ⟨nn (i - 1)⟩, ⟨(by simp; omega : Int.ofNat (i - 1) < Int.ofNat (List.length (List.map Ep.row (Bk.eps b))))⟩, ⟨(by simp [hy] : (List.map Ep.row (Bk.eps b))[i - 1]? = some (Ep.row y))⟩, ⟨(by exact cLess _ _ _ _ : Contract Try.prog 15 [.agg [(U (Ep.hi x)), (U (Ep.lo x))], .agg [(U (Ep.hi y)), (U (Ep.lo y))]] [] (Bo (ltT (Ep.hi x) (Ep.lo x) (Ep.hi y) (Ep.lo y))) [])⟩, ⟨tq1⟩]

theorem rb1_2 (b : Bk) (x y : Ep) (i : Nat) (hx : b.eps[i]? = some x) (hi : i < b.eps.length) (h0 : 0 < i) (hy : b.eps[i - 1]? = some y) (hs : b.eps.length ≤ 1048576) (hm : ∀ e ∈ b.eps, e.spans.length ≤ 1048576) (tq0 : (!rightE x) = false) (tq1 : (ltT (Ep.hi x) (Ep.lo x) (Ep.hi y) (Ep.lo y)) = false) : CodeC Try.prog 0 51 rbB (rbS b false i) .normal (rbS b false (i + 1)) :=
 runS hmix [.reg 2 [(4, [], some true)], .reg 4 [(4, [.row (Ep.row x)], none), (5, [.call [] [] (Bo (rightE x)) []], none), (7, [], some false), (9, [], some true), (16, [.row (Ep.row x)], none), (20, [.be (I ((i - 1 : Nat) : Int))], none), (23, [.row (Ep.row y)], none), (24, [.app FLess], none), (26, [], some false)], .reg 3 [(1, [.be (I ((i + 1 : Nat) : Int))], none)]] ⟨[1, 2, 3], [(1000, 1000)], []⟩ [⟨dltm Ep.row hi⟩, ⟨nn i⟩, ⟨ltm Ep.row hi⟩, ⟨gtm Ep.row hx⟩, ⟨cRightE x (hm x (List.mem_of_getElem? hx))⟩, ⟨tq0⟩, ⟨(by simp; omega : decide (Int.ofNat i > 0) = true)⟩, ⟨nn i⟩, ⟨ltm Ep.row hi⟩, ⟨gtm Ep.row hx⟩, ⟨(by rw [i64_small (by simp; omega)]; simp; omega : IntKind.wrap IntKind.i64 (Int.ofNat i + (-1)) = Int.ofNat (i - 1))⟩, ⟨nn (i - 1)⟩, ⟨(by simp; omega : Int.ofNat (i - 1) < Int.ofNat (List.length (List.map Ep.row (Bk.eps b))))⟩, ⟨(by simp [hy] : (List.map Ep.row (Bk.eps b))[i - 1]? = some (Ep.row y))⟩, ⟨(by exact cLess _ _ _ _ : Contract Try.prog 15 [.agg [(U (Ep.hi x)), (U (Ep.lo x))], .agg [(U (Ep.hi y)), (U (Ep.lo y))]] [] (Bo (ltT (Ep.hi x) (Ep.lo x) (Ep.hi y) (Ep.lo y))) [])⟩, ⟨tq1⟩, ⟨w64 (i + 1) (by omega)⟩]

theorem rb1Go (b : Bk) (x y : Ep) (i : Nat) (hx : b.eps[i]? = some x) (hi : i < b.eps.length) (h0 : 0 < i) (hy : b.eps[i - 1]? = some y) (hs : b.eps.length ≤ 1048576) (hm : ∀ e ∈ b.eps, e.spans.length ≤ 1048576) (hb : (!rightE x || ltT x.hi x.lo y.hi y.lo) = false) : CodeC Try.prog 0 51 rbB (rbS b false i) .normal (rbS b false (i + 1)) := by
  rcases tf (!rightE x) with tq0 | tq0
  · exact absurd hb (by simp [tq0])
  · rcases tf (ltT (Ep.hi x) (Ep.lo x) (Ep.hi y) (Ep.lo y)) with tq1 | tq1
    · exact absurd hb (by simp [tq0, tq1])
    · exact rb1_2 b x y i hx hi h0 hy hs hm tq0 tq1

theorem rb1Stop (b : Bk) (x y : Ep) (i : Nat) (hx : b.eps[i]? = some x) (hi : i < b.eps.length) (h0 : 0 < i) (hy : b.eps[i - 1]? = some y) (hs : b.eps.length ≤ 1048576) (hm : ∀ e ∈ b.eps, e.spans.length ≤ 1048576) (hb : (!rightE x || ltT x.hi x.lo y.hi y.lo) = true) : CodeC Try.prog 0 51 rbB (rbS b false i) .ret (rbS b false i) := by
  rcases tf (!rightE x) with tq0 | tq0
  · exact rb1_0 b x y i hx hi h0 hy hs hm tq0
  · rcases tf (ltT (Ep.hi x) (Ep.lo x) (Ep.hi y) (Ep.lo y)) with tq1 | tq1
    · exact rb1_1 b x y i hx hi h0 hy hs hm tq0 tq1
    · exact absurd hb (by simp [tq0, tq1])

theorem rbE (b : Bk) (i : Nat) (hs : b.eps.length ≤ 1048576) (hm : ∀ e ∈ b.eps, e.spans.length ≤ 1048576) (h : b.eps.length ≤ i)  : CodeC Try.prog 0 51 rbB (rbS b false i) (.exit 0) (rbS b false i) :=
 runS hmix [.reg 2 [(4, [], some false)]] ⟨[1, 2, 3], [(1000, 1000)], []⟩ [⟨dgem Ep.row h⟩]

theorem rbGo (b : Bk) (x : Ep) (i : Nat) (hx : b.eps[i]? = some x) (hi : i < b.eps.length) (hs : b.eps.length ≤ 1048576) (hm : ∀ e ∈ b.eps, e.spans.length ≤ 1048576) (hb : badB b i x = false) : CodeC Try.prog 0 51 rbB (rbS b false i) .normal (rbS b false (i + 1)) := by
  unfold badB at hb
  cases i with
  | zero => exact rb0Go b x hx hi hs hm (by simpa using hb)
  | succ i =>
    have hy : b.eps[i + 1 - 1]? = some b.eps[i] := List.getElem?_eq_getElem (by omega)
    rw [hy] at hb
    exact rb1Go b x b.eps[i] (i + 1) hx hi (by omega) hy hs hm (by rw [ltT_eq]; simpa using hb)
theorem rbStop (b : Bk) (x : Ep) (i : Nat) (hx : b.eps[i]? = some x) (hi : i < b.eps.length) (hs : b.eps.length ≤ 1048576) (hm : ∀ e ∈ b.eps, e.spans.length ≤ 1048576) (hb : badB b i x = true) : CodeC Try.prog 0 51 rbB (rbS b false i) .ret (rbS b false i) := by
  unfold badB at hb
  cases i with
  | zero => exact rb0Stop b x hx hi hs hm (by simpa using hb)
  | succ i =>
    have hy : b.eps[i + 1 - 1]? = some b.eps[i] := List.getElem?_eq_getElem (by omega)
    rw [hy] at hb
    exact rb1Stop b x b.eps[i] (i + 1) hx hi (by omega) hy hs hm (by rw [ltT_eq]; simpa using hb)
theorem rbL (b : Bk) (hs : b.eps.length ≤ 1048576) (hm : ∀ e ∈ b.eps, e.spans.length ≤ 1048576) : (∃ i x, b.eps[i]? = some x ∧ (badB b i x) = true ∧ LoopC Try.prog 0 51 rbB (rbS b false (0)) .ret (rbS b false (i))) ∨ ((∀ (i : Nat) (x : Ep), b.eps[i]? = some x → (badB b i x) = false) ∧ LoopC Try.prog 0 51 rbB (rbS b false (0)) (.exit 0) (rbS b false (b.eps.length))) := by
  rcases LoopC.search (P := Try.prog) (k := 0) (n := 51) (c := rbB) b.eps (fun i (x : Ep) => badB b i x) (fun i => rbS b false (i)) (fun i => rbS b false (i)) (e1 := .ret) (e2 := (.exit 0)) (by simp) (by simp)
    (fun i x hx hi hb => rbGo b x i hx hi hs hm hb) (fun i x hx hi hb => rbStop b x i hx hi hs hm hb) (rbE b _ hs hm (Nat.le_refl _)) with ⟨i, x, k1, k2, _, k4⟩ | ⟨k1, k2⟩
  · exact .inl ⟨i, x, k1, k2, k4⟩
  · exact .inr ⟨k1, k2⟩

theorem cRightB_b (b : Bk) (i : Nat) (hs : b.eps.length ≤ 1048576) (hm : ∀ e ∈ b.eps, e.spans.length ≤ 1048576) (hl : LoopC Try.prog 0 51 rbB (rbS b false (0)) .ret (rbS b false (i))) : Contract Try.prog 19 [b.v] [] (Bo false) [] :=
 vcS hmix [.cut ⟨[1, 2, 3], [(1000, 1000)], []⟩ .ret (rbS b false (i)), .tab [(45, FCount)]] [] [⟨hl⟩]

theorem cRightB_g_0 (b : Bk) (hs : b.eps.length ≤ 1048576) (hm : ∀ e ∈ b.eps, e.spans.length ≤ 1048576) (hl : LoopC Try.prog 0 51 rbB (rbS b false (0)) (.exit 0) (rbS b false (b.eps.length))) (tq0 : (countB (Bk.num b)) = true) (tq1 : (countB (Bk.born b)) = true) : Contract Try.prog 19 [b.v] [] (Bo (countB (Bk.tier b))) ([]) :=
 vcS hmix [.cut ⟨[1, 2, 3], [(1000, 1000)], []⟩ (.exit 0) (rbS b false (b.eps.length)), .reg 6 [(3, [], some true), (8, [], some true)], .tab [(45, FCount)]] [] [⟨hl⟩, ⟨(by exact cCount _ : Contract Try.prog 45 [I (Bk.num b)] [] (Bo (countB (Bk.num b))) [])⟩, ⟨tq0⟩, ⟨(by exact cCount _ : Contract Try.prog 45 [I (Bk.born b)] [] (Bo (countB (Bk.born b))) [])⟩, ⟨tq1⟩, ⟨(by exact cCount _ : Contract Try.prog 45 [I (Bk.tier b)] [] (Bo (countB (Bk.tier b))) [])⟩]

theorem cRightB_g_1 (b : Bk) (hs : b.eps.length ≤ 1048576) (hm : ∀ e ∈ b.eps, e.spans.length ≤ 1048576) (hl : LoopC Try.prog 0 51 rbB (rbS b false (0)) (.exit 0) (rbS b false (b.eps.length))) (tq0 : (countB (Bk.num b)) = true) (tq1 : (countB (Bk.born b)) = false) : Contract Try.prog 19 [b.v] [] (Bo false) ([]) :=
 vcS hmix [.cut ⟨[1, 2, 3], [(1000, 1000)], []⟩ (.exit 0) (rbS b false (b.eps.length)), .reg 6 [(3, [], some true), (8, [], some false)], .tab [(45, FCount)]] [] [⟨hl⟩, ⟨(by exact cCount _ : Contract Try.prog 45 [I (Bk.num b)] [] (Bo (countB (Bk.num b))) [])⟩, ⟨tq0⟩, ⟨(by exact cCount _ : Contract Try.prog 45 [I (Bk.born b)] [] (Bo (countB (Bk.born b))) [])⟩, ⟨tq1⟩]

theorem cRightB_g_2 (b : Bk) (hs : b.eps.length ≤ 1048576) (hm : ∀ e ∈ b.eps, e.spans.length ≤ 1048576) (hl : LoopC Try.prog 0 51 rbB (rbS b false (0)) (.exit 0) (rbS b false (b.eps.length))) (tq0 : (countB (Bk.num b)) = false) : Contract Try.prog 19 [b.v] [] (Bo false) ([]) :=
 vcS hmix [.cut ⟨[1, 2, 3], [(1000, 1000)], []⟩ (.exit 0) (rbS b false (b.eps.length)), .reg 6 [(3, [], some false)], .tab [(45, FCount)]] [] [⟨hl⟩, ⟨(by exact cCount _ : Contract Try.prog 45 [I (Bk.num b)] [] (Bo (countB (Bk.num b))) [])⟩, ⟨tq0⟩]

theorem cRightB_g (b : Bk) (hs : b.eps.length ≤ 1048576) (hm : ∀ e ∈ b.eps, e.spans.length ≤ 1048576) (hl : LoopC Try.prog 0 51 rbB (rbS b false (0)) (.exit 0) (rbS b false (b.eps.length))) : Contract Try.prog 19 [b.v] [] (Bo (countB b.num && countB b.born && countB b.tier)) [] := by
  rcases tf (countB (Bk.num b)) with tq0 | tq0
  · rcases tf (countB (Bk.born b)) with tq1 | tq1
    · exact Contract.cast (by simp only [tq0, tq1, cond_true, cond_false]; rfl) rfl (cRightB_g_0 b hs hm hl tq0 tq1)
    · exact Contract.cast (by simp only [tq0, tq1, cond_true, cond_false]; rfl) rfl (cRightB_g_1 b hs hm hl tq0 tq1)
  · exact Contract.cast (by simp only [tq0, cond_true, cond_false]; rfl) rfl (cRightB_g_2 b hs hm hl tq0)

theorem cRightB (b : Bk) (hs : b.eps.length ≤ 1048576) (hm : ∀ e ∈ b.eps, e.spans.length ≤ 1048576) : Contract Try.prog 19 [b.v] [] (Bo (rightB b)) [] := by
  rcases rbL b hs hm with ⟨i, x, k1, k2, k4⟩ | ⟨k1, k2⟩
  · have q : allI (fun i (x : Ep) => badB b i x) b.eps = false := allI_bad k1 k2
    have := cRightB_b b i hs hm k4
    unfold rightB; rw [q]; simpa using this
  · have q : allI (fun i (x : Ep) => badB b i x) b.eps = true := allI_good k1
    have := cRightB_g b hs hm k2
    unfold rightB; rw [q]; simpa using this

end Go.Proofs.Ytdomjccibhgbjaa

/- episodes that may be. -/
namespace Go.Proofs.Ytdomjccibhgbjaa
open E
set_option maxRecDepth 100000
set_option linter.unusedVariables false
set_option linter.unusedSimpArgs false

/-- Which numbers were seen. -/
def seenM (e : Ep) (i : Nat) : List (Int × Bool) := (e.spans.take i).map fun s => (s.id, true)
def badM (e : Ep) (i : Nat) (x : Sp) : Bool := !(x.hi == e.hi && x.lo == e.lo) || mget (seenM e i) x.id
def meS (e : Ep) (r : Bool) (i : Nat) : SL := ⟨[(1, .ptr 1000 0 0 0), (2, Bo r), (3, .mref 601000), (27, .sl 10 (e.spans.map Sp.row)), (28, I (e.spans.length : Int)), (29, I (i : Int))], [(1000, .box e.row), (601000, .mp .u64 (seenM e i))], [1000, 601000]⟩
def episodeB (e : Ep) : Bool := (epochB [e.first, e.last] && !((e.spans.length : Int) == 0) && allB e.spans) && allI (fun i (x : Sp) => badM e i x) e.spans
noncomputable def meB : Code := codeAt Try.prog 57 [true, true, true, false, true, false, false]

theorem mget_ids (l : List Sp) (n : Int) : mget (l.map fun s => (s.id, true)) n = l.any (fun y => y.id == n) := by
  unfold mget
  induction l with
  | nil => rfl
  | cons x l ih =>
    rw [List.map_cons, List.find?_cons, List.any_cons]
    cases h : n == x.id with
    | true =>
      have : (x.id == n) = true := by rw [beq_iff_eq] at h ⊢; exact h.symm
      rw [this]
      rfl
    | false =>
      have : (x.id == n) = false := by rw [beq_eq_false_iff_ne] at h ⊢; exact fun e => h e.symm
      rw [this, Bool.false_or]
      exact ih
theorem mset_ids (l : List Sp) (n : Int) (h : l.any (fun y => y.id == n) = false) : mset (l.map fun s => (s.id, true)) n true = (l.map fun s => (s.id, true)) ++ [(n, true)] := by
  unfold mset
  have : (l.map fun s => (s.id, true)).findIdx? (fun p => n == p.1) = none := by
    rw [List.findIdx?_eq_none_iff]
    intro p hp
    obtain ⟨s, hs, rfl⟩ := List.mem_map.1 hp
    rw [List.any_eq_false] at h
    have := h s hs
    simp only [beq_iff_eq, beq_eq_false_iff_ne] at this ⊢
    exact fun e => this e.symm
  rw [this]
theorem seen_set {e : Ep} {i : Nat} {x : Sp} (hx : e.spans[i]? = some x) (hd : mget (seenM e i) x.id = false) : mset (seenM e i) x.id true = seenM e (i + 1) := by
  unfold seenM at hd ⊢
  rw [mget_ids] at hd
  rw [mset_ids _ _ hd, List.take_add_one, hx, List.map_append]
  rfl
theorem me_0 (e : Ep) (x : Sp) (i : Nat) (hx : e.spans[i]? = some x) (hi : i < e.spans.length) (hs : e.spans.length ≤ 1048576) (hm : ∀ s ∈ e.spans, s.attrs.length ≤ 1000000000) (tq0 : (!(decide (Sp.hi x = Ep.hi e) && (decide (Sp.lo x = Ep.lo e) && true))) = true) : CodeC Try.prog 0 48 meB (meS e false (i)) .ret (meS e false (i)) :=
 runS hmix [.reg 5 [(0, [], some true)], .reg 6 [(1, [.row (Sp.row x)], none)], .reg 7 [(5, [], some true)]] ⟨[1, 2, 3, 27, 28, 29], [(1000, 1000), (601000, 601000)], []⟩ [⟨dlt hi⟩, ⟨nn i⟩, ⟨ltm Sp.row hi⟩, ⟨gtm Sp.row hx⟩, ⟨tq0⟩]

theorem me_1 (e : Ep) (x : Sp) (i : Nat) (hx : e.spans[i]? = some x) (hi : i < e.spans.length) (hs : e.spans.length ≤ 1048576) (hm : ∀ s ∈ e.spans, s.attrs.length ≤ 1000000000) (tq0 : (!(decide (Sp.hi x = Ep.hi e) && (decide (Sp.lo x = Ep.lo e) && true))) = false) (tq1 : (mget (seenM e i) (Sp.id x)) = true) : CodeC Try.prog 0 48 meB (meS e false (i)) .ret (meS e false (i)) :=
 runS hmix [.reg 5 [(0, [], some true)], .reg 6 [(1, [.row (Sp.row x)], none)], .reg 7 [(5, [], some false), (10, [], some true)]] ⟨[1, 2, 3, 27, 28, 29], [(1000, 1000), (601000, 601000)], []⟩ [⟨dlt hi⟩, ⟨nn i⟩, ⟨ltm Sp.row hi⟩, ⟨gtm Sp.row hx⟩, ⟨tq0⟩, ⟨tq1⟩]

theorem me_2 (e : Ep) (x : Sp) (i : Nat) (hx : e.spans[i]? = some x) (hi : i < e.spans.length) (hs : e.spans.length ≤ 1048576) (hm : ∀ s ∈ e.spans, s.attrs.length ≤ 1000000000) (tq0 : (!(decide (Sp.hi x = Ep.hi e) && (decide (Sp.lo x = Ep.lo e) && true))) = false) (tq1 : (mget (seenM e i) (Sp.id x)) = false) : CodeC Try.prog 0 48 meB (meS e false (i)) .normal (meS e false (i + 1)) :=
 runS hmix [.reg 5 [(0, [], some true)], .reg 6 [(1, [.row (Sp.row x)], none)], .reg 7 [(5, [], some false), (10, [], some false)], .reg 9 [(3, [.beM (seenM e (i + 1))], none)], .reg 10 [(0, [.be (I ((i + 1 : Nat) : Int))], none)]] ⟨[1, 2, 3, 27, 28, 29], [(1000, 1000), (601000, 601000)], []⟩ [⟨dlt hi⟩, ⟨nn i⟩, ⟨ltm Sp.row hi⟩, ⟨gtm Sp.row hx⟩, ⟨tq0⟩, ⟨tq1⟩, ⟨seen_set hx tq1⟩, ⟨w64 (i + 1) (by omega)⟩]

theorem meGo (e : Ep) (x : Sp) (i : Nat) (hx : e.spans[i]? = some x) (hi : i < e.spans.length) (hs : e.spans.length ≤ 1048576) (hm : ∀ s ∈ e.spans, s.attrs.length ≤ 1000000000) (hb : (badM e i x) = false) : CodeC Try.prog 0 48 meB (meS e false (i)) .normal (meS e false (i + 1)) := by
  rcases tf (!(decide (Sp.hi x = Ep.hi e) && (decide (Sp.lo x = Ep.lo e) && true))) with tq0 | tq0
  · exact absurd hb (by intro hb; simp_all [badM])
  · rcases tf (mget (seenM e i) (Sp.id x)) with tq1 | tq1
    · exact absurd hb (by simp [badM, tq0, tq1])
    · exact me_2 e x i hx hi hs hm tq0 tq1

theorem meStop (e : Ep) (x : Sp) (i : Nat) (hx : e.spans[i]? = some x) (hi : i < e.spans.length) (hs : e.spans.length ≤ 1048576) (hm : ∀ s ∈ e.spans, s.attrs.length ≤ 1000000000) (hb : (badM e i x) = true) : CodeC Try.prog 0 48 meB (meS e false (i)) .ret (meS e false (i)) := by
  rcases tf (!(decide (Sp.hi x = Ep.hi e) && (decide (Sp.lo x = Ep.lo e) && true))) with tq0 | tq0
  · exact me_0 e x i hx hi hs hm tq0
  · rcases tf (mget (seenM e i) (Sp.id x)) with tq1 | tq1
    · exact me_1 e x i hx hi hs hm tq0 tq1
    · exact absurd hb (by intro hb; simp_all [badM])

theorem meE (e : Ep) (i : Nat) (hs : e.spans.length ≤ 1048576) (hm : ∀ s ∈ e.spans, s.attrs.length ≤ 1000000000) (h : e.spans.length ≤ i)  : CodeC Try.prog 0 48 meB (meS e false (i)) (.exit 0) (meS e false (i)) :=
 runS hmix [.reg 5 [(0, [], some false)]] ⟨[1, 2, 3, 27, 28, 29], [(1000, 1000), (601000, 601000)], []⟩ [⟨dge h⟩]

theorem meL (e : Ep) (hs : e.spans.length ≤ 1048576) (hm : ∀ s ∈ e.spans, s.attrs.length ≤ 1000000000) : (∃ i x, e.spans[i]? = some x ∧ (badM e i x) = true ∧ LoopC Try.prog 0 48 meB (meS e false (0)) .ret (meS e false (i))) ∨ ((∀ (i : Nat) (x : Sp), e.spans[i]? = some x → (badM e i x) = false) ∧ LoopC Try.prog 0 48 meB (meS e false (0)) (.exit 0) (meS e false (e.spans.length))) := by
  rcases LoopC.search (P := Try.prog) (k := 0) (n := 48) (c := meB) e.spans (fun i (x : Sp) => badM e i x) (fun i => meS e false (i)) (fun i => meS e false (i)) (e1 := .ret) (e2 := (.exit 0)) (by simp) (by simp)
    (fun i x hx hi hb => meGo e x i hx hi hs hm hb) (fun i x hx hi hb => meStop e x i hx hi hs hm hb) (meE e _ hs hm (Nat.le_refl _)) with ⟨i, x, k1, k2, _, k4⟩ | ⟨k1, k2⟩
  · exact .inl ⟨i, x, k1, k2, k4⟩
  · exact .inr ⟨k1, k2⟩

theorem cEpisode_b_0 (e : Ep) (i : Nat) (hs : e.spans.length ≤ 1048576) (hm : ∀ s ∈ e.spans, s.attrs.length ≤ 1000000000) (hl : LoopC Try.prog 0 48 meB (meS e false (0)) .ret (meS e false (i))) (tq0 : (!epochB [Ep.first e, Ep.last e]) = true) : Contract Try.prog 57 [e.v] [] (Bo false) [] :=
 vcS hmix [.reg 1 [(5, [.call [] [205000] (Bo (epochB [e.first, e.last])) []], none), (7, [], some true), (16, [.call [] [] (Bo (allB e.spans)) []], none)]] [] [⟨cEpoch [e.first, e.last] (by simp)⟩, ⟨tq0⟩]

theorem cEpisode_b_1 (e : Ep) (i : Nat) (hs : e.spans.length ≤ 1048576) (hm : ∀ s ∈ e.spans, s.attrs.length ≤ 1000000000) (hl : LoopC Try.prog 0 48 meB (meS e false (0)) .ret (meS e false (i))) (tq0 : (!epochB [Ep.first e, Ep.last e]) = false) (tq1 : (Int.ofNat (List.length (List.map Sp.row (Ep.spans e))) == (0 : Int)) = true) : Contract Try.prog 57 [e.v] [] (Bo false) [] :=
 vcS hmix [.reg 1 [(5, [.call [] [205000] (Bo (epochB [e.first, e.last])) []], none), (7, [], some false), (13, [], some true), (16, [.call [] [] (Bo (allB e.spans)) []], none)]] [] [⟨cEpoch [e.first, e.last] (by simp)⟩, ⟨tq0⟩, ⟨tq1⟩]

theorem cEpisode_b_2 (e : Ep) (i : Nat) (hs : e.spans.length ≤ 1048576) (hm : ∀ s ∈ e.spans, s.attrs.length ≤ 1000000000) (hl : LoopC Try.prog 0 48 meB (meS e false (0)) .ret (meS e false (i))) (tq0 : (!epochB [Ep.first e, Ep.last e]) = false) (tq1 : (Int.ofNat (List.length (List.map Sp.row (Ep.spans e))) == (0 : Int)) = false) (tq2 : (!allB (Ep.spans e)) = true) : Contract Try.prog 57 [e.v] [] (Bo false) [] :=
 vcS hmix [.reg 1 [(5, [.call [] [205000] (Bo (epochB [e.first, e.last])) []], none), (7, [], some false), (13, [], some false), (16, [.call [] [] (Bo (allB e.spans)) []], none), (18, [], some true)]] [] [⟨cEpoch [e.first, e.last] (by simp)⟩, ⟨tq0⟩, ⟨tq1⟩, ⟨cAllS e.spans (by omega) hm⟩, ⟨tq2⟩]

theorem cEpisode_b_3 (e : Ep) (i : Nat) (hs : e.spans.length ≤ 1048576) (hm : ∀ s ∈ e.spans, s.attrs.length ≤ 1000000000) (hl : LoopC Try.prog 0 48 meB (meS e false (0)) .ret (meS e false (i))) (tq0 : (!epochB [Ep.first e, Ep.last e]) = false) (tq1 : (Int.ofNat (List.length (List.map Sp.row (Ep.spans e))) == (0 : Int)) = false) (tq2 : (!allB (Ep.spans e)) = false) : Contract Try.prog 57 [e.v] [] (Bo false) [] :=
 vcS hmix [.reg 1 [(5, [.call [] [205000] (Bo (epochB [e.first, e.last])) []], none), (7, [], some false), (13, [], some false), (16, [.call [] [] (Bo (allB e.spans)) []], none), (18, [], some false)], .reg 4 [(2, [.be (I (e.spans.length : Int))], none)], .cut ⟨[1, 2, 3, 27, 28, 29], [(1000, 1000), (601000, 601000)], []⟩ .ret (meS e false (i))] [] [⟨cEpoch [e.first, e.last] (by simp)⟩, ⟨tq0⟩, ⟨tq1⟩, ⟨cAllS e.spans (by omega) hm⟩, ⟨tq2⟩, ⟨lenm Sp.row (Ep.spans e)⟩, ⟨hl⟩]

theorem cEpisode_b (e : Ep) (i : Nat) (hs : e.spans.length ≤ 1048576) (hm : ∀ s ∈ e.spans, s.attrs.length ≤ 1000000000) (hl : LoopC Try.prog 0 48 meB (meS e false (0)) .ret (meS e false (i))) : Contract Try.prog 57 [e.v] [] (Bo false) [] := by
  rcases tf (!epochB [Ep.first e, Ep.last e]) with tq0 | tq0
  · exact cEpisode_b_0 e i hs hm hl tq0
  · rcases tf (Int.ofNat (List.length (List.map Sp.row (Ep.spans e))) == (0 : Int)) with tq1 | tq1
    · exact cEpisode_b_1 e i hs hm hl tq0 tq1
    · rcases tf (!allB (Ep.spans e)) with tq2 | tq2
      · exact cEpisode_b_2 e i hs hm hl tq0 tq1 tq2
      · exact cEpisode_b_3 e i hs hm hl tq0 tq1 tq2

theorem cEpisode_g_0 (e : Ep) (hs : e.spans.length ≤ 1048576) (hm : ∀ s ∈ e.spans, s.attrs.length ≤ 1000000000) (hl : LoopC Try.prog 0 48 meB (meS e false (0)) (.exit 0) (meS e false (e.spans.length))) (tq0 : (!epochB [Ep.first e, Ep.last e]) = true) : Contract Try.prog 57 [e.v] [] (Bo false) ([]) :=
 vcS hmix [.reg 1 [(5, [.call [] [205000] (Bo (epochB [e.first, e.last])) []], none), (7, [], some true), (16, [.call [] [] (Bo (allB e.spans)) []], none)]] [] [⟨cEpoch [e.first, e.last] (by simp)⟩, ⟨tq0⟩]

theorem cEpisode_g_1 (e : Ep) (hs : e.spans.length ≤ 1048576) (hm : ∀ s ∈ e.spans, s.attrs.length ≤ 1000000000) (hl : LoopC Try.prog 0 48 meB (meS e false (0)) (.exit 0) (meS e false (e.spans.length))) (tq0 : (!epochB [Ep.first e, Ep.last e]) = false) (tq1 : (Int.ofNat (List.length (List.map Sp.row (Ep.spans e))) == (0 : Int)) = true) : Contract Try.prog 57 [e.v] [] (Bo false) ([]) :=
 vcS hmix [.reg 1 [(5, [.call [] [205000] (Bo (epochB [e.first, e.last])) []], none), (7, [], some false), (13, [], some true), (16, [.call [] [] (Bo (allB e.spans)) []], none)]] [] [⟨cEpoch [e.first, e.last] (by simp)⟩, ⟨tq0⟩, ⟨tq1⟩]

theorem cEpisode_g_2 (e : Ep) (hs : e.spans.length ≤ 1048576) (hm : ∀ s ∈ e.spans, s.attrs.length ≤ 1000000000) (hl : LoopC Try.prog 0 48 meB (meS e false (0)) (.exit 0) (meS e false (e.spans.length))) (tq0 : (!epochB [Ep.first e, Ep.last e]) = false) (tq1 : (Int.ofNat (List.length (List.map Sp.row (Ep.spans e))) == (0 : Int)) = false) (tq2 : (!allB (Ep.spans e)) = true) : Contract Try.prog 57 [e.v] [] (Bo false) ([]) :=
 vcS hmix [.reg 1 [(5, [.call [] [205000] (Bo (epochB [e.first, e.last])) []], none), (7, [], some false), (13, [], some false), (16, [.call [] [] (Bo (allB e.spans)) []], none), (18, [], some true)]] [] [⟨cEpoch [e.first, e.last] (by simp)⟩, ⟨tq0⟩, ⟨tq1⟩, ⟨cAllS e.spans (by omega) hm⟩, ⟨tq2⟩]

theorem cEpisode_g_3 (e : Ep) (hs : e.spans.length ≤ 1048576) (hm : ∀ s ∈ e.spans, s.attrs.length ≤ 1000000000) (hl : LoopC Try.prog 0 48 meB (meS e false (0)) (.exit 0) (meS e false (e.spans.length))) (tq0 : (!epochB [Ep.first e, Ep.last e]) = false) (tq1 : (Int.ofNat (List.length (List.map Sp.row (Ep.spans e))) == (0 : Int)) = false) (tq2 : (!allB (Ep.spans e)) = false) : Contract Try.prog 57 [e.v] [] (Bo true) ([]) :=
 vcS hmix [.reg 1 [(5, [.call [] [205000] (Bo (epochB [e.first, e.last])) []], none), (7, [], some false), (13, [], some false), (16, [.call [] [] (Bo (allB e.spans)) []], none), (18, [], some false)], .reg 4 [(2, [.be (I (e.spans.length : Int))], none)], .cut ⟨[1, 2, 3, 27, 28, 29], [(1000, 1000), (601000, 601000)], []⟩ (.exit 0) (meS e false (e.spans.length))] [] [⟨cEpoch [e.first, e.last] (by simp)⟩, ⟨tq0⟩, ⟨tq1⟩, ⟨cAllS e.spans (by omega) hm⟩, ⟨tq2⟩, ⟨lenm Sp.row (Ep.spans e)⟩, ⟨hl⟩]

theorem cEpisode_g (e : Ep) (hs : e.spans.length ≤ 1048576) (hm : ∀ s ∈ e.spans, s.attrs.length ≤ 1000000000) (hl : LoopC Try.prog 0 48 meB (meS e false (0)) (.exit 0) (meS e false (e.spans.length))) : Contract Try.prog 57 [e.v] [] (Bo (epochB [e.first, e.last] && !((e.spans.length : Int) == 0) && allB e.spans)) [] := by
  rcases tf (!epochB [Ep.first e, Ep.last e]) with tq0 | tq0
  · exact Contract.cast (by (try simp only [Int.ofNat_eq_natCast, List.length_map, Bool.not_eq_true', Bool.not_eq_false', decide_eq_true_eq, decide_eq_false_iff_not] at tq0); simp [tq0]) rfl (cEpisode_g_0 e hs hm hl tq0)
  · rcases tf (Int.ofNat (List.length (List.map Sp.row (Ep.spans e))) == (0 : Int)) with tq1 | tq1
    · exact Contract.cast (by (try simp only [Int.ofNat_eq_natCast, List.length_map, Bool.not_eq_true', Bool.not_eq_false', decide_eq_true_eq, decide_eq_false_iff_not] at tq0 tq1); simp [tq0, tq1]) rfl (cEpisode_g_1 e hs hm hl tq0 tq1)
    · rcases tf (!allB (Ep.spans e)) with tq2 | tq2
      · exact Contract.cast (by (try simp only [Int.ofNat_eq_natCast, List.length_map, Bool.not_eq_true', Bool.not_eq_false', decide_eq_true_eq, decide_eq_false_iff_not] at tq0 tq1 tq2); simp [tq0, tq1, tq2]) rfl (cEpisode_g_2 e hs hm hl tq0 tq1 tq2)
      · exact Contract.cast (by (try simp only [Int.ofNat_eq_natCast, List.length_map, Bool.not_eq_true', Bool.not_eq_false', decide_eq_true_eq, decide_eq_false_iff_not] at tq0 tq1 tq2); simp [tq0, tq1, tq2]) rfl (cEpisode_g_3 e hs hm hl tq0 tq1 tq2)

theorem cEpisode (e : Ep) (hs : e.spans.length ≤ 1048576) (hm : ∀ s ∈ e.spans, s.attrs.length ≤ 1000000000) : Contract Try.prog 57 [e.v] [] (Bo (episodeB e)) [] := by
  rcases meL e hs hm with ⟨i, x, k1, k2, k4⟩ | ⟨k1, k2⟩
  · have q : allI (fun i (x : Sp) => badM e i x) e.spans = false := allI_bad k1 k2
    have := cEpisode_b e i hs hm k4
    unfold episodeB; rw [q]; simpa using this
  · have q : allI (fun i (x : Sp) => badM e i x) e.spans = true := allI_good k1
    have := cEpisode_g e hs hm k2
    unfold episodeB; rw [q]; simpa using this

end Go.Proofs.Ytdomjccibhgbjaa

/- blocks that may be. -/
namespace Go.Proofs.Ytdomjccibhgbjaa
open E
set_option maxRecDepth 100000
set_option linter.unusedVariables false
set_option linter.unusedSimpArgs false

def badE1 (e : Ep) : Bool := !episodeB e
def rightM (b : Bk) : Bool := epochB [b.num, b.born, b.tier] && sortedB b.eps && !decide (0 ≤ idxI badE1 b.eps)
theorem cRt1 (e : Ep) (hs : e.spans.length ≤ 1048576) (hm : ∀ s ∈ e.spans, s.attrs.length ≤ 1000000000) : Contract Try.prog 56 [e.v] [] (Bo (badE1 e)) [] :=
 vcS hmix [.reg 1 [(1, [.call [] [] (Bo (episodeB e)) []], none)]] [] [⟨cEpisode e hs hm⟩]

def ixES (l : List Ep)  (i : Nat) (r : Int) : SL := ⟨[(0, .sl 6 (l.map Ep.row)), (1, .clo (.func 56) [] []), (4, I r), (7, I (l.length : Int)), (8, I (i : Int))], [], []⟩
noncomputable def ixEB : Code := codeAt Try.prog 81 [true, false, true, false, false]

theorem ixENo (l : List Ep)  (x : Ep) (i : Nat) (h : i < l.length) (hx : l[i]? = some x) (hs : l.length ≤ 1000000000000000) (hm : ∀ e ∈ l, e.spans.length ≤ 1048576 ∧ ∀ s ∈ e.spans, s.attrs.length ≤ 1000000000) (hp : (badE1) x = false) : CodeC Try.prog 0 19 ixEB (ixES l  i 0) .normal (ixES l  (i + 1) 0) :=
 runS hmix [.reg 2 [(0, [], some true)], .reg 4 [(4, [.row (Ep.row x)], none), (5, [.call [] [] (Bo ((badE1) x)) []], some false)], .reg 6 [(0, [.be (I ((i + 1 : Nat) : Int))], none)]] ⟨[0, 1, 4, 7, 8], [], []⟩ [⟨dlt h⟩, ⟨nn i⟩, ⟨ltm Ep.row h⟩, ⟨gtm Ep.row hx⟩, ⟨cRt1 x (hm x (List.mem_of_getElem? hx)).1 (hm x (List.mem_of_getElem? hx)).2⟩, ⟨(by omega : badE1 x = false)⟩, ⟨w64 (i + 1) (by omega)⟩]

theorem ixEYes (l : List Ep)  (x : Ep) (i : Nat) (h : i < l.length) (hx : l[i]? = some x) (hs : l.length ≤ 1000000000000000) (hm : ∀ e ∈ l, e.spans.length ≤ 1048576 ∧ ∀ s ∈ e.spans, s.attrs.length ≤ 1000000000) (hp : (badE1) x = true) : CodeC Try.prog 0 19 ixEB (ixES l  i 0) .ret (ixES l  i (i : Int)) :=
 runS hmix [.reg 2 [(0, [], some true)], .reg 4 [(4, [.row (Ep.row x)], none), (5, [.call [] [] (Bo ((badE1) x)) []], some true)]] ⟨[0, 1, 4, 7, 8], [], []⟩ [⟨dlt h⟩, ⟨nn i⟩, ⟨ltm Ep.row h⟩, ⟨gtm Ep.row hx⟩, ⟨cRt1 x (hm x (List.mem_of_getElem? hx)).1 (hm x (List.mem_of_getElem? hx)).2⟩, ⟨(by omega : badE1 x = true)⟩]

theorem ixEEnd (l : List Ep)  (i : Nat) (h : l.length ≤ i) : CodeC Try.prog 0 19 ixEB (ixES l  i 0) (.exit 0) (ixES l  i 0) :=
 runS hmix [.reg 2 [(0, [], some false)]] ⟨[0, 1, 4, 7, 8], [], []⟩ [⟨dge h⟩]

theorem ixELoop (l : List Ep)  (hs : l.length ≤ 1000000000000000) (hm : ∀ e ∈ l, e.spans.length ≤ 1048576 ∧ ∀ s ∈ e.spans, s.attrs.length ≤ 1000000000) : ∀ (n i : Nat), i + n = l.length →
    match (l.drop i).findIdx? (badE1) with
    | some j => LoopC Try.prog 0 19 ixEB (ixES l  i 0) .ret (ixES l  (i + j) ((i + j : Nat) : Int))
    | none => LoopC Try.prog 0 19 ixEB (ixES l  i 0) (.exit 0) (ixES l  l.length 0)
  | 0, i, hi => by
    rw [List.drop_of_length_le (by omega)]
    have : i = l.length := by omega
    subst this
    exact LoopC.last (ixEEnd l  _ (by omega)) (by simp)
  | n + 1, i, hi => by
    have hlt : i < l.length := by omega
    have hx : l[i]? = some l[i] := by simp [hlt]
    have ih := ixELoop l  hs hm n (i + 1) (by omega)
    rw [List.drop_eq_getElem_cons hlt, List.findIdx?_cons]
    cases hp : (badE1) l[i] with
    | true =>
      simp only [if_true, Nat.add_zero]
      exact LoopC.last (ixEYes l  l[i] i hlt hx hs hm hp) (by simp)
    | false =>
      have r := ixENo l  l[i] i hlt hx hs hm hp
      simp only [Bool.false_eq_true, if_false]
      cases hf : (l.drop (i + 1)).findIdx? (badE1) with
      | none => rw [hf] at ih; exact LoopC.next r ih
      | some j =>
        rw [hf] at ih
        simp only [Option.map_some]
        rw [show i + (j + 1) = i + 1 + j by omega]
        exact LoopC.next r ih

theorem ixESome (l : List Ep)  (j : Nat) (hs : l.length ≤ 1000000000000000) (hm : ∀ e ∈ l, e.spans.length ≤ 1048576 ∧ ∀ s ∈ e.spans, s.attrs.length ≤ 1000000000) (h : l.findIdx? (badE1) = some j) : Contract Try.prog 81 [.sl 6 (l.map Ep.row), .clo (.func 56) [] []] [] (I (j : Int)) [] :=
  have hl := ixELoop l  hs hm l.length 0 (by omega)
  have hl : LoopC Try.prog 0 19 ixEB (ixES l  0 0) .ret (ixES l  j ((j : Nat) : Int)) := by rw [List.drop_zero, h] at hl; simpa using hl
  vcP hmix [.reg 1 [(1, [.be (I (l.length : Int))], none)], .cut ⟨[0, 1, 4, 7, 8], [], []⟩ .ret (ixES l  j (j : Int))] [] [(((l.map Ep.row).length : Nat) : Int) = (l.length : Int), LoopC Try.prog 0 19 ixEB (ixES l  0 0) .ret (ixES l  j ((j : Nat) : Int))] (by kernel_rfl) ⟨by simp, hl⟩

theorem ixENone (l : List Ep)  (hs : l.length ≤ 1000000000000000) (hm : ∀ e ∈ l, e.spans.length ≤ 1048576 ∧ ∀ s ∈ e.spans, s.attrs.length ≤ 1000000000) (h : l.findIdx? (badE1) = none) : Contract Try.prog 81 [.sl 6 (l.map Ep.row), .clo (.func 56) [] []] [] (I (-1)) [] :=
  have hl := ixELoop l  hs hm l.length 0 (by omega)
  have hl : LoopC Try.prog 0 19 ixEB (ixES l  0 0) (.exit 0) (ixES l  l.length 0) := by rw [List.drop_zero, h] at hl; exact hl
  vcP hmix [.reg 1 [(1, [.be (I (l.length : Int))], none)], .cut ⟨[0, 1, 4, 7, 8], [], []⟩ (.exit 0) (ixES l  l.length 0)] [] [(((l.map Ep.row).length : Nat) : Int) = (l.length : Int), LoopC Try.prog 0 19 ixEB (ixES l  0 0) (.exit 0) (ixES l  l.length 0)] (by kernel_rfl) ⟨by simp, hl⟩

theorem ixE (l : List Ep)  (hs : l.length ≤ 1000000000000000) (hm : ∀ e ∈ l, e.spans.length ≤ 1048576 ∧ ∀ s ∈ e.spans, s.attrs.length ≤ 1000000000) : Contract Try.prog 81 [.sl 6 (l.map Ep.row), .clo (.func 56) [] []] [] (I (idxI (badE1) l)) [] := by
  unfold idxI
  cases h : l.findIdx? (badE1) with
  | none => exact ixENone l  hs hm h
  | some j => exact ixESome l  j hs hm h

theorem cCE (l : List Ep) (hs : l.length ≤ 1000000000) (hm : ∀ e ∈ l, e.spans.length ≤ 1048576 ∧ ∀ s ∈ e.spans, s.attrs.length ≤ 1000000000) : Contract Try.prog 55 [.sl 6 (l.map Ep.row), .clo (.func 56) [] []] [] (Bo (decide (0 ≤ idxI badE1 l))) [] :=
 vcS hmix [.reg 1 [(2, [.call [] [] (I (idxI badE1 l)) []], none)]] [] [⟨ixE l (by omega) hm⟩]

theorem cRightM_0 (b : Bk) (hs : b.eps.length ≤ 1000000000) (hm : ∀ e ∈ b.eps, e.spans.length ≤ 1048576 ∧ ∀ s ∈ e.spans, s.attrs.length ≤ 1000000000) (tq0 : (epochB [Bk.num b, Bk.born b, Bk.tier b]) = true) (tq1 : (sortedB (Bk.eps b)) = true) : Contract Try.prog 26 [b.v] [] (Bo !decide (0 ≤ idxI (fun e0 => !episodeB e0) (Bk.eps b))) ([]) :=
 vcS hmix [.reg 1 [(7, [.call [] [207000] (Bo (epochB [b.num, b.born, b.tier])) []], none), (8, [], some true), (11, [.call [] [] (Bo (sortedB b.eps)) []], none), (13, [], some true), (16, [.call [] [] (Bo (decide (0 ≤ idxI badE1 b.eps))) []], none)]] [] [⟨cEpoch [b.num, b.born, b.tier] (by simp)⟩, ⟨tq0⟩, ⟨cSorted b.eps hs⟩, ⟨tq1⟩, ⟨cCE b.eps hs hm⟩]

theorem cRightM_1 (b : Bk) (hs : b.eps.length ≤ 1000000000) (hm : ∀ e ∈ b.eps, e.spans.length ≤ 1048576 ∧ ∀ s ∈ e.spans, s.attrs.length ≤ 1000000000) (tq0 : (epochB [Bk.num b, Bk.born b, Bk.tier b]) = true) (tq1 : (sortedB (Bk.eps b)) = false) : Contract Try.prog 26 [b.v] [] (Bo false) ([]) :=
 vcS hmix [.reg 1 [(7, [.call [] [207000] (Bo (epochB [b.num, b.born, b.tier])) []], none), (8, [], some true), (11, [.call [] [] (Bo (sortedB b.eps)) []], none), (13, [], some false), (16, [.call [] [] (Bo (decide (0 ≤ idxI badE1 b.eps))) []], none)]] [] [⟨cEpoch [b.num, b.born, b.tier] (by simp)⟩, ⟨tq0⟩, ⟨cSorted b.eps hs⟩, ⟨tq1⟩]

theorem cRightM_2 (b : Bk) (hs : b.eps.length ≤ 1000000000) (hm : ∀ e ∈ b.eps, e.spans.length ≤ 1048576 ∧ ∀ s ∈ e.spans, s.attrs.length ≤ 1000000000) (tq0 : (epochB [Bk.num b, Bk.born b, Bk.tier b]) = false) : Contract Try.prog 26 [b.v] [] (Bo false) ([]) :=
 vcS hmix [.reg 1 [(7, [.call [] [207000] (Bo (epochB [b.num, b.born, b.tier])) []], none), (8, [], some false), (11, [.call [] [] (Bo (sortedB b.eps)) []], none), (16, [.call [] [] (Bo (decide (0 ≤ idxI badE1 b.eps))) []], none)]] [] [⟨cEpoch [b.num, b.born, b.tier] (by simp)⟩, ⟨tq0⟩]

theorem cRightM (b : Bk) (hs : b.eps.length ≤ 1000000000) (hm : ∀ e ∈ b.eps, e.spans.length ≤ 1048576 ∧ ∀ s ∈ e.spans, s.attrs.length ≤ 1000000000) : Contract Try.prog 26 [b.v] [] (Bo (rightM b)) [] := by
  rcases tf (epochB [Bk.num b, Bk.born b, Bk.tier b]) with tq0 | tq0
  · rcases tf (sortedB (Bk.eps b)) with tq1 | tq1
    · exact Contract.cast (by simp only [rightM, tq0, tq1, cond_true, cond_false]; rfl) rfl (cRightM_0 b hs hm tq0 tq1)
    · exact Contract.cast (by simp only [rightM, tq0, tq1, cond_true, cond_false]; rfl) rfl (cRightM_1 b hs hm tq0 tq1)
  · exact Contract.cast (by simp only [rightM, tq0, cond_true, cond_false]; rfl) rfl (cRightM_2 b hs hm tq0)

end Go.Proofs.Ytdomjccibhgbjaa

/- What the code calls right is what the reference calls right. -/
namespace Go.Proofs.Ytdomjccibhgbjaa
open E
theorem idxI_any {α : Type} (p : α → Bool) (l : List α) : decide (0 ≤ idxI p l) = l.any p := by
  unfold idxI
  cases h : l.findIdx? p with
  | none =>
    have : l.any p = false := by
      rw [List.findIdx?_eq_none_iff] at h
      rw [List.any_eq_false]
      intro x hx
      rw [h x hx]
      decide
    rw [this]
    rfl
  | some j =>
    have : l.any p = true := by
      rw [List.findIdx?_eq_some_iff_getElem] at h
      obtain ⟨h1, h2, _⟩ := h
      exact List.any_eq_true.2 ⟨_, List.getElem_mem h1, h2⟩
    rw [this]
    simp
theorem epochB_all (l : List Int) : epochB l = l.all countB := by
  unfold epochB
  rw [idxI_any, List.all_eq_not_any_not]
  congr 1
  congr 1
  funext n
  unfold badN1 countB withinB
  rw [Bool.eq_iff_iff]
  simp
theorem allB_all (l : List Sp) : allB l = l.all rightS := by
  unfold allB
  rw [idxI_any, List.all_eq_not_any_not]
  rfl
theorem badE_badM (e : Ep) (i : Nat) (x : Sp) : badE e i x = (!rightS x || badM e i x) := by
  unfold badE badX badM seenM
  rw [mget_ids, Bool.or_assoc]
  congr 2
  have := allI_all (p := fun y : Sp => !(y.id == x.id)) (l := e.spans.take i)
  simp only [Bool.not_not] at this
  rw [this, List.all_eq_not_any_not]
  simp
theorem rightE_eq (e : Ep) : rightE e = episodeB e := by
  have h : allI (fun i (x : Sp) => badE e i x) e.spans = (allB e.spans && allI (fun i (x : Sp) => badM e i x) e.spans) := by
    rw [allB_all, Bool.eq_iff_iff, Bool.and_eq_true, allI_iff, allI_iff, List.all_eq_true]
    constructor
    · intro k
      refine ⟨fun x hx => ?_, fun i x hx => ?_⟩
      · obtain ⟨i, hi⟩ := List.getElem?_of_mem hx
        have := k i x hi
        rw [badE_badM] at this
        simp only [Bool.or_eq_false_iff, Bool.not_eq_false'] at this
        exact this.1
      · have := k i x hx
        rw [badE_badM] at this
        simp only [Bool.or_eq_false_iff] at this
        exact this.2
    · intro ⟨k1, k2⟩ i x hx
      rw [badE_badM, k1 x (List.mem_of_getElem? hx), k2 i x hx]
      rfl
  unfold rightE episodeB
  rw [h, epochB_all]
  simp only [List.all_cons, List.all_nil, Bool.and_true, Bool.and_assoc]
theorem srtN_iff (l : List Ep) : ∀ n, n < l.length → (srtN l n = true ↔ ∀ (j : Nat) (x y : Ep), j < n → l[j + 1]? = some x → l[j]? = some y → soLt x y = false)
  | 0, _ => by simp [srtN]
  | n + 1, h => by
    have hx : l[n + 1]? = some (l[n + 1]'h) := List.getElem?_eq_getElem _
    have hy : l[n]? = some (l[n]'(by omega)) := List.getElem?_eq_getElem _
    rw [srtN, hx, hy]
    simp only [Bool.and_eq_true, Bool.not_eq_true']
    rw [srtN_iff l n (by omega)]
    constructor
    · intro ⟨k1, k2⟩ j x y hj h1 h2
      by_cases hjn : j = n
      · subst hjn
        rw [hx] at h1
        rw [hy] at h2
        simp only [Option.some.injEq] at h1 h2
        rw [← h1, ← h2]
        exact k1
      · exact k2 j x y (by omega) h1 h2
    · intro k
      exact ⟨k n _ _ (by omega) hx hy, fun j x y hj => k j x y (by omega)⟩
theorem rightB_eq (b : Bk) : rightB b = rightM b := by
  have h : allI (fun i (x : Ep) => badB b i x) b.eps = (sortedB b.eps && !(b.eps.any badE1)) := by
    rw [Bool.eq_iff_iff, Bool.and_eq_true, allI_iff, Bool.not_eq_true', List.any_eq_false]
    have hs : sortedB b.eps = true ↔ ∀ (j : Nat) (x y : Ep), b.eps[j + 1]? = some x → b.eps[j]? = some y → soLt x y = false := by
      unfold sortedB
      by_cases h0 : b.eps.length = 0
      · rw [h0]
        have : b.eps = [] := List.length_eq_zero_iff.1 h0
        rw [this]
        simp [srtN]
      · rw [srtN_iff _ _ (by omega)]
        constructor
        · intro k j x y h1 h2
          have := (List.getElem?_eq_some_iff.1 h1).1
          exact k j x y (by omega) h1 h2
        · intro k j x y _ h1 h2
          exact k j x y h1 h2
    rw [hs]
    constructor
    · intro k
      refine ⟨fun j x y h1 h2 => ?_, fun x hx => ?_⟩
      · have := k (j + 1) x h1
        unfold badB at this
        simp only [Bool.or_eq_false_iff, show decide (0 < j + 1) = true by simp, Bool.true_and, Nat.add_sub_cancel, h2] at this
        exact this.2
      · obtain ⟨i, hi⟩ := List.getElem?_of_mem hx
        have := k i x hi
        unfold badB at this
        simp only [Bool.or_eq_false_iff, Bool.not_eq_false'] at this
        unfold badE1
        rw [← rightE_eq, this.1]
        decide
    · intro ⟨k1, k2⟩ i x hx
      have hr : rightE x = true := by
        have := k2 x (List.mem_of_getElem? hx)
        unfold badE1 at this
        rw [rightE_eq]
        simpa using this
      unfold badB
      rw [hr]
      cases i with
      | zero => rfl
      | succ j =>
        have hj : j < b.eps.length := by have := (List.getElem?_eq_some_iff.1 hx).1; omega
        have hy : b.eps[j]? = some b.eps[j] := List.getElem?_eq_getElem _
        simp only [Nat.add_sub_cancel, hy, k1 j x _ hx hy]
        simp
  unfold rightB rightM
  rw [h, epochB_all, idxI_any]
  simp only [List.all_cons, List.all_nil, Bool.and_true]
  cases countB b.num <;> cases countB b.born <;> cases countB b.tier <;> simp
end Go.Proofs.Ytdomjccibhgbjaa

/- sums of bytes. -/
namespace Go.Proofs.Ytdomjccibhgbjaa
open E
set_option maxRecDepth 100000
set_option linter.unusedVariables false
set_option linter.unusedSimpArgs false

def U4 (n : Int) : V := .val (.int .u32 n)
/-- One bit of a sum. -/
def cst (n : Nat) : Nat := (n / 2) ^^^ (bif n % 2 == 1 then 3988292384 else 0)
def cby : Nat → Nat → Nat
  | 0, n => n
  | k + 1, n => cby k (cst n)
/-- A byte more. -/
def crcF (n : Nat) (b : UInt8) : Nat := cby 8 (n ^^^ b.toNat)
/-- The sum of bytes. -/
def crcM (l : List UInt8) : Nat := 4294967295 - l.foldl crcF 4294967295
def cmS (l : List UInt8) (n i k : Nat) : SL := ⟨[(5, U4 (n : Int)), (10, .sl 1 (l.map bR)), (11, I (l.length : Int)), (12, I (i : Int)), (20, I (k : Int))], [], []⟩
def coS (l : List UInt8) (n i : Nat) : SL := ⟨[(5, U4 (n : Int)), (10, .sl 1 (l.map bR)), (11, I (l.length : Int)), (12, I (i : Int))], [], []⟩
def rmS (l : List UInt8) (n i k : Nat) : SL := ⟨[(1, .sl 1 (l.map bR)), (5, U4 (n : Int)), (6, I (i : Int)), (7, I (k : Int))], [], []⟩
def roS (l : List UInt8) (n i : Nat) : SL := ⟨[(1, .sl 1 (l.map bR)), (5, U4 (n : Int)), (6, I (i : Int))], [], []⟩
noncomputable def cmB : Code := codeAt Try.prog 85 [true, true, false, true, false, false, true, true, false, false, true, true, true, false, false]

noncomputable def coB : Code := codeAt Try.prog 85 [true, true, false, true, false, false]

noncomputable def rmB : Code := codeAt Try.prog 84 [true, true, false, true, false, false, true, false, false, true, true, false, false]

noncomputable def roB : Code := codeAt Try.prog 84 [true, true, false, true, false, false]

theorem xor_lt {a b : Nat} (ha : a < 4294967296) (hb : b < 4294967296) : a ^^^ b < 4294967296 := Nat.xor_lt_two_pow (n := 32) ha hb
theorem cst_lt {n : Nat} (h : n < 4294967296) : cst n < 4294967296 := by
  unfold cst
  refine xor_lt (by omega) ?_
  cases n % 2 == 1 <;> decide
theorem cby_lt : ∀ (k : Nat) {n : Nat}, n < 4294967296 → cby k n < 4294967296
  | 0, _, h => h
  | k + 1, _, h => cby_lt k (cst_lt h)
theorem u8_lt (b : UInt8) : b.toNat < 256 := b.toNat_lt
theorem crcF_lt {n : Nat} (b : UInt8) (h : n < 4294967296) : crcF n b < 4294967296 := cby_lt 8 (xor_lt h (by have := u8_lt b; omega))
theorem cst_go {n : Nat} (h : n < 4294967296) : Int.ofNat (((Int.toNat (Int.fdiv (Int.ofNat n) (2 : Int) % (4294967296 : Int))) ^^^ ((3988292384 : Nat) * (((n % 4294967296) &&& (1 : Nat)) % 4294967296) % 4294967296 % 4294967296)) % 4294967296) = Int.ofNat (cst n) := by
  have e1 : Int.toNat (Int.fdiv (Int.ofNat n) (2 : Int) % (4294967296 : Int)) = n / 2 := by
    rw [Int.fdiv_eq_ediv_of_nonneg _ (by decide)]
    simp only [Int.ofNat_eq_natCast]
    omega
  have e2 : 3988292384 * (((n % 4294967296) &&& 1) % 4294967296) % 4294967296 % 4294967296 = (bif n % 2 == 1 then 3988292384 else 0) := by
    rw [Nat.mod_eq_of_lt h, Nat.and_one_is_mod]
    rcases Nat.mod_two_eq_zero_or_one n with h0 | h0 <;> rw [h0] <;> rfl
  have hl := cst_lt h
  have e3 : cst n = (n / 2) ^^^ (bif n % 2 == 1 then 3988292384 else 0) := rfl
  rw [e1, e2, ← e3, Nat.mod_eq_of_lt hl]
theorem cst_odd {n : Nat} (h : n < 4294967296) (ho : n % 2 = 1) : cst n = (n / 2) ^^^ 3988292384 := by unfold cst; rw [ho]; rfl
theorem cst_even {n : Nat} (h : n < 4294967296) (ho : n % 2 ≠ 1) : cst n = n / 2 := by
  unfold cst
  rw [show n % 2 = 0 by omega]
  exact Nat.xor_zero _
theorem inv_go {m : Nat} (h : m < 4294967296) : Int.ofNat ((4294967295 ^^^ m % 4294967296) % 4294967296) = Int.ofNat (4294967295 - m) := by
  rw [Nat.mod_eq_of_lt h, Nat.mod_eq_of_lt (xor_lt (by decide) h)]
  have h1 : (BitVec.allOnes 32 ^^^ BitVec.ofNat 32 m).toNat = 4294967295 ^^^ m := by
    rw [BitVec.toNat_xor, BitVec.toNat_allOnes, BitVec.toNat_ofNat, Nat.mod_eq_of_lt h]
  have h2 : (BitVec.allOnes 32 ^^^ BitVec.ofNat 32 m).toNat = 4294967295 - m := by
    rw [BitVec.allOnes_xor, BitVec.toNat_not, BitVec.toNat_ofNat, Nat.mod_eq_of_lt h]
  rw [← h1, h2]
theorem byte_in {n : Nat} (b : UInt8) (h : n < 4294967296) : Int.ofNat (((n % 4294967296) ^^^ (UInt8.toNat b % 4294967296 % 4294967296)) % 4294967296) = Int.ofNat (n ^^^ b.toNat) := by
  have := u8_lt b
  rw [Nat.mod_eq_of_lt h, Nat.mod_mod, Nat.mod_eq_of_lt (show b.toNat < 4294967296 by omega), Nat.mod_eq_of_lt (xor_lt h (by omega))]
theorem cmGo (l : List UInt8) (n i k : Nat) (h : k < 8) (hn : n < 4294967296)  : CodeC Try.prog 0 32 cmB (cmS l n i k) .normal (cmS l (cst n) i (k + 1)) :=
 runS hmix [.reg 7 [(0, [], some true)], .reg 8 [(5, [.be (U4 ((cst n : Nat) : Int))], none)], .reg 9 [(0, [.be (I ((k + 1 : Nat) : Int))], none)]] ⟨[5, 10, 11, 12, 20], [], []⟩ [⟨(by simp; omega : decide (Int.ofNat k < 8) = true)⟩, ⟨cst_go hn⟩, ⟨w64 (k + 1) (by omega)⟩]

theorem cmE (l : List UInt8) (n i : Nat)   : CodeC Try.prog 0 32 cmB (cmS l n i 8) (.exit 2) (cmS l n i 8) :=
 runS hmix [] ⟨[5, 10, 11, 12, 20], [], []⟩ []

theorem cmAll (l : List UInt8) (i : Nat) : ∀ (m k n : Nat), k + m = 8 → n < 4294967296 → LoopC Try.prog 0 32 cmB (cmS l n i k) (.exit 2) (cmS l (cby m n) i 8)
  | 0, k, n, h, _ => by
    have : k = 8 := by omega
    subst this
    exact LoopC.last (cmE l n i) (by simp)
  | m + 1, k, n, h, hn => LoopC.next (cmGo l n i k (by omega) hn) (cmAll l i m (k + 1) (cst n) (by omega) (cst_lt hn))
theorem coGo (l : List UInt8) (b : UInt8) (n n2 i : Nat) (hx : l[i]? = some b) (hi : i < l.length) (hs : l.length ≤ 100000000) (hn : n < 4294967296) (hl : LoopC Try.prog 0 32 cmB (cmS l (n ^^^ b.toNat) i 0) (.exit 2) (cmS l n2 i 8))  : CodeC Try.prog 0 32 coB (coS l n i) .normal (coS l n2 (i + 1)) :=
 runS hmix [.reg 3 [(0, [], some true)], .reg 4 [(1, [.row (bR b)], none)], .reg 5 [(3, [.be (U4 ((n ^^^ b.toNat : Nat) : Int))], none)], .cut ⟨[5, 10, 11, 12, 20], [], []⟩ (.exit 2) (cmS l n2 i 8), .reg 10 [(0, [.be (I ((i + 1 : Nat) : Int))], none)]] ⟨[5, 10, 11, 12], [], []⟩ [⟨dlt hi⟩, ⟨nn i⟩, ⟨ltm bR hi⟩, ⟨gtm bR hx⟩, ⟨byte_in b hn⟩, ⟨hl⟩, ⟨w64 (i + 1) (by omega)⟩]

theorem coE (l : List UInt8) (n i : Nat) (h : l.length ≤ i)  : CodeC Try.prog 0 32 coB (coS l n i) (.exit 0) (coS l n i) :=
 runS hmix [.reg 3 [(0, [], some false)]] ⟨[5, 10, 11, 12], [], []⟩ [⟨dge h⟩]

theorem coAll (l : List UInt8) (hs : l.length ≤ 100000000) : ∀ (m i n : Nat), i + m = l.length → n < 4294967296 → LoopC Try.prog 0 32 coB (coS l n i) (.exit 0) (coS l ((l.drop i).foldl crcF n) l.length)
  | 0, i, n, h, _ => by
    have : i = l.length := by omega
    subst this
    rw [List.drop_length]
    exact LoopC.last (coE l n _ (Nat.le_refl _)) (by simp)
  | m + 1, i, n, h, hn => by
    have hi : i < l.length := by omega
    rw [List.drop_eq_getElem_cons hi, List.foldl_cons]
    have hin := cmAll l i 8 0 (n ^^^ l[i].toNat) rfl (xor_lt hn (by have := u8_lt l[i]; omega))
    exact LoopC.next (coGo l l[i] n (crcF n l[i]) i (List.getElem?_eq_getElem hi) hi hs hn hin) (coAll l hs m (i + 1) _ (by omega) (crcF_lt _ hn))
theorem rmOdd (l : List UInt8) (n i k : Nat) (h : k < 8) (hn : n < 4294967296) (ho : n % 2 = 1)  : CodeC Try.prog 0 37 rmB (rmS l n i k) .normal (rmS l (cst n) i (k + 1)) :=
 runS hmix [.reg 7 [(1, [], some true)], .reg 9 [(2, [], some true)], .reg 10 [(2, [.be (U4 ((cst n : Nat) : Int))], none)], .reg 8 [(1, [.be (I ((k + 1 : Nat) : Int))], none)]] ⟨[1, 5, 6, 7], [], []⟩ [⟨(by simp; omega : decide (Int.ofNat k < 8) = true)⟩, ⟨(by rw [Nat.mod_eq_of_lt hn, Nat.and_one_is_mod, ho]; rfl : (Int.ofNat (((n % 4294967296) &&& 1) % 4294967296) == 1) = true)⟩, ⟨(by rw [cst_odd hn ho]; have := xor_lt (a := n / 2) (b := 3988292384) (by omega) (by decide); rw [Int.fdiv_eq_ediv_of_nonneg _ (by decide), show (Int.ofNat n / 2 % 4294967296).toNat = n / 2 by simp only [Int.ofNat_eq_natCast]; omega, Nat.mod_eq_of_lt this] : Int.ofNat (((Int.toNat (Int.fdiv (Int.ofNat n) 2 % 4294967296)) ^^^ 3988292384) % 4294967296) = Int.ofNat (cst n))⟩, ⟨w64 (k + 1) (by omega)⟩]

theorem rmEven (l : List UInt8) (n i k : Nat) (h : k < 8) (hn : n < 4294967296) (ho : n % 2 ≠ 1)  : CodeC Try.prog 0 37 rmB (rmS l n i k) .normal (rmS l (cst n) i (k + 1)) :=
 runS hmix [.reg 7 [(1, [], some true)], .reg 9 [(2, [], some false)], .reg 11 [(1, [.be (U4 ((cst n : Nat) : Int))], none)], .reg 8 [(1, [.be (I ((k + 1 : Nat) : Int))], none)]] ⟨[1, 5, 6, 7], [], []⟩ [⟨(by simp; omega : decide (Int.ofNat k < 8) = true)⟩, ⟨(by rw [Nat.mod_eq_of_lt hn, Nat.and_one_is_mod, show n % 2 = 0 by omega]; rfl : (Int.ofNat (((n % 4294967296) &&& 1) % 4294967296) == 1) = false)⟩, ⟨(by rw [cst_even hn ho, Int.fdiv_eq_ediv_of_nonneg _ (by decide)]; rfl : Int.fdiv (Int.ofNat n) 2 = Int.ofNat (cst n))⟩, ⟨w64 (k + 1) (by omega)⟩]

theorem rmGo (l : List UInt8) (n i k : Nat) (h : k < 8) (hn : n < 4294967296) : CodeC Try.prog 0 37 rmB (rmS l n i k) .normal (rmS l (cst n) i (k + 1)) := by
  by_cases ho : n % 2 = 1
  · exact rmOdd l n i k h hn ho
  · exact rmEven l n i k h hn ho
theorem rmE (l : List UInt8) (n i : Nat)   : CodeC Try.prog 0 37 rmB (rmS l n i 8) (.exit 2) (rmS l n i 8) :=
 runS hmix [] ⟨[1, 5, 6, 7], [], []⟩ []

theorem rmAll (l : List UInt8) (i : Nat) : ∀ (m k n : Nat), k + m = 8 → n < 4294967296 → LoopC Try.prog 0 37 rmB (rmS l n i k) (.exit 2) (rmS l (cby m n) i 8)
  | 0, k, n, h, _ => by
    have : k = 8 := by omega
    subst this
    exact LoopC.last (rmE l n i) (by simp)
  | m + 1, k, n, h, hn => LoopC.next (rmGo l n i k (by omega) hn) (rmAll l i m (k + 1) (cst n) (by omega) (cst_lt hn))
theorem roGo (l : List UInt8) (b : UInt8) (n n2 i : Nat) (hx : l[i]? = some b) (hi : i < l.length) (hs : l.length ≤ 100000000) (hn : n < 4294967296) (hl : LoopC Try.prog 0 37 rmB (rmS l (n ^^^ b.toNat) i 0) (.exit 2) (rmS l n2 i 8))  : CodeC Try.prog 0 37 roB (roS l n i) .normal (roS l n2 (i + 1)) :=
 runS hmix [.reg 3 [(3, [], some true)], .reg 5 [(4, [.row (bR b)], none), (6, [.be (U4 ((n ^^^ b.toNat : Nat) : Int))], none)], .cut ⟨[1, 5, 6, 7], [], []⟩ (.exit 2) (rmS l n2 i 8), .reg 4 [(1, [.be (I ((i + 1 : Nat) : Int))], none)]] ⟨[1, 5, 6], [], []⟩ [⟨dltm bR hi⟩, ⟨nn i⟩, ⟨ltm bR hi⟩, ⟨gtm bR hx⟩, ⟨byte_in b hn⟩, ⟨hl⟩, ⟨w64 (i + 1) (by omega)⟩]

theorem roE (l : List UInt8) (n i : Nat) (h : l.length ≤ i)  : CodeC Try.prog 0 37 roB (roS l n i) (.exit 0) (roS l n i) :=
 runS hmix [.reg 3 [(3, [], some false)]] ⟨[1, 5, 6], [], []⟩ [⟨dgem bR h⟩]

theorem roAll (l : List UInt8) (hs : l.length ≤ 100000000) : ∀ (m i n : Nat), i + m = l.length → n < 4294967296 → LoopC Try.prog 0 37 roB (roS l n i) (.exit 0) (roS l ((l.drop i).foldl crcF n) l.length)
  | 0, i, n, h, _ => by
    have : i = l.length := by omega
    subst this
    rw [List.drop_length]
    exact LoopC.last (roE l n _ (Nat.le_refl _)) (by simp)
  | m + 1, i, n, h, hn => by
    have hi : i < l.length := by omega
    rw [List.drop_eq_getElem_cons hi, List.foldl_cons]
    have hin := rmAll l i 8 0 (n ^^^ l[i].toNat) rfl (xor_lt hn (by have := u8_lt l[i]; omega))
    exact LoopC.next (roGo l l[i] n (crcF n l[i]) i (List.getElem?_eq_getElem hi) hi hs hn hin) (roAll l hs m (i + 1) _ (by omega) (crcF_lt _ hn))
theorem cMore0 (l : List UInt8) (m : Nat) (hm : m < 4294967296) (hl : LoopC Try.prog 0 32 coB (coS l 4294967295 0) (.exit 0) (coS l m l.length)) : Contract Try.prog 85 [U4 0, .sl 1 (l.map bR)] [] (U4 ((4294967295 - m : Nat) : Int)) [] :=
  vcP hmix [.reg 1 [(1, [.be (U4 ((4294967295 : Nat) : Int))], none)], .reg 2 [(1, [.be (I (l.length : Int))], none)], .cut ⟨[5, 10, 11, 12], [], []⟩ (.exit 0) (coS l m l.length), .reg 11 [(1, [.be (U4 ((4294967295 - m : Nat) : Int))], none)]] [] [
      (4294967295 : Int) = (4294967295 : Int),
      Int.ofNat (List.length (List.map bR l)) = Int.ofNat (List.length l),
      LoopC Try.prog (0 : Nat) (32 : Nat) coB { env := [((5 : Nat), V.val (Value.int IntKind.u32 (4294967295 : Int))), ((10 : Nat), V.sl (1 : Nat) (List.map bR l)), ((11 : Nat), I (Int.ofNat (List.length l))), ((12 : Nat), I (0 : Int))], st := [], ids := [] } (Ex.exit (0 : Nat)) { env := [((5 : Nat), U4 (Int.ofNat m)), ((10 : Nat), V.sl (1 : Nat) (List.map bR l)), ((11 : Nat), I (Int.ofNat (List.length l))), ((12 : Nat), I (Int.ofNat (List.length l)))], st := [], ids := [] },
      Int.ofNat (((4294967295 : Nat) ^^^ (m % (4294967296 : Nat))) % (4294967296 : Nat)) = Int.ofNat ((4294967295 : Nat) - m)] (by kernel_rfl)
    (by
      simp only [allP]
      and_intros <;> first
        | exact hl
        | exact inv_go hm
        | (simp; done))

theorem cMore (l : List UInt8) (hs : l.length ≤ 100000000) : Contract Try.prog 85 [U4 0, .sl 1 (l.map bR)] [] (U4 ((crcM l : Nat) : Int)) [] :=
  cMore0 l _ (by
    have : ∀ (l : List UInt8) (n : Nat), n < 4294967296 → l.foldl crcF n < 4294967296 := by
      intro l
      induction l with
      | nil => intro n h; exact h
      | cons b l ih => intro n h; exact ih _ (crcF_lt b h)
    exact this l _ (by decide)) (coAll l hs l.length 0 4294967295 (by omega) (by decide))
theorem cSum (l : List UInt8) (hs : l.length ≤ 100000000) : Contract Try.prog 64 [.sl 1 (l.map bR)] [] (U4 ((crcM l : Nat) : Int)) [] :=
 vcS hmix [.reg 1 [(1, [.call [] [] (U4 ((crcM l : Nat) : Int)) []], none)]] [] [⟨cMore l hs⟩]

theorem rMore0 (l : List UInt8) (m : Nat) (hm : m < 4294967296) (hl : LoopC Try.prog 0 37 roB (roS l 4294967295 0) (.exit 0) (roS l m l.length)) : Contract Try.prog 84 [U4 0, .sl 1 (l.map bR)] [] (U4 ((4294967295 - m : Nat) : Int)) [] :=
  vcP hmix [.reg 1 [(1, [.be (U4 ((4294967295 : Nat) : Int))], none)], .cut ⟨[1, 5, 6], [], []⟩ (.exit 0) (roS l m l.length), .reg 12 [(1, [.be (U4 ((4294967295 - m : Nat) : Int))], none)]] [] [
      (4294967295 : Int) = (4294967295 : Int),
      LoopC Try.prog (0 : Nat) (37 : Nat) roB { env := [((1 : Nat), V.sl (1 : Nat) (List.map bR l)), ((5 : Nat), V.val (Value.int IntKind.u32 (4294967295 : Int))), ((6 : Nat), I (0 : Int))], st := [], ids := [] } (Ex.exit (0 : Nat)) { env := [((1 : Nat), V.sl (1 : Nat) (List.map bR l)), ((5 : Nat), U4 (Int.ofNat m)), ((6 : Nat), I (Int.ofNat (List.length l)))], st := [], ids := [] },
      Int.ofNat (((4294967295 : Nat) ^^^ (m % (4294967296 : Nat))) % (4294967296 : Nat)) = Int.ofNat ((4294967295 : Nat) - m)] (by kernel_rfl)
    (by
      simp only [allP]
      and_intros <;> first
        | exact hl
        | exact inv_go hm
        | (simp; done))

theorem rMore (l : List UInt8) (hs : l.length ≤ 100000000) : Contract Try.prog 84 [U4 0, .sl 1 (l.map bR)] [] (U4 ((crcM l : Nat) : Int)) [] :=
  rMore0 l _ (by
    have : ∀ (l : List UInt8) (n : Nat), n < 4294967296 → l.foldl crcF n < 4294967296 := by
      intro l
      induction l with
      | nil => intro n h; exact h
      | cons b l ih => intro n h; exact ih _ (crcF_lt b h)
    exact this l _ (by decide)) (roAll l hs l.length 0 4294967295 (by omega) (by decide))
theorem rSum (l : List UInt8) (hs : l.length ≤ 100000000) : Contract Try.prog 61 [.sl 1 (l.map bR)] [] (U4 ((crcM l : Nat) : Int)) [] :=
 vcS hmix [.reg 1 [(1, [.call [] [] (U4 ((crcM l : Nat) : Int)) []], none)]] [] [⟨rMore l hs⟩]

end Go.Proofs.Ytdomjccibhgbjaa

/- bytes and their sum. -/
namespace Go.Proofs.Ytdomjccibhgbjaa
open E
set_option maxRecDepth 100000
set_option linter.unusedVariables false
set_option linter.unusedSimpArgs false

def fourB (x : Nat) : List UInt8 := [UInt8.ofNat x, UInt8.ofNat (x / 256), UInt8.ofNat (x / 65536), UInt8.ofNat (x / 16777216)]
def sealB (l : List UInt8) : List UInt8 := l ++ fourB (crcM l)
def cpS (R : List UInt8) (n i : Nat) : SL := ⟨[(0, .own 900), (1, U4 (n : Int)), (6, I (i : Int))], [(900, .arr 1 (R.map bR))], [900, 0]⟩
noncomputable def cpB : Code := codeAt Try.prog 76 [true, false, true, false, false]

theorem crcM_lt (l : List UInt8) : crcM l < 4294967296 := by unfold crcM; omega
theorem fr8 (x : Nat) : bR (UInt8.ofNat x) = [.val (.int .u8 ((x % 256 : Nat) : Int))] := by
  unfold bR intRow
  rw [UInt8.toNat_ofNat']
theorem wrapd (n d : Nat) : [V.val (Value.int IntKind.u8 (IntKind.wrap IntKind.u8 (Int.fdiv (Int.ofNat n) (d : Int))))] = bR (UInt8.ofNat (n / d)) := by
  rw [fr8, Int.fdiv_eq_ediv_of_nonneg _ (by omega)]
  have : (Int.ofNat n / (d : Int)) = ((n / d : Nat) : Int) := by simp
  rw [this, u8_mod]
theorem cpGo0 (R : List UInt8) (n : Nat) (hR : R.length ≤ 90000000) (hn : n < 4294967296)  : CodeC Try.prog 1 19 cpB (cpS R n 0) .normal (cpS (R ++ [UInt8.ofNat n]) n 1) :=
 runS hmix [.reg 4 [(7, [.beO ((R ++ [UInt8.ofNat n]).map bR)], none)]] ⟨[0, 1, 6], [(808000, 900)], []⟩ [⟨(by simp; omega : (List.length (List.map bR R) + 1) * 1 ≤ 140737488355328)⟩, ⟨(by rw [List.map_append]; exact congrArg _ (congrArg (fun r => [r]) ((wrapd n 1).trans (by rw [Nat.div_one]))) : List.map bR R ++ [[V.val (Value.int IntKind.u8 (IntKind.wrap IntKind.u8 (Int.fdiv (Int.ofNat n) 1)))]] = List.map bR (R ++ [UInt8.ofNat n]))⟩]

theorem cpGo1 (R : List UInt8) (n : Nat) (hR : R.length ≤ 90000000) (hn : n < 4294967296)  : CodeC Try.prog 1 19 cpB (cpS R n 1) .normal (cpS (R ++ [UInt8.ofNat (n / 256)]) n 2) :=
 runS hmix [.reg 4 [(7, [.beO ((R ++ [UInt8.ofNat (n / 256)]).map bR)], none)]] ⟨[0, 1, 6], [(808000, 900)], []⟩ [⟨(by simp; omega : (List.length (List.map bR R) + 1) * 1 ≤ 140737488355328)⟩, ⟨(by rw [List.map_append]; exact congrArg _ (congrArg (fun r => [r]) (wrapd n 256)) : List.map bR R ++ [[V.val (Value.int IntKind.u8 (IntKind.wrap IntKind.u8 (Int.fdiv (Int.ofNat n) 256)))]] = List.map bR (R ++ [UInt8.ofNat (n / 256)]))⟩]

theorem cpGo2 (R : List UInt8) (n : Nat) (hR : R.length ≤ 90000000) (hn : n < 4294967296)  : CodeC Try.prog 1 19 cpB (cpS R n 2) .normal (cpS (R ++ [UInt8.ofNat (n / 65536)]) n 3) :=
 runS hmix [.reg 4 [(7, [.beO ((R ++ [UInt8.ofNat (n / 65536)]).map bR)], none)]] ⟨[0, 1, 6], [(808000, 900)], []⟩ [⟨(by simp; omega : (List.length (List.map bR R) + 1) * 1 ≤ 140737488355328)⟩, ⟨(by rw [List.map_append]; exact congrArg _ (congrArg (fun r => [r]) (wrapd n 65536)) : List.map bR R ++ [[V.val (Value.int IntKind.u8 (IntKind.wrap IntKind.u8 (Int.fdiv (Int.ofNat n) 65536)))]] = List.map bR (R ++ [UInt8.ofNat (n / 65536)]))⟩]

theorem cpGo3 (R : List UInt8) (n : Nat) (hR : R.length ≤ 90000000) (hn : n < 4294967296)  : CodeC Try.prog 1 19 cpB (cpS R n 3) .normal (cpS (R ++ [UInt8.ofNat (n / 16777216)]) n 4) :=
 runS hmix [.reg 4 [(7, [.beO ((R ++ [UInt8.ofNat (n / 16777216)]).map bR)], none)]] ⟨[0, 1, 6], [(808000, 900)], []⟩ [⟨(by simp; omega : (List.length (List.map bR R) + 1) * 1 ≤ 140737488355328)⟩, ⟨(by rw [List.map_append]; exact congrArg _ (congrArg (fun r => [r]) (wrapd n 16777216)) : List.map bR R ++ [[V.val (Value.int IntKind.u8 (IntKind.wrap IntKind.u8 (Int.fdiv (Int.ofNat n) 16777216)))]] = List.map bR (R ++ [UInt8.ofNat (n / 16777216)]))⟩]

theorem cpE (R : List UInt8) (n : Nat)   : CodeC Try.prog 1 19 cpB (cpS R n 4) (.exit 0) (cpS R n 4) :=
 runS hmix [] ⟨[0, 1, 6], [(900, 900)], []⟩ []

theorem cp0 (R Q : List UInt8) (n : Nat) (hl : LoopC Try.prog 1 19 cpB (cpS R n 0) (.exit 0) (cpS Q n 4)) : Contract Try.prog 76 [.own 0, U4 (n : Int)] [.arr 1 (R.map bR)] (.own 1) [none, some (.arr 1 (Q.map bR))] :=
 vcS hmix [.cut ⟨[0, 1, 6], [(0, 900)], []⟩ (.exit 0) (cpS Q n 4)] [900] [⟨hl⟩]

theorem cCPut (R : List UInt8) (n : Nat) (hn : n < 4294967296) (hR : R.length ≤ 80000000) : Contract Try.prog 76 [.own 0, U4 (n : Int)] [.arr 1 (R.map bR)] (.own 1) [none, some (.arr 1 ((R ++ fourB n).map bR))] := by
  refine cp0 R _ n ?_
  have e : R ++ fourB n = (((R ++ [UInt8.ofNat n]) ++ [UInt8.ofNat (n / 256)]) ++ [UInt8.ofNat (n / 65536)]) ++ [UInt8.ofNat (n / 16777216)] := by simp [fourB]
  rw [e]
  exact LoopC.next (cpGo0 R n (by omega) hn) (LoopC.next (cpGo1 _ n (by simp; omega) hn) (LoopC.next (cpGo2 _ n (by simp; omega) hn) (LoopC.next (cpGo3 _ n (by simp; omega) hn) (LoopC.last (cpE _ n) (by simp)))))

theorem and255 {m : Nat} (hm : m < 4294967296) : (m &&& 255) % 4294967296 % 256 = m % 256 := by
  rw [show (255 : Nat) = 2 ^ 8 - 1 from rfl, Nat.and_two_pow_sub_one_eq_mod]
  omega
theorem fdivN (n d : Nat) (hn : n < 4294967296) : Int.toNat (Int.fdiv (Int.ofNat n) (d : Int) % (4294967296 : Int)) = n / d := by
  rw [Int.fdiv_eq_ediv_of_nonneg _ (by omega)]
  have : (Int.ofNat n / (d : Int)) = ((n / d : Nat) : Int) := by simp
  rw [this]
  have h2 : n / d ≤ n := Nat.div_le_self _ _
  generalize n / d = q at h2
  omega
theorem four1 (n : Nat) (hn : n < 4294967296) : [[V.val (Value.int IntKind.u8 (Int.ofNat (((n % 4294967296) &&& 255) % 4294967296 % 256)))], [V.val (Value.int IntKind.u8 (Int.ofNat (((Int.toNat (Int.fdiv (Int.ofNat n) (256 : Int) % (4294967296 : Int))) &&& 255) % 4294967296 % 256)))], [V.val (Value.int IntKind.u8 (Int.ofNat (((Int.toNat (Int.fdiv (Int.ofNat n) (65536 : Int) % (4294967296 : Int))) &&& 255) % 4294967296 % 256)))], [V.val (Value.int IntKind.u8 (IntKind.u8.wrap (Int.fdiv (Int.ofNat n) (16777216 : Int))))]] = (fourB n).map bR := by
  have h1 : Int.toNat (Int.fdiv (Int.ofNat n) (256 : Int) % (4294967296 : Int)) = n / 256 := fdivN n 256 hn
  have h2 : Int.toNat (Int.fdiv (Int.ofNat n) (65536 : Int) % (4294967296 : Int)) = n / 65536 := fdivN n 65536 hn
  have h3 : [V.val (Value.int IntKind.u8 (IntKind.u8.wrap (Int.fdiv (Int.ofNat n) (16777216 : Int))))] = bR (UInt8.ofNat (n / 16777216)) := wrapd n 16777216
  have hd1 : n / 256 ≤ n := Nat.div_le_self _ _
  have hd2 : n / 65536 ≤ n := Nat.div_le_self _ _
  rw [h1, h2, h3, Nat.mod_eq_of_lt hn, and255 hn, and255 (by omega), and255 (by omega)]
  simp only [fourB, List.map_cons, List.map_nil, fr8]
  rfl
theorem cSeal (l : List UInt8) (hs : l.length ≤ 70000000) : Contract Try.prog 49 [.sl 1 (l.map bR)] [] (.own 0) [some (.arr 1 ((sealB l).map bR))] :=
 vcS hmix [.reg 1 [(3, [.call [] [] (U4 ((crcM l : Nat) : Int)) []], none), (4, [.call [202000] [] (.own 1) [none, some (.arr 1 ((l ++ fourB (crcM l)).map bR))]], none)]] [205001] [⟨(by simp; omega : List.length (List.map bR l) * 1 ≤ 140737488355328)⟩, ⟨cSum l (by omega)⟩, ⟨cCPut l _ (crcM_lt l) (by omega)⟩]

theorem four0 (n : Nat) (hn : n < 4294967296) : Contract Try.prog 60 [U4 (n : Int)] [] (.own 0) [some (.arr 1 ((fourB n).map bR))] :=
 vcS hmix [.reg 1 [(14, [.beO ((fourB n).map bR)], none)]] [215000] [⟨four1 n hn⟩]

theorem cFour (n : Nat) (hn : n < 4294967296) : Contract Try.prog 60 [U4 (n : Int)] [] (.sl 1 ((fourB n).map bR)) [] :=
 vcS hmix [.reg 1 [(14, [.beO ((fourB n).map bR)], none), (15, [.idx 1], none)]] [] [⟨four1 n hn⟩]

theorem cSealed (l : List UInt8) (hs : l.length ≤ 70000000) : Contract Try.prog 31 [.sl 1 (l.map bR)] [] (.own 0) [some (.arr 1 ((sealB l).map bR))] :=
 vcS hmix [.reg 1 [(3, [.call [] [] (U4 ((crcM l : Nat) : Int)) []], none), (4, [.call [] [] (.sl 1 ((fourB (crcM l)).map bR)) []], none), (5, [.beO ((sealB l).map bR)], none)]] [206000] [⟨(by simp [fourB]; omega : List.length (List.map bR l) * 1 ≤ 140737488355328)⟩, ⟨rSum l (by omega)⟩, ⟨cFour _ (crcM_lt l)⟩, ⟨(by simp [fourB]; omega : (List.length (List.map bR l) + 4) * 1 ≤ 140737488355328)⟩, ⟨(by unfold sealB; rw [List.map_append]; rfl : List.map bR l ++ [bR (UInt8.ofNat (crcM l)), bR (UInt8.ofNat (crcM l / 256)), bR (UInt8.ofNat (crcM l / 65536)), bR (UInt8.ofNat (crcM l / 16777216))] = List.map bR (sealB l))⟩]

end Go.Proofs.Ytdomjccibhgbjaa

/- bytes and their sum, read. -/
namespace Go.Proofs.Ytdomjccibhgbjaa
open E
set_option maxRecDepth 100000
set_option linter.unusedVariables false
set_option linter.unusedSimpArgs false

/-- A byte, shifted (a form that no kernel unfolds). -/
def s8B (b : UInt8) (k : Nat) : Nat := match b.toNat with
  | 0 => 0
  | m + 1 => (m + 1) * 2 ^ k
def leN (a b c d : UInt8) : Nat := s8B d 24 + (s8B c 16 + (s8B b 8 + (s8B a 0 + 0)))
/-- Whether bytes end with their sum. -/
def openOk (l : List UInt8) : Bool := decide (4 ≤ l.length) && (l.drop (l.length - 4) == fourB (crcM (l.take (l.length - 4))))
def cgS (l : List UInt8) (n i : Nat) : SL := ⟨[(0, .sl 1 (l.map bR)), (4, U4 (n : Int)), (9, I (i : Int))], [], []⟩
theorem or_add {a b k : Nat} (ha : a < 2 ^ k) : a ||| b * 2 ^ k = a + b * 2 ^ k := by
  rw [Nat.mul_comm b, Nat.or_comm, Nat.add_comm, ← Nat.two_pow_add_eq_or_of_lt ha]
noncomputable def cgB : Code := codeAt Try.prog 63 [true, true, true, false, true, false, false]

theorem s8B_eq (b : UInt8) (k : Nat) : s8B b k = b.toNat * 2 ^ k := by
  unfold s8B
  cases b.toNat with
  | zero => simp
  | succ m => rfl
theorem sh_go (k : Nat) (b : UInt8) (hk : k ≤ 24) : shlI .u32 (Int.ofNat (b.toNat % 4294967296)) (k : Int) = Int.ofNat (s8B b k) := by
  have h1 := u8_lt b
  have h2 : 2 ^ k ≤ 2 ^ 24 := Nat.pow_le_pow_right (by decide) hk
  have h3 : b.toNat * 2 ^ k ≤ 255 * 2 ^ k := Nat.mul_le_mul_right _ (by omega)
  have e1 : (2 : Nat) ^ 24 = 16777216 := by decide
  rw [e1] at h2
  rw [s8B_eq]
  unfold shlI
  have e2 : min (k : Int).toNat IntKind.u32.bits = k := by
    show min (k : Int).toNat 32 = k
    omega
  rw [e2, Nat.mod_eq_of_lt (show b.toNat < 4294967296 by omega)]
  have e3 : (Int.ofNat b.toNat * 2 ^ k : Int) = ((b.toNat * 2 ^ k : Nat) : Int) := by simp
  rw [e3]
  generalize b.toNat * 2 ^ k = m at h3
  show ((m : Int) % 2 ^ 32) = (m : Int)
  omega
theorem or_go (n k : Nat) (b : UInt8) (hk : k ≤ 24) (hn : n < 2 ^ k) : Int.ofNat (((n % 4294967296) ||| (s8B b k % 4294967296)) % 4294967296) = Int.ofNat (s8B b k + n) := by
  have h1 := u8_lt b
  have h2 : 2 ^ k ≤ 2 ^ 24 := Nat.pow_le_pow_right (by decide) hk
  have h3 : b.toNat * 2 ^ k ≤ 255 * 2 ^ k := Nat.mul_le_mul_right _ (by omega)
  have h4 : n + b.toNat * 2 ^ k < 256 * 2 ^ k := by omega
  have h5 : 256 * 2 ^ k ≤ 256 * 2 ^ 24 := Nat.mul_le_mul_left _ h2
  have e1 : (2 : Nat) ^ 24 = 16777216 := by decide
  rw [e1] at h2 h5
  rw [s8B_eq]
  rw [Nat.mod_eq_of_lt (show n < 4294967296 by omega), Nat.mod_eq_of_lt (show b.toNat * 2 ^ k < 4294967296 by omega), or_add hn, Nat.mod_eq_of_lt (by omega), Nat.add_comm]
theorem le_four (a b c d : UInt8) (x : Nat) (hx : x < 4294967296) : (leN a b c d = x) ↔ ([a, b, c, d] = fourB x) := by
  have ha := u8_lt a
  have hb := u8_lt b
  have hc := u8_lt c
  have hd := u8_lt d
  unfold leN fourB
  rw [s8B_eq, s8B_eq, s8B_eq, s8B_eq]
  simp only [List.cons.injEq, and_true]
  have e : ∀ (u : UInt8) (y : Nat), u = UInt8.ofNat y ↔ u.toNat = y % 256 := by
    intro u y
    rw [← UInt8.toNat_inj, UInt8.toNat_ofNat']
  rw [e, e, e, e]
  omega
theorem cg0 (l : List UInt8) (b : UInt8) (n : Nat) (hx : l[0]? = some b) (hn : n < 2 ^ 0)  : CodeC Try.prog 0 24 cgB (cgS l n 0) .normal (cgS l (s8B b 0 + n) 1) :=
  runP hmix [.reg 7 [(4, [.row (bR b)], none), (8, [.idx 0, .be (U4 ((s8B b 0 : Nat) : Int))], none), (9, [.be (U4 ((s8B b 0 + n : Nat) : Int))], none)]] ⟨[0, 4, 9], [], []⟩ [
      (0 : Int) ≤ (0 : Int),
      (0 : Int) < Int.ofNat (List.length (List.map bR l)),
      (List.map bR l)[(0 : Nat)]? = some (bR b),
      (0 : Int) ≤ (0 : Int),
      shlI IntKind.u32 (Int.ofNat (UInt8.toNat b % (4294967296 : Nat))) (0 : Int) = Int.ofNat (s8B b (0 : Nat)),
      Int.ofNat (((n % (4294967296 : Nat)) ||| (s8B b (0 : Nat) % (4294967296 : Nat))) % (4294967296 : Nat)) = Int.ofNat (s8B b (0 : Nat) + n)] (by kernel_rfl)
    (by
      simp only [allP]
      and_intros <;> first
        | omega
        | exact or_go n 0 b (by decide) hn
        | exact sh_go 0 b (by decide)
        | (simp [hx]; done)
        | (have q := (List.getElem?_eq_some_iff.1 hx).1; simp; omega))

theorem cg1 (l : List UInt8) (b : UInt8) (n : Nat) (hx : l[1]? = some b) (hn : n < 2 ^ 8)  : CodeC Try.prog 0 24 cgB (cgS l n 1) .normal (cgS l (s8B b 8 + n) 2) :=
  runP hmix [.reg 7 [(4, [.row (bR b)], none), (8, [.idx 0, .be (U4 ((s8B b 8 : Nat) : Int))], none), (9, [.be (U4 ((s8B b 8 + n : Nat) : Int))], none)]] ⟨[0, 4, 9], [], []⟩ [
      (0 : Int) ≤ (1 : Int),
      (1 : Int) < Int.ofNat (List.length (List.map bR l)),
      (List.map bR l)[(1 : Nat)]? = some (bR b),
      (0 : Int) ≤ (8 : Int),
      shlI IntKind.u32 (Int.ofNat (UInt8.toNat b % (4294967296 : Nat))) (8 : Int) = Int.ofNat (s8B b (8 : Nat)),
      Int.ofNat (((n % (4294967296 : Nat)) ||| (s8B b (8 : Nat) % (4294967296 : Nat))) % (4294967296 : Nat)) = Int.ofNat (s8B b (8 : Nat) + n)] (by kernel_rfl)
    (by
      simp only [allP]
      and_intros <;> first
        | omega
        | exact or_go n 8 b (by decide) hn
        | exact sh_go 8 b (by decide)
        | (simp [hx]; done)
        | (have q := (List.getElem?_eq_some_iff.1 hx).1; simp; omega))

theorem cg2 (l : List UInt8) (b : UInt8) (n : Nat) (hx : l[2]? = some b) (hn : n < 2 ^ 16)  : CodeC Try.prog 0 24 cgB (cgS l n 2) .normal (cgS l (s8B b 16 + n) 3) :=
  runP hmix [.reg 7 [(4, [.row (bR b)], none), (8, [.idx 0, .be (U4 ((s8B b 16 : Nat) : Int))], none), (9, [.be (U4 ((s8B b 16 + n : Nat) : Int))], none)]] ⟨[0, 4, 9], [], []⟩ [
      (0 : Int) ≤ (2 : Int),
      (2 : Int) < Int.ofNat (List.length (List.map bR l)),
      (List.map bR l)[(2 : Nat)]? = some (bR b),
      (0 : Int) ≤ (16 : Int),
      shlI IntKind.u32 (Int.ofNat (UInt8.toNat b % (4294967296 : Nat))) (16 : Int) = Int.ofNat (s8B b (16 : Nat)),
      Int.ofNat (((n % (4294967296 : Nat)) ||| (s8B b (16 : Nat) % (4294967296 : Nat))) % (4294967296 : Nat)) = Int.ofNat (s8B b (16 : Nat) + n)] (by kernel_rfl)
    (by
      simp only [allP]
      and_intros <;> first
        | omega
        | exact or_go n 16 b (by decide) hn
        | exact sh_go 16 b (by decide)
        | (simp [hx]; done)
        | (have q := (List.getElem?_eq_some_iff.1 hx).1; simp; omega))

theorem cg3 (l : List UInt8) (b : UInt8) (n : Nat) (hx : l[3]? = some b) (hn : n < 2 ^ 24)  : CodeC Try.prog 0 24 cgB (cgS l n 3) .normal (cgS l (s8B b 24 + n) 4) :=
  runP hmix [.reg 7 [(4, [.row (bR b)], none), (8, [.idx 0, .be (U4 ((s8B b 24 : Nat) : Int))], none), (9, [.be (U4 ((s8B b 24 + n : Nat) : Int))], none)]] ⟨[0, 4, 9], [], []⟩ [
      (0 : Int) ≤ (3 : Int),
      (3 : Int) < Int.ofNat (List.length (List.map bR l)),
      (List.map bR l)[(3 : Nat)]? = some (bR b),
      (0 : Int) ≤ (24 : Int),
      shlI IntKind.u32 (Int.ofNat (UInt8.toNat b % (4294967296 : Nat))) (24 : Int) = Int.ofNat (s8B b (24 : Nat)),
      Int.ofNat (((n % (4294967296 : Nat)) ||| (s8B b (24 : Nat) % (4294967296 : Nat))) % (4294967296 : Nat)) = Int.ofNat (s8B b (24 : Nat) + n)] (by kernel_rfl)
    (by
      simp only [allP]
      and_intros <;> first
        | omega
        | exact or_go n 24 b (by decide) hn
        | exact sh_go 24 b (by decide)
        | (simp [hx]; done)
        | (have q := (List.getElem?_eq_some_iff.1 hx).1; simp; omega))

theorem cgE (l : List UInt8) (n : Nat)   : CodeC Try.prog 0 24 cgB (cgS l n 4) (.exit 0) (cgS l n 4) :=
 runS hmix [] ⟨[0, 4, 9], [], []⟩ []

theorem cget0 (l : List UInt8) (n : Nat) (h : l.length = 4) (hl : LoopC Try.prog 0 24 cgB (cgS l 0 0) (.exit 0) (cgS l n 4)) : Contract Try.prog 63 [.sl 1 (l.map bR)] [] (.tup [U4 (n : Int), Bo true]) [] :=
 vcS hmix [.reg 1 [(2, [], some false)], .cut ⟨[0, 4, 9], [], []⟩ (.exit 0) (cgS l n 4)] [] [⟨(by simp [h] : decide (Int.ofNat (List.length (List.map bR l)) < 4) = false)⟩, ⟨hl⟩]

theorem cGet4 (a b c d : UInt8) : Contract Try.prog 63 [.sl 1 ([a, b, c, d].map bR)] [] (.tup [U4 ((leN a b c d : Nat) : Int), Bo true]) [] := by
  have ha := u8_lt a
  have hb := u8_lt b
  have hc := u8_lt c
  refine cget0 [a, b, c, d] _ rfl ?_
  have h := LoopC.next (cg0 [a, b, c, d] a 0 rfl (by decide)) (LoopC.next (cg1 [a, b, c, d] b _ rfl (by simp only [s8B_eq]; omega)) (LoopC.next (cg2 [a, b, c, d] c _ rfl (by simp only [s8B_eq]; omega)) (LoopC.next (cg3 [a, b, c, d] d _ rfl (by simp only [s8B_eq]; omega)) (LoopC.last (cgE [a, b, c, d] _) (by simp)))))
  exact h
theorem four_cases {α : Type} {l : List α} (h : l.length = 4) : ∃ a b c d, l = [a, b, c, d] := by
  match l, h with
  | [a, b, c, d], _ => exact ⟨a, b, c, d, rfl⟩
theorem openS (l : List UInt8) (hs : l.length < 4) : Contract Try.prog 33 [.sl 1 (l.map bR)] [] (.tup [.sl 1 [], Bo false]) [] :=
 vcS hmix [.reg 2 [(1, [], some true)]] [] [⟨(by rw [i64_small (by simp; omega)]; simp; omega : decide (IntKind.wrap IntKind.i64 (Int.ofNat (List.length (List.map bR l)) + (-4)) < 0) = true)⟩]

theorem openL (l : List UInt8) (a b c d : UInt8) (hs : 4 ≤ l.length) (hm : l.length ≤ 70000000) (hd : l.drop (l.length - 4) = [a, b, c, d]) : Contract Try.prog 33 [.sl 1 (l.map bR)] [] (.tup [.sl 1 ((l.take (l.length - 4)).map bR), Bo (Int.ofNat (leN a b c d) == Int.ofNat (crcM (l.take (l.length - 4))))]) [] :=
  vcP hmix [.reg 1 [(2, [.be (I ((l.length - 4 : Nat) : Int))], none)], .reg 2 [(1, [], some false)], .reg 4 [(2, [.be (.sl 1 ([a, b, c, d].map bR))], none), (3, [.call [] [] (.tup [U4 ((leN a b c d : Nat) : Int), Bo true]) []], none)], .reg 5 [(2, [.be (.sl 1 ((l.take (l.length - 4)).map bR))], none), (8, [.be (.sl 1 ((l.take (l.length - 4)).map bR))], none), (9, [.call [] [] (U4 ((crcM (l.take (l.length - 4)) : Nat) : Int)) []], none), (10, [], none)]] [] [
      IntKind.wrap IntKind.i64 (Int.ofNat (List.length (List.map bR l)) + (-4 : Int)) = Int.ofNat (List.length l - (4 : Nat)),
      false = false,
      (0 : Int) ≤ Int.ofNat (List.length l - (4 : Nat)),
      Int.ofNat (List.length l - (4 : Nat)) ≤ Int.ofNat (List.length (List.map bR l)),
      Int.ofNat (List.length (List.map bR l)) ≤ Int.ofNat (List.length (List.map bR l)),
      List.drop (List.length l - (4 : Nat)) (List.take (List.length (List.map bR l)) (List.map bR l)) = [bR a, bR b, bR c, bR d],
      Contract Try.prog (63 : Nat) [V.sl (1 : Nat) [bR a, bR b, bR c, bR d]] [] (V.tup [U4 (Int.ofNat (leN a b c d)), Bo true]) [],
      (0 : Int) ≤ (0 : Int),
      (0 : Int) ≤ Int.ofNat (List.length l - (4 : Nat)),
      Int.ofNat (List.length l - (4 : Nat)) ≤ Int.ofNat (List.length (List.map bR l)),
      List.take (List.length l - (4 : Nat)) (List.map bR l) = List.map bR (List.take (List.length l - (4 : Nat)) l),
      (0 : Int) ≤ (0 : Int),
      (0 : Int) ≤ Int.ofNat (List.length l - (4 : Nat)),
      Int.ofNat (List.length l - (4 : Nat)) ≤ Int.ofNat (List.length (List.map bR l)),
      List.take (List.length l - (4 : Nat)) (List.map bR l) = List.map bR (List.take (List.length l - (4 : Nat)) l),
      Contract Try.prog (64 : Nat) [V.sl (1 : Nat) (List.map bR (List.take (List.length l - (4 : Nat)) l))] [] (U4 (Int.ofNat (crcM (List.take (List.length l - (4 : Nat)) l)))) []] (by kernel_rfl)
    (by
      simp only [allP]
      and_intros <;> first
        | omega
        | exact cGet4 a b c d
        | exact cSum _ (by simp; omega)
        | (rw [i64_small (by simp; omega)]; simp; omega)
        | (rw [List.take_of_length_le (Nat.le_refl _), ← List.map_drop, hd]; rfl)
        | (rw [List.map_take]; done)
        | (simp; done))

theorem cOpen (l : List UInt8) (hm : l.length ≤ 70000000) : Contract Try.prog 33 [.sl 1 (l.map bR)] [] (.tup [.sl 1 ((l.take (l.length - 4)).map bR), Bo (openOk l)]) [] := by
  by_cases h4 : 4 ≤ l.length
  · obtain ⟨a, b, c, d, hd⟩ := four_cases (l := l.drop (l.length - 4)) (by simp; omega)
    have h := openL l a b c d h4 hm hd
    have e : (Int.ofNat (leN a b c d) == Int.ofNat (crcM (l.take (l.length - 4)))) = openOk l := by
      unfold openOk
      rw [hd, show decide (4 ≤ l.length) = true by simpa using h4, Bool.true_and]
      have := le_four a b c d (crcM (l.take (l.length - 4))) (crcM_lt _)
      rw [Bool.eq_iff_iff]
      simp only [beq_iff_eq]
      rw [← this]
      simp only [Int.ofNat_eq_natCast]
      omega
    rw [e] at h
    exact h
  · have h := openS l (by omega)
    have e : openOk l = false := by unfold openOk; simp; omega
    have e2 : l.length - 4 = 0 := by omega
    rw [e, e2]
    exact h
end Go.Proofs.Ytdomjccibhgbjaa

/- a block's bytes. -/
namespace Go.Proofs.Ytdomjccibhgbjaa
open E
set_option maxRecDepth 100000
set_option linter.unusedVariables false
set_option linter.unusedSimpArgs false

/-- What a block begins with. -/
def headB (b : Bk) : List UInt8 := [b.num, b.born, b.tier, (b.eps.length : Int)].flatMap vintI
/-- One entry of its index. -/
def entB (e : Ep) : List UInt8 := [e.hi, e.lo].flatMap vintI ++ vintI ((epB e).length : Int)
def bodyB (b : Bk) : List UInt8 := (headB b ++ b.eps.flatMap entB) ++ b.eps.flatMap epB
/-- A block's bytes. -/
def bytesB (b : Bk) : List UInt8 := bif rightM b then sealB (bodyB b) else []
def okEp (e : Ep) : Prop := isU e.hi ∧ isU e.lo ∧ isU e.first ∧ isU e.last ∧ e.spans.length ≤ 100 ∧ ∀ s ∈ e.spans, okS s
def byS (H D : List UInt8) (b : Bk) (i : Nat) : SL := ⟨[(3, .ptr 602000 0 0 0), (4, .ptr 604000 0 0 0), (28, .sl 6 (b.eps.map Ep.row)), (29, I (b.eps.length : Int)), (30, I (i : Int))], [(602000, .box [.own 900]), (604000, .box [.own 901]), (900, .arr 1 (H.map bR)), (901, .arr 1 (D.map bR))], [602000, 604000, 900, 901]⟩
noncomputable def byB : Code := codeAt Try.prog 20 [true, true, true, true, false, true, false, false]

theorem entB_len (e : Ep) : (entB e).length ≤ 30 := by
  have := vintI_len e.hi
  have := vintI_len e.lo
  have := vintI_len ((epB e).length : Int)
  simp only [entB, List.flatMap_cons, List.flatMap_nil, List.append_nil, List.length_append]
  omega
theorem headB_len (b : Bk) : (headB b).length ≤ 40 := by
  have := vintI_len b.num
  have := vintI_len b.born
  have := vintI_len b.tier
  have := vintI_len (b.eps.length : Int)
  simp only [headB, List.flatMap_cons, List.flatMap_nil, List.append_nil, List.length_append]
  omega
theorem okEp_len {e : Ep} (h : okEp e) : (epB e).length ≤ 34040 := by
  have := epB_len h.2.2.2.2.2
  have := h.2.2.2.2.1
  omega
theorem by0 (H D : List UInt8) (b : Bk) (x : Ep) (i : Nat) (hx : b.eps[i]? = some x) (hi : i < b.eps.length) (hq : okEp x) (hs : b.eps.length ≤ 400) (hH : H.length ≤ 70000000) (hD : D.length ≤ 18000000)  : CodeC Try.prog 0 72 byB (byS H D b i) .normal (byS ((H ++ [x.hi, x.lo].flatMap vintI) ++ vintI ((epB x).length : Int)) (D ++ epB x) b (i + 1)) :=
 runS hmix [.reg 6 [(0, [], some true)], .reg 7 [(1, [.row (Ep.row x)], none)], .reg 8 [(4, [.be (I (D.length : Int))], none)], .reg 9 [(2, [.call [604000, 901] [] (.tup []) [some (.box [.own 2]), none, some (.arr 1 ((D ++ epB x).map bR))]], none)], .reg 10 [(8, [.call [602000, 900] [2008000] (.tup []) [some (.box [.own 2]), none, some (.arr 1 ((H ++ [x.hi, x.lo].flatMap vintI).map bR))]], none)], .reg 11 [(5, [.be (I ((D ++ epB x).length : Int))], none), (7, [.be (I ((epB x).length : Int))], none), (9, [.call [602000, 2009001] [2209000] (.tup []) [some (.box [.own 2]), none, some (.arr 1 (((H ++ [x.hi, x.lo].flatMap vintI) ++ vintI ((epB x).length : Int)).map bR))]], none)], .reg 12 [(0, [.be (I ((i + 1 : Nat) : Int))], none)]] ⟨[3, 4, 28, 29, 30], [(602000, 602000), (604000, 604000), (2210001, 900), (1803001, 901)], []⟩ [⟨dlt hi⟩, ⟨nn i⟩, ⟨ltm Ep.row hi⟩, ⟨gtm Ep.row hx⟩, ⟨lenm bR D⟩, ⟨cPutE D x hq.2.2.1 hq.2.2.2.1 (by have := hq.2.2.2.2.1; omega) hq.2.2.2.2.2 (by omega)⟩, ⟨cWide H [x.hi, x.lo] (by intro y hy; rcases List.mem_cons.1 hy with rfl | hy; exact hq.1; rcases List.mem_cons.1 hy with rfl | hy; exact hq.2.1; cases hy) (by simp) (by simp; omega)⟩, ⟨lenm bR (D ++ epB x)⟩, ⟨(by have := okEp_len hq; rw [i64_small (by simp only [List.length_append, Int.ofNat_eq_natCast]; omega)]; simp only [List.length_append, Int.ofNat_eq_natCast]; omega : IntKind.wrap IntKind.i64 (Int.ofNat (List.length (D ++ epB x)) + -Int.ofNat (List.length D)) = Int.ofNat (List.length (epB x)))⟩, ⟨(by exact cNum1 _ _ (isU_nat (by have := okEp_len hq; omega)) (by have := vintI_len x.hi; have := vintI_len x.lo; simp only [List.flatMap_cons, List.flatMap_nil, List.append_nil, List.length_append]; omega) : Contract Try.prog 46 [.ptr 0 0 0 0, .sl 1 [[I (Int.ofNat (List.length (epB x)))]]] [.box [.own 1], .arr 1 (List.map bR (H ++ List.flatMap vintI [Ep.hi x, Ep.lo x]))] (.tup []) [some (.box [.own 2]), none, some (.arr 1 (List.map bR (H ++ List.flatMap vintI [Ep.hi x, Ep.lo x] ++ vintI (Int.ofNat (List.length (epB x))))))])⟩, ⟨w64 (i + 1) (by omega)⟩]

theorem byGo (H D : List UInt8) (b : Bk) (x : Ep) (i : Nat) (hx : b.eps[i]? = some x) (hi : i < b.eps.length) (hq : okEp x) (hs : b.eps.length ≤ 400) (hH : H.length ≤ 70000000) (hD : D.length ≤ 18000000) : CodeC Try.prog 0 72 byB (byS H D b i) .normal (byS (H ++ entB x) (D ++ epB x) b (i + 1)) := by
  have := by0 H D b x i hx hi hq hs hH hD
  have e : (H ++ [x.hi, x.lo].flatMap vintI) ++ vintI ((epB x).length : Int) = H ++ entB x := by unfold entB; rw [List.append_assoc]
  rw [e] at this
  exact this
theorem byE (H D : List UInt8) (b : Bk) (i : Nat) (h : b.eps.length ≤ i)  : CodeC Try.prog 0 72 byB (byS H D b i) (.exit 0) (byS H D b i) :=
 runS hmix [.reg 6 [(0, [], some false)]] ⟨[3, 4, 28, 29, 30], [(602000, 602000), (604000, 604000), (900, 900), (901, 901)], []⟩ [⟨dge h⟩]

theorem byAll (b : Bk) (hs : b.eps.length ≤ 400) (hq : ∀ e ∈ b.eps, okEp e) : ∀ (m i : Nat) (H D : List UInt8), i + m = b.eps.length → H.length + 30 * m ≤ 60000000 → D.length + 34040 * m ≤ 15000000 → LoopC Try.prog 0 72 byB (byS H D b i) (.exit 0) (byS (H ++ (b.eps.drop i).flatMap entB) (D ++ (b.eps.drop i).flatMap epB) b b.eps.length)
  | 0, i, H, D, h, _, _ => by
    have : i = b.eps.length := by omega
    subst this
    rw [List.drop_length]
    simp only [List.flatMap_nil, List.append_nil]
    exact LoopC.last (byE H D b _ (Nat.le_refl _)) (by simp)
  | m + 1, i, H, D, h, hH, hD => by
    have hi : i < b.eps.length := by omega
    have hx := hq _ (List.getElem_mem hi)
    have h1 := entB_len b.eps[i]
    have h2 := okEp_len hx
    have ih := byAll b hs hq m (i + 1) (H ++ entB b.eps[i]) (D ++ epB b.eps[i]) (by omega) (by rw [List.length_append]; omega) (by rw [List.length_append]; omega)
    rw [List.drop_eq_getElem_cons hi, List.flatMap_cons, List.flatMap_cons, ← List.append_assoc, ← List.append_assoc]
    exact LoopC.next (byGo H D b b.eps[i] i (List.getElem?_eq_getElem hi) hi hx hs (by omega) (by omega)) ih
theorem bytesN (b : Bk) (hs : b.eps.length ≤ 400) (hm : ∀ e ∈ b.eps, e.spans.length ≤ 1048576 ∧ ∀ s ∈ e.spans, s.attrs.length ≤ 1000000000) (hr : rightM b = false) : Contract Try.prog 20 [b.v] [] (.sl 1 []) [] :=
 vcS hmix [.reg 1 [(1, [.call [] [] (Bo (rightM b)) []], none), (2, [], some true)], .reg 2 [(0, [.idx 1, .idx 0], none)]] [] [⟨cRightM b (by omega) hm⟩, ⟨(by simp [hr] : (!rightM b) = true)⟩]

theorem bytesY (b : Bk) (H D : List UInt8) (hs : b.eps.length ≤ 400) (hm : ∀ e ∈ b.eps, e.spans.length ≤ 1048576 ∧ ∀ s ∈ e.spans, s.attrs.length ≤ 1000000000) (hr : rightM b = true) (h1 : isU b.num) (h2 : isU b.born) (h3 : isU b.tier) (hH : H.length ≤ 20000000) (hD : D.length ≤ 20000000) (hl : LoopC Try.prog 0 72 byB (byS (headB b) [] b 0) (.exit 0) (byS H D b b.eps.length)) : Contract Try.prog 20 [b.v] [] (.sl 1 ((sealB (H ++ D)).map bR)) [] :=
 vcS hmix [.reg 1 [(1, [.call [] [] (Bo (rightM b)) []], none), (2, [], some false)], .reg 3 [(1, [.idx 1], none), (3, [.idx 1], none)], .reg 4 [(9, [.be (I (b.eps.length : Int))], none), (11, [.call [602000, 602001] [811000] (.tup []) [some (.box [.own 2]), none, some (.arr 1 ((headB b).map bR))]], none)], .reg 5 [(2, [.be (I (b.eps.length : Int))], none)], .cut ⟨[3, 4, 28, 29, 30], [(602000, 602000), (604000, 604000), (812001, 900), (604001, 901)], []⟩ (.exit 0) (byS H D b b.eps.length), .reg 13 [(8, [.beO ((H ++ D).map bR)], none), (9, [.call [] [2609000] (.own 0) [some (.arr 1 ((sealB (H ++ D)).map bR))]], none), (10, [.idx 1], none)]] [] [⟨cRightM b (by omega) hm⟩, ⟨(by simp [hr] : (!rightM b) = false)⟩, ⟨lenm Ep.row (Bk.eps b)⟩, ⟨cNum [] [b.num, b.born, b.tier, (b.eps.length : Int)] (by intro y hy; rcases List.mem_cons.1 hy with rfl | hy; exact h1; rcases List.mem_cons.1 hy with rfl | hy; exact h2; rcases List.mem_cons.1 hy with rfl | hy; exact h3; rcases List.mem_cons.1 hy with rfl | hy; exact isU_nat (by omega); cases hy) (by simp) (by simp)⟩, ⟨lenm Ep.row (Bk.eps b)⟩, ⟨hl⟩, ⟨(by simp; omega : (List.length (List.map bR H) + List.length (List.map bR D)) * 1 ≤ 140737488355328)⟩, ⟨(by simp [hr] : List.map bR H ++ List.map bR D = List.map bR (H ++ D))⟩, ⟨cSeal (H ++ D) (by rw [List.length_append]; omega)⟩]

theorem rightM_num {b : Bk} (h : rightM b = true) : isU b.num ∧ isU b.born ∧ isU b.tier ∧ ∀ e ∈ b.eps, episodeB e = true := by
  rw [← rightB_eq] at h
  unfold rightB at h
  simp only [Bool.and_eq_true, allI_iff] at h
  obtain ⟨h1, ⟨h2, h3⟩, h4⟩ := h
  have k : ∀ n, countB n = true → isU n := by
    intro n hn
    unfold countB withinB at hn
    simp only [Bool.and_eq_true, decide_eq_true_eq] at hn
    unfold isU
    omega
  refine ⟨k _ h2, k _ h3, k _ h4, fun e he => ?_⟩
  obtain ⟨i, hi⟩ := List.getElem?_of_mem he
  have := h1 i e hi
  unfold badB at this
  simp only [Bool.or_eq_false_iff, Bool.not_eq_false'] at this
  rw [← rightE_eq]
  exact this.1
theorem episode_ok {e : Ep} (h : episodeB e = true) : isU e.first ∧ isU e.last ∧ ∀ s ∈ e.spans, rightS s = true := by
  unfold episodeB at h
  rw [epochB_all, allB_all] at h
  simp only [Bool.and_eq_true, List.all_eq_true] at h
  obtain ⟨⟨⟨h1, _⟩, h2⟩, _⟩ := h
  have k : ∀ n, countB n = true → isU n := by
    intro n hn
    unfold countB withinB at hn
    simp only [Bool.and_eq_true, decide_eq_true_eq] at hn
    unfold isU
    omega
  exact ⟨k _ (h1 _ (by simp)), k _ (h1 _ (by simp)), h2⟩
theorem flat_len3 {α : Type} {f : α → List UInt8} {B : Nat} {l : List α} {n : Nat} (hn : l.length ≤ n) (h : ∀ x ∈ l, (f x).length ≤ B) : (l.flatMap f).length ≤ n * B :=
  Nat.le_trans (flat_len2 h) (Nat.mul_le_mul_right _ hn)
/-- Whose numbers are 64 bits wide. -/
def wfE (e : Ep) : Prop := isU e.hi ∧ isU e.lo ∧ ∀ s ∈ e.spans, wfS s
theorem cBytes (b : Bk) (hs : b.eps.length ≤ 400) (hm : ∀ e ∈ b.eps, e.spans.length ≤ 100 ∧ ∀ s ∈ e.spans, s.attrs.length ≤ 1000000000) (hw : ∀ e ∈ b.eps, wfE e) : Contract Try.prog 20 [b.v] [] (.sl 1 ((bytesB b).map bR)) [] := by
  have hm' : ∀ e ∈ b.eps, e.spans.length ≤ 1048576 ∧ ∀ s ∈ e.spans, s.attrs.length ≤ 1000000000 := fun e he => ⟨by have := (hm e he).1; omega, (hm e he).2⟩
  cases hr : rightM b with
  | false =>
    have := bytesN b hs hm' hr
    unfold bytesB
    rw [hr]
    exact this
  | true =>
    obtain ⟨h1, h2, h3, h4⟩ := rightM_num hr
    have hq : ∀ e ∈ b.eps, okEp e := fun e he => by
      obtain ⟨k1, k2, k3⟩ := episode_ok (h4 e he)
      obtain ⟨w1, w2, w3⟩ := hw e he
      exact ⟨w1, w2, k1, k2, (hm e he).1, fun s hs => ⟨w3 s hs, k3 s hs⟩⟩
    have l1 := headB_len b
    have l2 := flat_len3 (f := entB) (B := 30) hs fun e _ => entB_len e
    have l3 := flat_len3 (f := epB) (B := 34040) hs fun e he => okEp_len (hq e he)
    have hl := byAll b hs hq b.eps.length 0 (headB b) [] (by omega) (by omega) (by simp; omega)
    rw [List.drop_zero, List.nil_append] at hl
    have := bytesY b _ _ hs hm' hr h1 h2 h3 (by rw [List.length_append]; omega) (by omega) hl
    unfold bytesB
    rw [hr]
    exact this
end Go.Proofs.Ytdomjccibhgbjaa

/- blocks, by the reference: what one has of a trace. -/
namespace Go.Proofs.Ytdomjccibhgbjaa
open E
set_option maxRecDepth 100000
set_option linter.unusedVariables false
set_option linter.unusedSimpArgs false

def eqT (h o : Int) (e : Ep) : Bool := e.hi == h && e.lo == o
def fbS (b : Bk) (h o : Int) (R : List Ep) (i : Nat) : SL := ⟨[(2, .ptr 1000 0 0 0), (3, .ptr 2000 0 0 0), (5, .own 0), (6, I (i : Int))], [(1000, .box b.row), (2000, .box [U h, U o]), (0, .arr 6 (R.map Ep.row))], [1000, 2000, 0]⟩
noncomputable def fbB : Code := codeAt Try.prog 17 [true, true, false, true, false, false]

theorem fbY (b : Bk) (h o : Int) (R : List Ep) (x : Ep) (i : Nat) (hx : b.eps[i]? = some x) (hi : i < b.eps.length) (hs : b.eps.length ≤ 1000000) (hR : R.length ≤ 1000000) (hb : eqT h o x = true)  : CodeC Try.prog 0 31 fbB (fbS b h o R i) .normal (fbS b h o (R ++ [x]) (i + 1)) :=
 runS hmix [.reg 3 [(4, [], some true)], .reg 5 [(5, [.row (Ep.row x)], none), (7, [], some true)], .reg 6 [(5, [.row (Ep.row x)], none), (7, [.beO ((R ++ [x]).map Ep.row)], none)], .reg 4 [(1, [.be (I ((i + 1 : Nat) : Int))], none)]] ⟨[2, 3, 5, 6], [(1000, 1000), (2000, 2000), (1208000, 0)], []⟩ [⟨dltm Ep.row hi⟩, ⟨nn i⟩, ⟨ltm Ep.row hi⟩, ⟨gtm Ep.row hx⟩, ⟨(by unfold eqT at hb; simp at hb ⊢; exact hb : (decide (Ep.hi x = h) && (decide (Ep.lo x = o) && true)) = true)⟩, ⟨nn i⟩, ⟨ltm Ep.row hi⟩, ⟨gtm Ep.row hx⟩, ⟨(by simp; omega : (List.length (List.map Ep.row R) + 1) * 64 ≤ 140737488355328)⟩, ⟨(by rw [List.map_append]; rfl : List.map Ep.row R ++ [[(U (Ep.hi x)), (U (Ep.lo x)), I (Ep.first x), I (Ep.last x), Bo (Ep.sure x), .sl 10 (List.map Sp.row (Ep.spans x))]] = List.map Ep.row (R ++ [x]))⟩, ⟨w64 (i + 1) (by omega)⟩]

theorem fbN (b : Bk) (h o : Int) (R : List Ep) (x : Ep) (i : Nat) (hx : b.eps[i]? = some x) (hi : i < b.eps.length) (hs : b.eps.length ≤ 1000000) (hR : R.length ≤ 1000000) (hb : eqT h o x = false)  : CodeC Try.prog 0 31 fbB (fbS b h o R i) .normal (fbS b h o R (i + 1)) :=
 runS hmix [.reg 3 [(4, [], some true)], .reg 5 [(5, [.row (Ep.row x)], none), (7, [], some false)], .reg 4 [(1, [.be (I ((i + 1 : Nat) : Int))], none)]] ⟨[2, 3, 5, 6], [(1000, 1000), (2000, 2000), (0, 0)], []⟩ [⟨dltm Ep.row hi⟩, ⟨nn i⟩, ⟨ltm Ep.row hi⟩, ⟨gtm Ep.row hx⟩, ⟨(by unfold eqT at hb; simp at hb ⊢; exact hb : (decide (Ep.hi x = h) && (decide (Ep.lo x = o) && true)) = false)⟩, ⟨w64 (i + 1) (by omega)⟩]

theorem fbE (b : Bk) (h o : Int) (R : List Ep) (i : Nat) (hi : b.eps.length ≤ i)  : CodeC Try.prog 0 31 fbB (fbS b h o R i) (.exit 0) (fbS b h o R i) :=
 runS hmix [.reg 3 [(4, [], some false)]] ⟨[2, 3, 5, 6], [(1000, 1000), (2000, 2000), (0, 0)], []⟩ [⟨dgem Ep.row hi⟩]

theorem foldl_filter {α : Type} (p : α → Bool) : ∀ (l R : List α), l.foldl (fun R x => bif p x then R ++ [x] else R) R = R ++ l.filter p
  | [], R => by simp
  | x :: l, R => by
    rw [List.foldl_cons, foldl_filter p l, List.filter_cons]
    cases h : p x <;> simp
theorem fbAll (b : Bk) (h o : Int) (hs : b.eps.length ≤ 1000000) : LoopC Try.prog 0 31 fbB (fbS b h o [] 0) (.exit 0) (fbS b h o (b.eps.filter (eqT h o)) b.eps.length) := by
  have := LoopC.fold b.eps (fun R x => bif eqT h o x then R ++ [x] else R) (fun i R => R.length ≤ i) (fun R i => fbS b h o R i) (P := Try.prog) (k := 0) (n := 31) (c := fbB) (e := .exit 0) (by simp)
    (fun i R x hx hi hR => by
      cases hb : eqT h o x with
      | true => exact ⟨fbY b h o R x i hx hi hs (by omega) hb, by simp; omega⟩
      | false => exact ⟨fbN b h o R x i hx hi hs (by omega) hb, by simp; omega⟩)
    (fun R _ => fbE b h o R _ (Nat.le_refl _)) [] (Nat.le_refl _)
  rw [foldl_filter, List.nil_append] at this
  exact this

theorem fb0 (b : Bk) (h o : Int) (R : List Ep) (hl : LoopC Try.prog 0 31 fbB (fbS b h o [] 0) (.exit 0) (fbS b h o R b.eps.length)) : Contract Try.prog 17 [b.v, .agg [U h, U o]] [] (.sl 6 (R.map Ep.row)) [] :=
 vcS hmix [.cut ⟨[2, 3, 5, 6], [(1000, 1000), (2000, 2000)], [.slot 5 0 6]⟩ (.exit 0) (fbS b h o R b.eps.length)] [] [⟨hl⟩]

theorem cFindR (b : Bk) (h o : Int) (hs : b.eps.length ≤ 1000000) : Contract Try.prog 17 [b.v, .agg [U h, U o]] [] (.sl 6 ((b.eps.filter (eqT h o)).map Ep.row)) [] := fb0 b h o _ (fbAll b h o hs)

end Go.Proofs.Ytdomjccibhgbjaa

/- what a block has of a trace; how long it is. -/
namespace Go.Proofs.Ytdomjccibhgbjaa
open E
set_option maxRecDepth 100000
set_option linter.unusedVariables false
set_option linter.unusedSimpArgs false

def fnS (b : Bk) (h o : Int) (R : List Ep) (i : Nat) : SL := ⟨[(3, .ptr 2000 0 0 0), (5, .own 0), (9, .sl 6 (b.eps.map Ep.row)), (10, I (b.eps.length : Int)), (11, I (i : Int))], [(2000, .box [U h, U o]), (0, .arr 6 (R.map Ep.row))], [2000, 0]⟩
noncomputable def fnB : Code := codeAt Try.prog 25 [true, true, false, true, false, false]

theorem cSize (b : Bk) (hs : b.eps.length ≤ 400) (hm : ∀ e ∈ b.eps, e.spans.length ≤ 100 ∧ ∀ s ∈ e.spans, s.attrs.length ≤ 1000000000) (hw : ∀ e ∈ b.eps, wfE e) : Contract Try.prog 23 [b.v] [] (I ((bytesB b).length : Int)) [] :=
 vcS hmix [.reg 1 [(1, [.call [] [] (.sl 1 ((bytesB b).map bR)) []], none), (2, [.be (I ((bytesB b).length : Int))], none)]] [] [⟨cBytes b hs hm hw⟩, ⟨lenm bR (bytesB b)⟩]

theorem fnY (b : Bk) (h o : Int) (R : List Ep) (x : Ep) (i : Nat) (hx : b.eps[i]? = some x) (hi : i < b.eps.length) (hs : b.eps.length ≤ 1000000) (hR : R.length ≤ 1000000) (hm : smE x) (hb : eqT h o x = true)  : CodeC Try.prog 0 26 fnB (fnS b h o R i) .normal (fnS b h o (R ++ [x]) (i + 1)) :=
 runS hmix [.reg 3 [(0, [], some true)], .reg 4 [(1, [.row (Ep.row x)], none)], .reg 5 [(3, [], some true)], .reg 6 [(2, [.call [] [] x.v []], none), (4, [.beO ((R ++ [x]).map Ep.row)], none)], .reg 7 [(0, [.be (I ((i + 1 : Nat) : Int))], none)]] ⟨[3, 5, 9, 10, 11], [(2000, 2000), (1205000, 0)], []⟩ [⟨dlt hi⟩, ⟨nn i⟩, ⟨ltm Ep.row hi⟩, ⟨gtm Ep.row hx⟩, ⟨(by unfold eqT at hb; simp at hb ⊢; exact hb : (decide (Ep.hi x = h) && (decide (Ep.lo x = o) && true)) = true)⟩, ⟨cEpC x hm⟩, ⟨(by simp; omega : (List.length (List.map Ep.row R) + 1) * 64 ≤ 140737488355328)⟩, ⟨(by rw [List.map_append]; rfl : List.map Ep.row R ++ [[(U (Ep.hi x)), (U (Ep.lo x)), I (Ep.first x), I (Ep.last x), Bo (Ep.sure x), .sl 10 (List.map Sp.row (Ep.spans x))]] = List.map Ep.row (R ++ [x]))⟩, ⟨w64 (i + 1) (by omega)⟩]

theorem fnN (b : Bk) (h o : Int) (R : List Ep) (x : Ep) (i : Nat) (hx : b.eps[i]? = some x) (hi : i < b.eps.length) (hs : b.eps.length ≤ 1000000) (hR : R.length ≤ 1000000) (hm : smE x) (hb : eqT h o x = false)  : CodeC Try.prog 0 26 fnB (fnS b h o R i) .normal (fnS b h o R (i + 1)) :=
 runS hmix [.reg 3 [(0, [], some true)], .reg 4 [(1, [.row (Ep.row x)], none)], .reg 5 [(3, [], some false)], .reg 7 [(0, [.be (I ((i + 1 : Nat) : Int))], none)]] ⟨[3, 5, 9, 10, 11], [(2000, 2000), (0, 0)], []⟩ [⟨dlt hi⟩, ⟨nn i⟩, ⟨ltm Ep.row hi⟩, ⟨gtm Ep.row hx⟩, ⟨(by unfold eqT at hb; simp at hb ⊢; exact hb : (decide (Ep.hi x = h) && (decide (Ep.lo x = o) && true)) = false)⟩, ⟨w64 (i + 1) (by omega)⟩]

theorem fnE (b : Bk) (h o : Int) (R : List Ep) (i : Nat) (hi : b.eps.length ≤ i)  : CodeC Try.prog 0 26 fnB (fnS b h o R i) (.exit 0) (fnS b h o R i) :=
 runS hmix [.reg 3 [(0, [], some false)]] ⟨[3, 5, 9, 10, 11], [(2000, 2000), (0, 0)], []⟩ [⟨dge hi⟩]

theorem fnAll (b : Bk) (h o : Int) (hs : b.eps.length ≤ 1000000) (hm : ∀ e ∈ b.eps, smE e) : LoopC Try.prog 0 26 fnB (fnS b h o [] 0) (.exit 0) (fnS b h o (b.eps.filter (eqT h o)) b.eps.length) := by
  have := LoopC.fold b.eps (fun R x => bif eqT h o x then R ++ [x] else R) (fun i R => R.length ≤ i) (fun R i => fnS b h o R i) (P := Try.prog) (k := 0) (n := 26) (c := fnB) (e := .exit 0) (by simp)
    (fun i R x hx hi hR => by
      cases hb : eqT h o x with
      | true => exact ⟨fnY b h o R x i hx hi hs (by omega) (hm x (List.mem_of_getElem? hx)) hb, by simp; omega⟩
      | false => exact ⟨fnN b h o R x i hx hi hs (by omega) (hm x (List.mem_of_getElem? hx)) hb, by simp; omega⟩)
    (fun R _ => fnE b h o R _ (Nat.le_refl _)) [] (Nat.le_refl _)
  rw [foldl_filter, List.nil_append] at this
  exact this

theorem fn0 (b : Bk) (h o : Int) (R : List Ep) (hl : LoopC Try.prog 0 26 fnB (fnS b h o [] 0) (.exit 0) (fnS b h o R b.eps.length)) : Contract Try.prog 25 [b.v, .agg [U h, U o]] [] (.sl 6 (R.map Ep.row)) [] :=
 vcS hmix [.reg 2 [(2, [.be (I (b.eps.length : Int))], none)], .cut ⟨[3, 5, 9, 10, 11], [(2000, 2000)], [.slot 5 0 6]⟩ (.exit 0) (fnS b h o R b.eps.length), .reg 8 [(1, [.idx 1], none)]] [] [⟨lenm Ep.row (Bk.eps b)⟩, ⟨hl⟩]

theorem cFind (b : Bk) (h o : Int) (hs : b.eps.length ≤ 1000000) (hm : ∀ e ∈ b.eps, smE e) : Contract Try.prog 25 [b.v, .agg [U h, U o]] [] (.sl 6 ((b.eps.filter (eqT h o)).map Ep.row)) [] := fn0 b h o _ (fnAll b h o hs hm)

end Go.Proofs.Ytdomjccibhgbjaa

/- numbers, read. -/
namespace Go.Proofs.Ytdomjccibhgbjaa
open E
set_option maxRecDepth 100000
set_option linter.unusedVariables false
set_option linter.unusedSimpArgs false

/-- What stands in a byte's lower bits, at its place (a form that no kernel unfolds). -/
def s7S (b : UInt8) (i : Nat) : Nat := match b.toNat % 128 with
  | 0 => 0
  | m + 1 => (m + 1) * 128 ^ i
/-- How a number is read: from place i on, n was read before. -/
def vgA (i n : Nat) : Nat → List UInt8 → Option (Nat × Nat)
  | 0, _ => none
  | _ + 1, [] => none
  | f + 1, b :: l => bif i == 9 && decide (1 < b.toNat % 128) then none
    else bif b.toNat == 0 && decide (0 < i) then none
    else bif decide (b.toNat < 128) then some (n + s7S b i, i + 1)
    else vgA (i + 1) (n + s7S b i) f l
def vget (l : List UInt8) : Option (Nat × Nat) := vgA 0 0 10 l
def vgS (l : List UInt8) (n i : Nat) : SL := ⟨[(0, .sl 1 (l.map bR)), (2, U 0), (3, I 0), (4, Bo false), (5, U (n : Int)), (6, I (i : Int))], [], []⟩
def vgT (l : List UInt8) (n i k : Nat) : SL := ⟨[(0, .sl 1 (l.map bR)), (2, U (n : Int)), (3, I (k : Int)), (4, Bo true), (5, U (n : Int)), (6, I (i : Int))], [], []⟩
noncomputable def vgB : Code := codeAt Try.prog 86 [true, true, false, true, false, false]

theorem s7S_eq (b : UInt8) (i : Nat) : s7S b i = b.toNat % 128 * 128 ^ i := by
  unfold s7S
  cases b.toNat % 128 with
  | zero => simp
  | succ m => rfl
theorem and7a : ∀ m : Fin 256, (m.val % 256 &&& 127) % 256 = m.val % 128 := by decide
theorem and7 (b : UInt8) : (b.toNat % 256 &&& 127) % 256 % 18446744073709551616 = b.toNat % 128 := by
  have := and7a ⟨b.toNat, u8_lt b⟩
  simp only at this
  rw [this]
  omega
theorem p128 (i : Nat) : (128 : Nat) ^ i = 2 ^ (7 * i) := by rw [Nat.pow_mul]
theorem s7S_bnd {b : UInt8} {n i : Nat} (hi : i < 10) (hn : n < 128 ^ i) (h9 : i = 9 → b.toNat % 128 ≤ 1) : n + s7S b i < 18446744073709551616 ∧ s7S b i < 18446744073709551616 := by
  rw [s7S_eq]
  by_cases h : i = 9
  · subst h
    have := h9 rfl
    have e : (128 : Nat) ^ 9 = 9223372036854775808 := by decide
    rw [e] at hn ⊢
    omega
  · have h1 : 128 ^ i ≤ 128 ^ 8 := Nat.pow_le_pow_right (by decide) (by omega)
    have h2 : b.toNat % 128 * 128 ^ i ≤ 127 * 128 ^ i := Nat.mul_le_mul_right _ (by omega)
    have e : (128 : Nat) ^ 8 = 72057594037927936 := by decide
    rw [e] at h1
    omega
theorem sh7_go {b : UInt8} {n i : Nat} (hi : i < 10) (hn : n < 128 ^ i) (h9 : i = 9 → b.toNat % 128 ≤ 1) : shlI IntKind.u64 (Int.ofNat ((b.toNat % 256 &&& 127) % 256 % 18446744073709551616)) (IntKind.i64.wrap (7 * Int.ofNat i)) = Int.ofNat (s7S b i) := by
  have h1 := (s7S_bnd hi hn h9).2
  rw [and7, i64_small (by simp only [Int.ofNat_eq_natCast]; omega)]
  rw [s7S_eq, p128] at h1 ⊢
  unfold shlI
  have e2 : min (7 * Int.ofNat i).toNat IntKind.u64.bits = 7 * i := by
    show min (7 * Int.ofNat i).toNat 64 = 7 * i
    simp only [Int.ofNat_eq_natCast]
    omega
  rw [e2]
  have e3 : (Int.ofNat (b.toNat % 128) * 2 ^ (7 * i) : Int) = ((b.toNat % 128 * 2 ^ (7 * i) : Nat) : Int) := by simp
  rw [e3]
  generalize b.toNat % 128 * 2 ^ (7 * i) = m at h1
  show ((m : Int) % 2 ^ 64) = (m : Int)
  omega
theorem or7_go {b : UInt8} {n i : Nat} (hi : i < 10) (hn : n < 128 ^ i) (h9 : i = 9 → b.toNat % 128 ≤ 1) : Int.ofNat ((n % 18446744073709551616 ||| s7S b i % 18446744073709551616) % 18446744073709551616) = Int.ofNat (n + s7S b i) := by
  obtain ⟨h1, h2⟩ := s7S_bnd hi hn h9
  rw [Nat.mod_eq_of_lt (show n < 18446744073709551616 by omega), Nat.mod_eq_of_lt h2]
  have : n ||| s7S b i = n + s7S b i := by
    rw [s7S_eq, p128]
    rw [p128] at hn
    exact or_add hn
  rw [this, Nat.mod_eq_of_lt h1]
theorem vgGo_0 (l : List UInt8) (b : UInt8) (n i : Nat) (hx : l[i]? = some b) (hi : i < 10) (hs : l.length ≤ 70000000) (hn : n < 128 ^ i) (h9 : i = 9 → b.toNat % 128 ≤ 1) (hb : 128 ≤ b.toNat) (tq0 : (Int.ofNat i == (9 : Int)) = true) (tq1 : (Int.ofNat (UInt8.toNat b) == (0 : Int)) = true) : CodeC Try.prog 0 55 vgB (vgS l n i) .normal (vgS l (n + s7S b i) (i + 1)) :=
 runS hmix [.reg 3 [(3, [], some true), (6, [], some true)], .reg 5 [(3, [.row (bR b)], none)], .reg 6 [(2, [], some true), (5, [], some false)], .reg 8 [(4, [.idx 0, .be (U ((s7S b i : Nat) : Int))], none), (5, [.be (U ((n + s7S b i : Nat) : Int))], none)], .reg 9 [(3, [.row (bR b)], none), (5, [], some true), (8, [], some false)], .reg 11 [(3, [.row (bR b)], none), (4, [], some false)], .reg 4 [(1, [.be (I ((i + 1 : Nat) : Int))], none)]] ⟨[0, 2, 3, 4, 5, 6], [], []⟩ [⟨(by have q := (List.getElem?_eq_some_iff.1 hx).1; simp; omega : decide (Int.ofNat i < Int.ofNat (List.length (List.map bR l))) = true)⟩, ⟨(by have q := (List.getElem?_eq_some_iff.1 hx).1; simp; omega : decide (Int.ofNat i < 10) = true)⟩, ⟨nn i⟩, ⟨(by have q := (List.getElem?_eq_some_iff.1 hx).1; simp; omega : Int.ofNat i < Int.ofNat (List.length (List.map bR l)))⟩, ⟨gtm bR hx⟩, ⟨tq0⟩, ⟨(by rw [and7]; have := h9 (by simp at tq0; omega); simp; omega : decide (Int.ofNat (((UInt8.toNat b % 256) &&& 127) % 256 % 18446744073709551616) > 1) = false)⟩, ⟨(by rw [i64_small (by simp only [Int.ofNat_eq_natCast]; omega)]; simp only [Int.ofNat_eq_natCast]; omega : 0 ≤ IntKind.wrap IntKind.i64 (7 * Int.ofNat i))⟩, ⟨sh7_go hi hn h9⟩, ⟨or7_go hi hn h9⟩, ⟨nn i⟩, ⟨(by have q := (List.getElem?_eq_some_iff.1 hx).1; simp; omega : Int.ofNat i < Int.ofNat (List.length (List.map bR l)))⟩, ⟨gtm bR hx⟩, ⟨tq1⟩, ⟨(by exfalso; simp at tq1; omega : decide (Int.ofNat i > 0) = false)⟩, ⟨nn i⟩, ⟨(by have q := (List.getElem?_eq_some_iff.1 hx).1; simp; omega : Int.ofNat i < Int.ofNat (List.length (List.map bR l)))⟩, ⟨gtm bR hx⟩, ⟨(by have q := (List.getElem?_eq_some_iff.1 hx).1; simp; omega : decide (Int.ofNat (UInt8.toNat b) < 128) = false)⟩, ⟨w64 (i + 1) (by omega)⟩]

theorem vgGo_1 (l : List UInt8) (b : UInt8) (n i : Nat) (hx : l[i]? = some b) (hi : i < 10) (hs : l.length ≤ 70000000) (hn : n < 128 ^ i) (h9 : i = 9 → b.toNat % 128 ≤ 1) (hb : 128 ≤ b.toNat) (tq0 : (Int.ofNat i == (9 : Int)) = true) (tq1 : (Int.ofNat (UInt8.toNat b) == (0 : Int)) = false) : CodeC Try.prog 0 55 vgB (vgS l n i) .normal (vgS l (n + s7S b i) (i + 1)) :=
 runS hmix [.reg 3 [(3, [], some true), (6, [], some true)], .reg 5 [(3, [.row (bR b)], none)], .reg 6 [(2, [], some true), (5, [], some false)], .reg 8 [(4, [.idx 0, .be (U ((s7S b i : Nat) : Int))], none), (5, [.be (U ((n + s7S b i : Nat) : Int))], none)], .reg 9 [(3, [.row (bR b)], none), (5, [], some false), (8, [], some false)], .reg 11 [(3, [.row (bR b)], none), (4, [], some false)], .reg 4 [(1, [.be (I ((i + 1 : Nat) : Int))], none)]] ⟨[0, 2, 3, 4, 5, 6], [], []⟩ [⟨(by have q := (List.getElem?_eq_some_iff.1 hx).1; simp; omega : decide (Int.ofNat i < Int.ofNat (List.length (List.map bR l))) = true)⟩, ⟨(by have q := (List.getElem?_eq_some_iff.1 hx).1; simp; omega : decide (Int.ofNat i < 10) = true)⟩, ⟨nn i⟩, ⟨(by have q := (List.getElem?_eq_some_iff.1 hx).1; simp; omega : Int.ofNat i < Int.ofNat (List.length (List.map bR l)))⟩, ⟨gtm bR hx⟩, ⟨tq0⟩, ⟨(by rw [and7]; have := h9 (by simp at tq0; omega); simp; omega : decide (Int.ofNat (((UInt8.toNat b % 256) &&& 127) % 256 % 18446744073709551616) > 1) = false)⟩, ⟨(by rw [i64_small (by simp only [Int.ofNat_eq_natCast]; omega)]; simp only [Int.ofNat_eq_natCast]; omega : 0 ≤ IntKind.wrap IntKind.i64 (7 * Int.ofNat i))⟩, ⟨sh7_go hi hn h9⟩, ⟨or7_go hi hn h9⟩, ⟨nn i⟩, ⟨(by have q := (List.getElem?_eq_some_iff.1 hx).1; simp; omega : Int.ofNat i < Int.ofNat (List.length (List.map bR l)))⟩, ⟨gtm bR hx⟩, ⟨tq1⟩, ⟨(by simp [hx] : false = false)⟩, ⟨nn i⟩, ⟨(by have q := (List.getElem?_eq_some_iff.1 hx).1; simp; omega : Int.ofNat i < Int.ofNat (List.length (List.map bR l)))⟩, ⟨gtm bR hx⟩, ⟨(by have q := (List.getElem?_eq_some_iff.1 hx).1; simp; omega : decide (Int.ofNat (UInt8.toNat b) < 128) = false)⟩, ⟨w64 (i + 1) (by omega)⟩]

theorem vgGo_2 (l : List UInt8) (b : UInt8) (n i : Nat) (hx : l[i]? = some b) (hi : i < 10) (hs : l.length ≤ 70000000) (hn : n < 128 ^ i) (h9 : i = 9 → b.toNat % 128 ≤ 1) (hb : 128 ≤ b.toNat) (tq0 : (Int.ofNat i == (9 : Int)) = false) (tq1 : (Int.ofNat (UInt8.toNat b) == (0 : Int)) = true) : CodeC Try.prog 0 55 vgB (vgS l n i) .normal (vgS l (n + s7S b i) (i + 1)) :=
 runS hmix [.reg 3 [(3, [], some true), (6, [], some true)], .reg 5 [(3, [.row (bR b)], none)], .reg 6 [(2, [], some false), (5, [], some false)], .reg 8 [(4, [.idx 0, .be (U ((s7S b i : Nat) : Int))], none), (5, [.be (U ((n + s7S b i : Nat) : Int))], none)], .reg 9 [(3, [.row (bR b)], none), (5, [], some true), (8, [], some false)], .reg 11 [(3, [.row (bR b)], none), (4, [], some false)], .reg 4 [(1, [.be (I ((i + 1 : Nat) : Int))], none)]] ⟨[0, 2, 3, 4, 5, 6], [], []⟩ [⟨(by have q := (List.getElem?_eq_some_iff.1 hx).1; simp; omega : decide (Int.ofNat i < Int.ofNat (List.length (List.map bR l))) = true)⟩, ⟨(by have q := (List.getElem?_eq_some_iff.1 hx).1; simp; omega : decide (Int.ofNat i < 10) = true)⟩, ⟨nn i⟩, ⟨(by have q := (List.getElem?_eq_some_iff.1 hx).1; simp; omega : Int.ofNat i < Int.ofNat (List.length (List.map bR l)))⟩, ⟨gtm bR hx⟩, ⟨tq0⟩, ⟨(by exfalso; simp at tq1; omega : false = false)⟩, ⟨(by rw [i64_small (by simp only [Int.ofNat_eq_natCast]; omega)]; simp only [Int.ofNat_eq_natCast]; omega : 0 ≤ IntKind.wrap IntKind.i64 (7 * Int.ofNat i))⟩, ⟨sh7_go hi hn h9⟩, ⟨or7_go hi hn h9⟩, ⟨nn i⟩, ⟨(by have q := (List.getElem?_eq_some_iff.1 hx).1; simp; omega : Int.ofNat i < Int.ofNat (List.length (List.map bR l)))⟩, ⟨gtm bR hx⟩, ⟨tq1⟩, ⟨(by exfalso; simp at tq1; omega : decide (Int.ofNat i > 0) = false)⟩, ⟨nn i⟩, ⟨(by have q := (List.getElem?_eq_some_iff.1 hx).1; simp; omega : Int.ofNat i < Int.ofNat (List.length (List.map bR l)))⟩, ⟨gtm bR hx⟩, ⟨(by have q := (List.getElem?_eq_some_iff.1 hx).1; simp; omega : decide (Int.ofNat (UInt8.toNat b) < 128) = false)⟩, ⟨w64 (i + 1) (by omega)⟩]

theorem vgGo_3 (l : List UInt8) (b : UInt8) (n i : Nat) (hx : l[i]? = some b) (hi : i < 10) (hs : l.length ≤ 70000000) (hn : n < 128 ^ i) (h9 : i = 9 → b.toNat % 128 ≤ 1) (hb : 128 ≤ b.toNat) (tq0 : (Int.ofNat i == (9 : Int)) = false) (tq1 : (Int.ofNat (UInt8.toNat b) == (0 : Int)) = false) : CodeC Try.prog 0 55 vgB (vgS l n i) .normal (vgS l (n + s7S b i) (i + 1)) :=
 runS hmix [.reg 3 [(3, [], some true), (6, [], some true)], .reg 5 [(3, [.row (bR b)], none)], .reg 6 [(2, [], some false), (5, [], some false)], .reg 8 [(4, [.idx 0, .be (U ((s7S b i : Nat) : Int))], none), (5, [.be (U ((n + s7S b i : Nat) : Int))], none)], .reg 9 [(3, [.row (bR b)], none), (5, [], some false), (8, [], some false)], .reg 11 [(3, [.row (bR b)], none), (4, [], some false)], .reg 4 [(1, [.be (I ((i + 1 : Nat) : Int))], none)]] ⟨[0, 2, 3, 4, 5, 6], [], []⟩ [⟨(by have q := (List.getElem?_eq_some_iff.1 hx).1; simp; omega : decide (Int.ofNat i < Int.ofNat (List.length (List.map bR l))) = true)⟩, ⟨(by have q := (List.getElem?_eq_some_iff.1 hx).1; simp; omega : decide (Int.ofNat i < 10) = true)⟩, ⟨nn i⟩, ⟨(by have q := (List.getElem?_eq_some_iff.1 hx).1; simp; omega : Int.ofNat i < Int.ofNat (List.length (List.map bR l)))⟩, ⟨gtm bR hx⟩, ⟨tq0⟩, ⟨(by simp [hx] : false = false)⟩, ⟨(by rw [i64_small (by simp only [Int.ofNat_eq_natCast]; omega)]; simp only [Int.ofNat_eq_natCast]; omega : 0 ≤ IntKind.wrap IntKind.i64 (7 * Int.ofNat i))⟩, ⟨sh7_go hi hn h9⟩, ⟨or7_go hi hn h9⟩, ⟨nn i⟩, ⟨(by have q := (List.getElem?_eq_some_iff.1 hx).1; simp; omega : Int.ofNat i < Int.ofNat (List.length (List.map bR l)))⟩, ⟨gtm bR hx⟩, ⟨tq1⟩, ⟨(by simp [hx] : false = false)⟩, ⟨nn i⟩, ⟨(by have q := (List.getElem?_eq_some_iff.1 hx).1; simp; omega : Int.ofNat i < Int.ofNat (List.length (List.map bR l)))⟩, ⟨gtm bR hx⟩, ⟨(by have q := (List.getElem?_eq_some_iff.1 hx).1; simp; omega : decide (Int.ofNat (UInt8.toNat b) < 128) = false)⟩, ⟨w64 (i + 1) (by omega)⟩]

theorem vgGo (l : List UInt8) (b : UInt8) (n i : Nat) (hx : l[i]? = some b) (hi : i < 10) (hs : l.length ≤ 70000000) (hn : n < 128 ^ i) (h9 : i = 9 → b.toNat % 128 ≤ 1) (hb : 128 ≤ b.toNat)  : CodeC Try.prog 0 55 vgB (vgS l n i) .normal (vgS l (n + s7S b i) (i + 1)) := by
  rcases tf (Int.ofNat i == (9 : Int)) with tq0 | tq0
  · rcases tf (Int.ofNat (UInt8.toNat b) == (0 : Int)) with tq1 | tq1
    · exact vgGo_0 l b n i hx hi hs hn h9 hb tq0 tq1
    · exact vgGo_1 l b n i hx hi hs hn h9 hb tq0 tq1
  · rcases tf (Int.ofNat (UInt8.toNat b) == (0 : Int)) with tq1 | tq1
    · exact vgGo_2 l b n i hx hi hs hn h9 hb tq0 tq1
    · exact vgGo_3 l b n i hx hi hs hn h9 hb tq0 tq1

theorem vg9 (l : List UInt8) (b : UInt8) (n i : Nat) (hx : l[i]? = some b) (hi : i = 9) (hs : l.length ≤ 70000000) (h9 : 1 < b.toNat % 128)  : CodeC Try.prog 0 55 vgB (vgS l n i) .ret (vgS l n i) :=
 runS hmix [.reg 3 [(3, [], some true), (6, [], some true)], .reg 5 [(3, [.row (bR b)], none)], .reg 6 [(2, [], some true), (5, [], some true)]] ⟨[0, 2, 3, 4, 5, 6], [], []⟩ [⟨(by have q := (List.getElem?_eq_some_iff.1 hx).1; simp; omega : decide (Int.ofNat i < Int.ofNat (List.length (List.map bR l))) = true)⟩, ⟨(by have q := (List.getElem?_eq_some_iff.1 hx).1; simp; omega : decide (Int.ofNat i < 10) = true)⟩, ⟨nn i⟩, ⟨(by have q := (List.getElem?_eq_some_iff.1 hx).1; simp; omega : Int.ofNat i < Int.ofNat (List.length (List.map bR l)))⟩, ⟨gtm bR hx⟩, ⟨(by have q := (List.getElem?_eq_some_iff.1 hx).1; simp; omega : (Int.ofNat i == 9) = true)⟩, ⟨(by rw [and7]; simp; omega : decide (Int.ofNat (((UInt8.toNat b % 256) &&& 127) % 256 % 18446744073709551616) > 1) = true)⟩]

theorem vg0_0 (l : List UInt8) (b : UInt8) (n i : Nat) (hx : l[i]? = some b) (hi : i < 10) (hs : l.length ≤ 70000000) (hn : n < 128 ^ i) (h9 : i = 9 → b.toNat % 128 ≤ 1) (hz : b.toNat = 0) (h0 : 0 < i) (tq0 : (Int.ofNat i == (9 : Int)) = true) : CodeC Try.prog 0 55 vgB (vgS l n i) .ret (vgS l (n + s7S b i) i) :=
 runS hmix [.reg 3 [(3, [], some true), (6, [], some true)], .reg 5 [(3, [.row (bR b)], none)], .reg 6 [(2, [], some true), (5, [], some false)], .reg 8 [(4, [.idx 0, .be (U ((s7S b i : Nat) : Int))], none), (5, [.be (U ((n + s7S b i : Nat) : Int))], none)], .reg 9 [(3, [.row (bR b)], none), (5, [], some true), (8, [], some true)]] ⟨[0, 2, 3, 4, 5, 6], [], []⟩ [⟨(by have q := (List.getElem?_eq_some_iff.1 hx).1; simp; omega : decide (Int.ofNat i < Int.ofNat (List.length (List.map bR l))) = true)⟩, ⟨(by have q := (List.getElem?_eq_some_iff.1 hx).1; simp; omega : decide (Int.ofNat i < 10) = true)⟩, ⟨nn i⟩, ⟨(by have q := (List.getElem?_eq_some_iff.1 hx).1; simp; omega : Int.ofNat i < Int.ofNat (List.length (List.map bR l)))⟩, ⟨gtm bR hx⟩, ⟨tq0⟩, ⟨(by rw [and7]; have := h9 (by simp at tq0; omega); simp; omega : decide (Int.ofNat (((UInt8.toNat b % 256) &&& 127) % 256 % 18446744073709551616) > 1) = false)⟩, ⟨(by rw [i64_small (by simp only [Int.ofNat_eq_natCast]; omega)]; simp only [Int.ofNat_eq_natCast]; omega : 0 ≤ IntKind.wrap IntKind.i64 (7 * Int.ofNat i))⟩, ⟨sh7_go hi hn h9⟩, ⟨or7_go hi hn h9⟩, ⟨nn i⟩, ⟨(by have q := (List.getElem?_eq_some_iff.1 hx).1; simp; omega : Int.ofNat i < Int.ofNat (List.length (List.map bR l)))⟩, ⟨gtm bR hx⟩, ⟨(by have q := (List.getElem?_eq_some_iff.1 hx).1; simp; omega : (Int.ofNat (UInt8.toNat b) == 0) = true)⟩, ⟨(by have q := (List.getElem?_eq_some_iff.1 hx).1; simp; omega : decide (Int.ofNat i > 0) = true)⟩]

theorem vg0_1 (l : List UInt8) (b : UInt8) (n i : Nat) (hx : l[i]? = some b) (hi : i < 10) (hs : l.length ≤ 70000000) (hn : n < 128 ^ i) (h9 : i = 9 → b.toNat % 128 ≤ 1) (hz : b.toNat = 0) (h0 : 0 < i) (tq0 : (Int.ofNat i == (9 : Int)) = false) : CodeC Try.prog 0 55 vgB (vgS l n i) .ret (vgS l (n + s7S b i) i) :=
 runS hmix [.reg 3 [(3, [], some true), (6, [], some true)], .reg 5 [(3, [.row (bR b)], none)], .reg 6 [(2, [], some false), (5, [], some false)], .reg 8 [(4, [.idx 0, .be (U ((s7S b i : Nat) : Int))], none), (5, [.be (U ((n + s7S b i : Nat) : Int))], none)], .reg 9 [(3, [.row (bR b)], none), (5, [], some true), (8, [], some true)]] ⟨[0, 2, 3, 4, 5, 6], [], []⟩ [⟨(by have q := (List.getElem?_eq_some_iff.1 hx).1; simp; omega : decide (Int.ofNat i < Int.ofNat (List.length (List.map bR l))) = true)⟩, ⟨(by have q := (List.getElem?_eq_some_iff.1 hx).1; simp; omega : decide (Int.ofNat i < 10) = true)⟩, ⟨nn i⟩, ⟨(by have q := (List.getElem?_eq_some_iff.1 hx).1; simp; omega : Int.ofNat i < Int.ofNat (List.length (List.map bR l)))⟩, ⟨gtm bR hx⟩, ⟨tq0⟩, ⟨(by simp [hz] : false = false)⟩, ⟨(by rw [i64_small (by simp only [Int.ofNat_eq_natCast]; omega)]; simp only [Int.ofNat_eq_natCast]; omega : 0 ≤ IntKind.wrap IntKind.i64 (7 * Int.ofNat i))⟩, ⟨sh7_go hi hn h9⟩, ⟨or7_go hi hn h9⟩, ⟨nn i⟩, ⟨(by have q := (List.getElem?_eq_some_iff.1 hx).1; simp; omega : Int.ofNat i < Int.ofNat (List.length (List.map bR l)))⟩, ⟨gtm bR hx⟩, ⟨(by have q := (List.getElem?_eq_some_iff.1 hx).1; simp; omega : (Int.ofNat (UInt8.toNat b) == 0) = true)⟩, ⟨(by have q := (List.getElem?_eq_some_iff.1 hx).1; simp; omega : decide (Int.ofNat i > 0) = true)⟩]

theorem vg0 (l : List UInt8) (b : UInt8) (n i : Nat) (hx : l[i]? = some b) (hi : i < 10) (hs : l.length ≤ 70000000) (hn : n < 128 ^ i) (h9 : i = 9 → b.toNat % 128 ≤ 1) (hz : b.toNat = 0) (h0 : 0 < i)  : CodeC Try.prog 0 55 vgB (vgS l n i) .ret (vgS l (n + s7S b i) i) := by
  rcases tf (Int.ofNat i == (9 : Int)) with tq0 | tq0
  · exact vg0_0 l b n i hx hi hs hn h9 hz h0 tq0
  · exact vg0_1 l b n i hx hi hs hn h9 hz h0 tq0

theorem vgL_0 (l : List UInt8) (b : UInt8) (n i : Nat) (hx : l[i]? = some b) (hi : i < 10) (hs : l.length ≤ 70000000) (hn : n < 128 ^ i) (h9 : i = 9 → b.toNat % 128 ≤ 1) (hb : b.toNat < 128) (hz : b.toNat = 0 → i = 0) (tq0 : (Int.ofNat i == (9 : Int)) = true) (tq1 : (Int.ofNat (UInt8.toNat b) == (0 : Int)) = true) : CodeC Try.prog 0 55 vgB (vgS l n i) .ret (vgT l (n + s7S b i) i (i + 1)) :=
 runS hmix [.reg 3 [(3, [], some true), (6, [], some true)], .reg 5 [(3, [.row (bR b)], none)], .reg 6 [(2, [], some true), (5, [], some false)], .reg 8 [(4, [.idx 0, .be (U ((s7S b i : Nat) : Int))], none), (5, [.be (U ((n + s7S b i : Nat) : Int))], none)], .reg 9 [(3, [.row (bR b)], none), (5, [], some true), (8, [], some false)], .reg 11 [(3, [.row (bR b)], none), (4, [], some true)], .reg 12 [(2, [.be (I ((i + 1 : Nat) : Int))], none)]] ⟨[0, 2, 3, 4, 5, 6], [], []⟩ [⟨(by have q := (List.getElem?_eq_some_iff.1 hx).1; simp; omega : decide (Int.ofNat i < Int.ofNat (List.length (List.map bR l))) = true)⟩, ⟨(by have q := (List.getElem?_eq_some_iff.1 hx).1; simp; omega : decide (Int.ofNat i < 10) = true)⟩, ⟨nn i⟩, ⟨(by have q := (List.getElem?_eq_some_iff.1 hx).1; simp; omega : Int.ofNat i < Int.ofNat (List.length (List.map bR l)))⟩, ⟨gtm bR hx⟩, ⟨tq0⟩, ⟨(by rw [and7]; have := h9 (by simp at tq0; omega); simp; omega : decide (Int.ofNat (((UInt8.toNat b % 256) &&& 127) % 256 % 18446744073709551616) > 1) = false)⟩, ⟨(by rw [i64_small (by simp only [Int.ofNat_eq_natCast]; omega)]; simp only [Int.ofNat_eq_natCast]; omega : 0 ≤ IntKind.wrap IntKind.i64 (7 * Int.ofNat i))⟩, ⟨sh7_go hi hn h9⟩, ⟨or7_go hi hn h9⟩, ⟨nn i⟩, ⟨(by have q := (List.getElem?_eq_some_iff.1 hx).1; simp; omega : Int.ofNat i < Int.ofNat (List.length (List.map bR l)))⟩, ⟨gtm bR hx⟩, ⟨tq1⟩, ⟨(by have q := hz (by simp at tq1; omega); simp; omega : decide (Int.ofNat i > 0) = false)⟩, ⟨nn i⟩, ⟨(by have q := (List.getElem?_eq_some_iff.1 hx).1; simp; omega : Int.ofNat i < Int.ofNat (List.length (List.map bR l)))⟩, ⟨gtm bR hx⟩, ⟨(by have q := (List.getElem?_eq_some_iff.1 hx).1; simp; omega : decide (Int.ofNat (UInt8.toNat b) < 128) = true)⟩, ⟨w64 (i + 1) (by omega)⟩]

theorem vgL_1 (l : List UInt8) (b : UInt8) (n i : Nat) (hx : l[i]? = some b) (hi : i < 10) (hs : l.length ≤ 70000000) (hn : n < 128 ^ i) (h9 : i = 9 → b.toNat % 128 ≤ 1) (hb : b.toNat < 128) (hz : b.toNat = 0 → i = 0) (tq0 : (Int.ofNat i == (9 : Int)) = true) (tq1 : (Int.ofNat (UInt8.toNat b) == (0 : Int)) = false) : CodeC Try.prog 0 55 vgB (vgS l n i) .ret (vgT l (n + s7S b i) i (i + 1)) :=
 runS hmix [.reg 3 [(3, [], some true), (6, [], some true)], .reg 5 [(3, [.row (bR b)], none)], .reg 6 [(2, [], some true), (5, [], some false)], .reg 8 [(4, [.idx 0, .be (U ((s7S b i : Nat) : Int))], none), (5, [.be (U ((n + s7S b i : Nat) : Int))], none)], .reg 9 [(3, [.row (bR b)], none), (5, [], some false), (8, [], some false)], .reg 11 [(3, [.row (bR b)], none), (4, [], some true)], .reg 12 [(2, [.be (I ((i + 1 : Nat) : Int))], none)]] ⟨[0, 2, 3, 4, 5, 6], [], []⟩ [⟨(by have q := (List.getElem?_eq_some_iff.1 hx).1; simp; omega : decide (Int.ofNat i < Int.ofNat (List.length (List.map bR l))) = true)⟩, ⟨(by have q := (List.getElem?_eq_some_iff.1 hx).1; simp; omega : decide (Int.ofNat i < 10) = true)⟩, ⟨nn i⟩, ⟨(by have q := (List.getElem?_eq_some_iff.1 hx).1; simp; omega : Int.ofNat i < Int.ofNat (List.length (List.map bR l)))⟩, ⟨gtm bR hx⟩, ⟨tq0⟩, ⟨(by rw [and7]; have := h9 (by simp at tq0; omega); simp; omega : decide (Int.ofNat (((UInt8.toNat b % 256) &&& 127) % 256 % 18446744073709551616) > 1) = false)⟩, ⟨(by rw [i64_small (by simp only [Int.ofNat_eq_natCast]; omega)]; simp only [Int.ofNat_eq_natCast]; omega : 0 ≤ IntKind.wrap IntKind.i64 (7 * Int.ofNat i))⟩, ⟨sh7_go hi hn h9⟩, ⟨or7_go hi hn h9⟩, ⟨nn i⟩, ⟨(by have q := (List.getElem?_eq_some_iff.1 hx).1; simp; omega : Int.ofNat i < Int.ofNat (List.length (List.map bR l)))⟩, ⟨gtm bR hx⟩, ⟨tq1⟩, ⟨(by simp [hx] : false = false)⟩, ⟨nn i⟩, ⟨(by have q := (List.getElem?_eq_some_iff.1 hx).1; simp; omega : Int.ofNat i < Int.ofNat (List.length (List.map bR l)))⟩, ⟨gtm bR hx⟩, ⟨(by have q := (List.getElem?_eq_some_iff.1 hx).1; simp; omega : decide (Int.ofNat (UInt8.toNat b) < 128) = true)⟩, ⟨w64 (i + 1) (by omega)⟩]

theorem vgL_2 (l : List UInt8) (b : UInt8) (n i : Nat) (hx : l[i]? = some b) (hi : i < 10) (hs : l.length ≤ 70000000) (hn : n < 128 ^ i) (h9 : i = 9 → b.toNat % 128 ≤ 1) (hb : b.toNat < 128) (hz : b.toNat = 0 → i = 0) (tq0 : (Int.ofNat i == (9 : Int)) = false) (tq1 : (Int.ofNat (UInt8.toNat b) == (0 : Int)) = true) : CodeC Try.prog 0 55 vgB (vgS l n i) .ret (vgT l (n + s7S b i) i (i + 1)) :=
 runS hmix [.reg 3 [(3, [], some true), (6, [], some true)], .reg 5 [(3, [.row (bR b)], none)], .reg 6 [(2, [], some false), (5, [], some false)], .reg 8 [(4, [.idx 0, .be (U ((s7S b i : Nat) : Int))], none), (5, [.be (U ((n + s7S b i : Nat) : Int))], none)], .reg 9 [(3, [.row (bR b)], none), (5, [], some true), (8, [], some false)], .reg 11 [(3, [.row (bR b)], none), (4, [], some true)], .reg 12 [(2, [.be (I ((i + 1 : Nat) : Int))], none)]] ⟨[0, 2, 3, 4, 5, 6], [], []⟩ [⟨(by have q := (List.getElem?_eq_some_iff.1 hx).1; simp; omega : decide (Int.ofNat i < Int.ofNat (List.length (List.map bR l))) = true)⟩, ⟨(by have q := (List.getElem?_eq_some_iff.1 hx).1; simp; omega : decide (Int.ofNat i < 10) = true)⟩, ⟨nn i⟩, ⟨(by have q := (List.getElem?_eq_some_iff.1 hx).1; simp; omega : Int.ofNat i < Int.ofNat (List.length (List.map bR l)))⟩, ⟨gtm bR hx⟩, ⟨tq0⟩, ⟨(by simp [hx] : false = false)⟩, ⟨(by rw [i64_small (by simp only [Int.ofNat_eq_natCast]; omega)]; simp only [Int.ofNat_eq_natCast]; omega : 0 ≤ IntKind.wrap IntKind.i64 (7 * Int.ofNat i))⟩, ⟨sh7_go hi hn h9⟩, ⟨or7_go hi hn h9⟩, ⟨nn i⟩, ⟨(by have q := (List.getElem?_eq_some_iff.1 hx).1; simp; omega : Int.ofNat i < Int.ofNat (List.length (List.map bR l)))⟩, ⟨gtm bR hx⟩, ⟨tq1⟩, ⟨(by have q := hz (by simp at tq1; omega); simp; omega : decide (Int.ofNat i > 0) = false)⟩, ⟨nn i⟩, ⟨(by have q := (List.getElem?_eq_some_iff.1 hx).1; simp; omega : Int.ofNat i < Int.ofNat (List.length (List.map bR l)))⟩, ⟨gtm bR hx⟩, ⟨(by have q := (List.getElem?_eq_some_iff.1 hx).1; simp; omega : decide (Int.ofNat (UInt8.toNat b) < 128) = true)⟩, ⟨w64 (i + 1) (by omega)⟩]

theorem vgL_3 (l : List UInt8) (b : UInt8) (n i : Nat) (hx : l[i]? = some b) (hi : i < 10) (hs : l.length ≤ 70000000) (hn : n < 128 ^ i) (h9 : i = 9 → b.toNat % 128 ≤ 1) (hb : b.toNat < 128) (hz : b.toNat = 0 → i = 0) (tq0 : (Int.ofNat i == (9 : Int)) = false) (tq1 : (Int.ofNat (UInt8.toNat b) == (0 : Int)) = false) : CodeC Try.prog 0 55 vgB (vgS l n i) .ret (vgT l (n + s7S b i) i (i + 1)) :=
 runS hmix [.reg 3 [(3, [], some true), (6, [], some true)], .reg 5 [(3, [.row (bR b)], none)], .reg 6 [(2, [], some false), (5, [], some false)], .reg 8 [(4, [.idx 0, .be (U ((s7S b i : Nat) : Int))], none), (5, [.be (U ((n + s7S b i : Nat) : Int))], none)], .reg 9 [(3, [.row (bR b)], none), (5, [], some false), (8, [], some false)], .reg 11 [(3, [.row (bR b)], none), (4, [], some true)], .reg 12 [(2, [.be (I ((i + 1 : Nat) : Int))], none)]] ⟨[0, 2, 3, 4, 5, 6], [], []⟩ [⟨(by have q := (List.getElem?_eq_some_iff.1 hx).1; simp; omega : decide (Int.ofNat i < Int.ofNat (List.length (List.map bR l))) = true)⟩, ⟨(by have q := (List.getElem?_eq_some_iff.1 hx).1; simp; omega : decide (Int.ofNat i < 10) = true)⟩, ⟨nn i⟩, ⟨(by have q := (List.getElem?_eq_some_iff.1 hx).1; simp; omega : Int.ofNat i < Int.ofNat (List.length (List.map bR l)))⟩, ⟨gtm bR hx⟩, ⟨tq0⟩, ⟨(by simp [hx] : false = false)⟩, ⟨(by rw [i64_small (by simp only [Int.ofNat_eq_natCast]; omega)]; simp only [Int.ofNat_eq_natCast]; omega : 0 ≤ IntKind.wrap IntKind.i64 (7 * Int.ofNat i))⟩, ⟨sh7_go hi hn h9⟩, ⟨or7_go hi hn h9⟩, ⟨nn i⟩, ⟨(by have q := (List.getElem?_eq_some_iff.1 hx).1; simp; omega : Int.ofNat i < Int.ofNat (List.length (List.map bR l)))⟩, ⟨gtm bR hx⟩, ⟨tq1⟩, ⟨(by simp [hx] : false = false)⟩, ⟨nn i⟩, ⟨(by have q := (List.getElem?_eq_some_iff.1 hx).1; simp; omega : Int.ofNat i < Int.ofNat (List.length (List.map bR l)))⟩, ⟨gtm bR hx⟩, ⟨(by have q := (List.getElem?_eq_some_iff.1 hx).1; simp; omega : decide (Int.ofNat (UInt8.toNat b) < 128) = true)⟩, ⟨w64 (i + 1) (by omega)⟩]

theorem vgL (l : List UInt8) (b : UInt8) (n i : Nat) (hx : l[i]? = some b) (hi : i < 10) (hs : l.length ≤ 70000000) (hn : n < 128 ^ i) (h9 : i = 9 → b.toNat % 128 ≤ 1) (hb : b.toNat < 128) (hz : b.toNat = 0 → i = 0)  : CodeC Try.prog 0 55 vgB (vgS l n i) .ret (vgT l (n + s7S b i) i (i + 1)) := by
  rcases tf (Int.ofNat i == (9 : Int)) with tq0 | tq0
  · rcases tf (Int.ofNat (UInt8.toNat b) == (0 : Int)) with tq1 | tq1
    · exact vgL_0 l b n i hx hi hs hn h9 hb hz tq0 tq1
    · exact vgL_1 l b n i hx hi hs hn h9 hb hz tq0 tq1
  · rcases tf (Int.ofNat (UInt8.toNat b) == (0 : Int)) with tq1 | tq1
    · exact vgL_2 l b n i hx hi hs hn h9 hb hz tq0 tq1
    · exact vgL_3 l b n i hx hi hs hn h9 hb hz tq0 tq1

theorem vgE_0 (l : List UInt8) (n i : Nat) (h : l.length ≤ i ∨ 10 ≤ i) (tq0 : (decide (Int.ofNat i < Int.ofNat (List.length (List.map bR l)))) = true) : CodeC Try.prog 0 55 vgB (vgS l n i) (.exit 0) (vgS l n i) :=
 runS hmix [.reg 3 [(4, [], some true), (6, [], some false)]] ⟨[0, 2, 3, 4, 5, 6], [], []⟩ [⟨tq0⟩, ⟨(by have d0 := tq0; try simp only [Int.ofNat_eq_natCast, List.length_map, Bool.not_eq_true', Bool.not_eq_false', decide_eq_true_eq, decide_eq_false_iff_not] at d0; simp; omega : decide (Int.ofNat i < (10 : Int)) = false)⟩]

theorem vgE_1 (l : List UInt8) (n i : Nat) (h : l.length ≤ i ∨ 10 ≤ i) (tq0 : (decide (Int.ofNat i < Int.ofNat (List.length (List.map bR l)))) = false) : CodeC Try.prog 0 55 vgB (vgS l n i) (.exit 0) (vgS l n i) :=
 runS hmix [.reg 3 [(4, [], some false), (6, [], some false)]] ⟨[0, 2, 3, 4, 5, 6], [], []⟩ [⟨tq0⟩]

theorem vgE (l : List UInt8) (n i : Nat) (h : l.length ≤ i ∨ 10 ≤ i)  : CodeC Try.prog 0 55 vgB (vgS l n i) (.exit 0) (vgS l n i) := by
  rcases tf (decide (Int.ofNat i < Int.ofNat (List.length (List.map bR l)))) with tq0 | tq0
  · exact vgE_0 l n i h tq0
  · exact vgE_1 l n i h tq0

theorem vgA_step {i n m : Nat} {l : List UInt8} {b : UInt8} (hx : l[i]? = some b) : vgA i n (m + 1) (l.drop i) = (bif i == 9 && decide (1 < b.toNat % 128) then none
    else bif b.toNat == 0 && decide (0 < i) then none
    else bif decide (b.toNat < 128) then some (n + s7S b i, i + 1)
    else vgA (i + 1) (n + s7S b i) m (l.drop (i + 1))) := by
  obtain ⟨hi, he⟩ := List.getElem?_eq_some_iff.1 hx
  rw [List.drop_eq_getElem_cons hi, he, vgA]
theorem vgA_nil {i n m : Nat} {l : List UInt8} (h : l.length ≤ i) : vgA i n m (l.drop i) = none := by
  rw [List.drop_eq_nil_of_le h]
  cases m <;> rfl
theorem vgAll (l : List UInt8) (hs : l.length ≤ 70000000) : ∀ (m i n : Nat), i + m = 10 → n < 128 ^ i →
    (∃ n' i', vgA i n m (l.drop i) = none ∧ LoopC Try.prog 0 55 vgB (vgS l n i) .ret (vgS l n' i')) ∨
    (∃ n' i', vgA i n m (l.drop i) = none ∧ LoopC Try.prog 0 55 vgB (vgS l n i) (.exit 0) (vgS l n' i')) ∨
    (∃ n' k i', vgA i n m (l.drop i) = some (n', k) ∧ LoopC Try.prog 0 55 vgB (vgS l n i) .ret (vgT l n' i' k))
  | 0, i, n, h, hn => .inr (.inl ⟨n, i, rfl, LoopC.last (vgE l n i (by omega)) (by simp)⟩)
  | m + 1, i, n, h, hn => by
    by_cases hi : i < l.length
    · have hx : l[i]? = some l[i] := List.getElem?_eq_getElem hi
      generalize l[i] = b at hx
      rw [vgA_step hx]
      by_cases h9 : i = 9 ∧ 1 < b.toNat % 128
      · rw [show (i == 9 && decide (1 < b.toNat % 128)) = true by simp [h9.1, h9.2]]
        exact .inl ⟨n, i, rfl, LoopC.last (vg9 l b n i hx h9.1 hs h9.2) (by simp)⟩
      · rw [show (i == 9 && decide (1 < b.toNat % 128)) = false by simp; omega]
        have k9 : i = 9 → b.toNat % 128 ≤ 1 := fun e => by omega
        simp only [cond_false]
        by_cases hz : b.toNat = 0 ∧ 0 < i
        · rw [show (b.toNat == 0 && decide (0 < i)) = true by simp [hz.1, hz.2]]
          exact .inl ⟨_, i, rfl, LoopC.last (vg0 l b n i hx (by omega) hs hn k9 hz.1 hz.2) (by simp)⟩
        · rw [show (b.toNat == 0 && decide (0 < i)) = false by simp; omega]
          simp only [cond_false]
          by_cases hb : b.toNat < 128
          · rw [show decide (b.toNat < 128) = true by simpa using hb]
            exact .inr (.inr ⟨_, _, i, rfl, LoopC.last (vgL l b n i hx (by omega) hs hn k9 hb (fun e => by omega)) (by simp)⟩)
          · rw [show decide (b.toNat < 128) = false by simpa using hb]
            have hlt : n + s7S b i < 128 ^ (i + 1) := by
              rw [s7S_eq, Nat.pow_succ]
              have : b.toNat % 128 * 128 ^ i ≤ 127 * 128 ^ i := Nat.mul_le_mul_right _ (by omega)
              omega
            have go := vgGo l b n i hx (by omega) hs hn k9 (by omega)
            rcases vgAll l hs m (i + 1) (n + s7S b i) (by omega) hlt with ⟨n', i', e, hl⟩ | ⟨n', i', e, hl⟩ | ⟨n', k, i', e, hl⟩
            · exact .inl ⟨n', i', e, LoopC.next go hl⟩
            · exact .inr (.inl ⟨n', i', e, LoopC.next go hl⟩)
            · exact .inr (.inr ⟨n', k, i', e, LoopC.next go hl⟩)
    · exact .inr (.inl ⟨n, i, vgA_nil (by omega), LoopC.last (vgE l n i (by omega)) (by simp)⟩)
def getN (l : List UInt8) : Nat := match vget l with
  | some p => p.1
  | none => 0
def getK (l : List UInt8) : Nat := match vget l with
  | some p => p.2
  | none => 0
def getOk (l : List UInt8) : Bool := (vget l).isSome
theorem get_a (l : List UInt8) (n i : Nat) (hl : LoopC Try.prog 0 55 vgB (vgS l 0 0) .ret (vgS l n i)) : Contract Try.prog 86 [.sl 1 (l.map bR)] [] (.tup [U 0, I 0, Bo false]) [] :=
 vcS hmix [.cut ⟨[0, 2, 3, 4, 5, 6], [], []⟩ .ret (vgS l n i)] [] [⟨hl⟩]

theorem get_b (l : List UInt8) (n i : Nat) (hl : LoopC Try.prog 0 55 vgB (vgS l 0 0) (.exit 0) (vgS l n i)) : Contract Try.prog 86 [.sl 1 (l.map bR)] [] (.tup [U 0, I 0, Bo false]) [] :=
 vcS hmix [.cut ⟨[0, 2, 3, 4, 5, 6], [], []⟩ (.exit 0) (vgS l n i)] [] [⟨hl⟩]

theorem get_c (l : List UInt8) (n i k : Nat) (hl : LoopC Try.prog 0 55 vgB (vgS l 0 0) .ret (vgT l n i k)) : Contract Try.prog 86 [.sl 1 (l.map bR)] [] (.tup [U (n : Int), I (k : Int), Bo true]) [] :=
 vcS hmix [.cut ⟨[0, 2, 3, 4, 5, 6], [], []⟩ .ret (vgT l n i k)] [] [⟨hl⟩]

theorem cGet (l : List UInt8) (hs : l.length ≤ 70000000) : Contract Try.prog 86 [.sl 1 (l.map bR)] [] (.tup [U ((getN l : Nat) : Int), I ((getK l : Nat) : Int), Bo (getOk l)]) [] := by
  have key := vgAll l hs 10 0 0 rfl (by decide)
  rw [List.drop_zero] at key
  unfold getN getK getOk vget
  rcases key with ⟨n', i', e, hl⟩ | ⟨n', i', e, hl⟩ | ⟨n', k, i', e, hl⟩
  · rw [e]; exact get_a l n' i' hl
  · rw [e]; exact get_b l n' i' hl
  · rw [e]; exact get_c l n' i' k hl
end Go.Proofs.Ytdomjccibhgbjaa

/- a reader. -/
namespace Go.Proofs.Ytdomjccibhgbjaa
open E
set_option maxRecDepth 100000
set_option linter.unusedVariables false
set_option linter.unusedSimpArgs false

/-- What a reader has left, and whether something was wrong. -/
abbrev RS := List UInt8 × Bool
def rdO (s : RS) : E.Obj := .box [.sl 1 (s.1.map bR), Bo s.2]
def badR : RS := ([], true)
def wideV (s : RS) : Int := bif s.2 || !getOk s.1 then 0 else ((getN s.1 : Nat) : Int)
def wideS (s : RS) : RS := bif s.2 || !getOk s.1 then badR else (s.1.drop (getK s.1), false)
def numV (top : Int) (s : RS) : Int := bif decide (wideV s > top) then 0 else wideV s
def numS (top : Int) (s : RS) : RS := bif decide (wideV s > top) then badR else wideS s
def cntV (s : RS) : Int := bif decide (wideV s > ((wideS s).1.length : Int)) then 0 else wideV s
def cntS (s : RS) : RS := bif decide (wideV s > ((wideS s).1.length : Int)) then badR else wideS s
def takeV (n : Int) (s : RS) : List UInt8 := bif s.2 || decide (n > (s.1.length : Int)) then [] else s.1.take n.toNat
def takeS (n : Int) (s : RS) : RS := bif s.2 || decide (n > (s.1.length : Int)) then badR else (s.1.drop n.toNat, false)
def ofB (l : List UInt8) : ByteArray := ⟨l.toArray⟩
def txtV (s : RS) : ByteArray := ofB (takeV (cntV s) (cntS s))
def txtS (s : RS) : RS := takeS (cntV s) (cntS s)
theorem vgA_k : ∀ (m i n : Nat) (l : List UInt8) {n' k : Nat}, i + m = 10 → n < 128 ^ i → vgA i n m l = some (n', k) → k ≤ i + l.length ∧ i < k ∧ k ≤ 10 ∧ n' < 18446744073709551616
  | 0, _, _, _, _, _, _, _, h => by simp [vgA] at h
  | m + 1, i, n, [], _, _, _, _, h => by simp [vgA] at h
  | m + 1, i, n, b :: l, n', k, hm, hn, h => by
    rw [vgA] at h
    cases h1 : (i == 9 && decide (1 < b.toNat % 128)) with
    | true => rw [h1] at h; simp at h
    | false =>
      rw [h1] at h
      have k9 : i = 9 → b.toNat % 128 ≤ 1 := by
        intro e
        rw [e] at h1
        simp at h1
        omega
      cases h2 : (b.toNat == 0 && decide (0 < i)) with
      | true => rw [h2] at h; simp at h
      | false =>
        rw [h2] at h
        simp only [cond_false] at h
        by_cases hb : b.toNat < 128
        · simp only [hb, decide_true, cond_true, Option.some.injEq, Prod.mk.injEq] at h
          have := s7S_bnd (b := b) (n := n) (i := i) (by omega) hn k9
          simp only [List.length_cons]
          omega
        · simp only [hb, decide_false, cond_false] at h
          have hlt : n + s7S b i < 128 ^ (i + 1) := by
            rw [s7S_eq, Nat.pow_succ]
            have : b.toNat % 128 * 128 ^ i ≤ 127 * 128 ^ i := Nat.mul_le_mul_right _ (by omega)
            omega
          have := vgA_k m (i + 1) _ l (by omega) hlt h
          simp only [List.length_cons]
          omega
theorem getK_le (l : List UInt8) : getK l ≤ l.length := by
  unfold getK
  cases h : vget l with
  | none => exact Nat.zero_le _
  | some p => have := vgA_k 10 0 0 l (n' := p.1) (k := p.2) rfl (by decide) h; simpa using this.1
theorem getN_lt (l : List UInt8) : getN l < 18446744073709551616 := by
  unfold getN
  cases h : vget l with
  | none => decide
  | some p => exact (vgA_k 10 0 0 l (n' := p.1) (k := p.2) rfl (by decide) h).2.2.2
theorem wideV_bnd (s : RS) : 0 ≤ wideV s ∧ wideV s < 18446744073709551616 := by
  have := getN_lt s.1
  unfold wideV
  cases s.2 || !getOk s.1 <;> simp <;> omega
theorem wideS_len (s : RS) : (wideS s).1.length ≤ s.1.length := by
  unfold wideS badR
  cases s.2 || !getOk s.1 <;> simp
theorem numV_bnd {top : Int} (h : 0 ≤ top) (s : RS) : 0 ≤ numV top s ∧ numV top s ≤ top := by
  have := wideV_bnd s
  unfold numV
  cases hd : decide (wideV s > top) with
  | true => simp; exact h
  | false => simp at hd ⊢; omega
theorem numS_len (top : Int) (s : RS) : (numS top s).1.length ≤ s.1.length := by
  have := wideS_len s
  unfold numS badR
  cases decide (wideV s > top) <;> simp; exact this
theorem cntV_bnd (s : RS) : 0 ≤ cntV s ∧ cntV s ≤ ((cntS s).1.length : Int) := by
  have := wideV_bnd s
  unfold cntV cntS badR
  cases hd : decide (wideV s > ((wideS s).1.length : Int)) with
  | true => simp
  | false => simp at hd ⊢; omega
theorem cntS_len (s : RS) : (cntS s).1.length ≤ s.1.length := by
  have := wideS_len s
  unfold cntS badR
  cases decide (wideV s > ((wideS s).1.length : Int)) <;> simp; exact this
theorem takeS_len (n : Int) (s : RS) : (takeS n s).1.length ≤ s.1.length := by
  unfold takeS badR
  cases s.2 || decide (n > (s.1.length : Int)) <;> simp
theorem takeV_len (n : Int) (s : RS) : (takeV n s).length ≤ s.1.length := by
  unfold takeV
  cases s.2 || decide (n > (s.1.length : Int)) <;> simp; omega
theorem txtS_len (s : RS) : (txtS s).1.length ≤ s.1.length := Nat.le_trans (takeS_len _ _) (cntS_len _)
theorem i64_of {n : Int} (h0 : 0 ≤ n) (h1 : n ≤ 1000000000000000) : IntKind.i64.wrap n = n := by
  simp only [IntKind.wrap, IntKind.signed, IntKind.bits]
  simp
  omega
theorem u64_of {n : Int} (h0 : 0 ≤ n) (h1 : n < 18446744073709551616) : IntKind.u64.wrap n = n := u64_mod ⟨h0, h1⟩
theorem ofB_rows (l : List UInt8) : l.map bR = strRows (ofB l) := rfl
theorem cWideR_0 (s : RS) (hs : s.1.length ≤ 70000000) (tq0 : (Prod.snd s) = true) : Contract Try.prog 65 [.ptr 0 0 0 0] [rdO s] (V.val (Value.int IntKind.u64 (0 : Int))) ([some (Obj.box [V.sl (1 : Nat) [], Bo true])]) :=
 vcS hmix [.reg 1 [(4, [.call [] [] (.tup [U ((getN s.1 : Nat) : Int), I ((getK s.1 : Nat) : Int), Bo (getOk s.1)]) []], none)], .reg 2 [(4, [], some true)], .reg 3 [(4, [.idx 1, .idx 0], none)]] [] [⟨(by exact cGet s.1 hs : Contract Try.prog 86 [.sl 1 (List.map bR (Prod.fst s))] [] (.tup [(U (Int.ofNat (getN (Prod.fst s)))), I (Int.ofNat (getK (Prod.fst s))), Bo (getOk (Prod.fst s))]) [])⟩, ⟨(by omega : Prod.snd s = true)⟩]

theorem cWideR_1 (s : RS) (hs : s.1.length ≤ 70000000) (tq0 : (Prod.snd s) = false) (tq1 : (!getOk (Prod.fst s)) = true) : Contract Try.prog 65 [.ptr 0 0 0 0] [rdO s] (V.val (Value.int IntKind.u64 (0 : Int))) ([some (Obj.box [V.sl (1 : Nat) [], Bo true])]) :=
 vcS hmix [.reg 1 [(4, [.call [] [] (.tup [U ((getN s.1 : Nat) : Int), I ((getK s.1 : Nat) : Int), Bo (getOk s.1)]) []], none)], .reg 2 [(4, [], some false), (7, [], some true)], .reg 3 [(4, [.idx 1, .idx 0], none)]] [] [⟨(by exact cGet s.1 hs : Contract Try.prog 86 [.sl 1 (List.map bR (Prod.fst s))] [] (.tup [(U (Int.ofNat (getN (Prod.fst s)))), I (Int.ofNat (getK (Prod.fst s))), Bo (getOk (Prod.fst s))]) [])⟩, ⟨(by omega : Prod.snd s = false)⟩, ⟨(by omega : (!getOk (Prod.fst s)) = true)⟩]

theorem cWideR_2 (s : RS) (hs : s.1.length ≤ 70000000) (tq0 : (Prod.snd s) = false) (tq1 : (!getOk (Prod.fst s)) = false) : Contract Try.prog 65 [.ptr 0 0 0 0] [rdO s] ((U (Int.ofNat (getN (Prod.fst s))))) ([some (.box [.sl 1 (List.map bR (List.drop (getK (Prod.fst s)) (Prod.fst s))), Bo (Prod.snd s)])]) :=
 vcS hmix [.reg 1 [(4, [.call [] [] (.tup [U ((getN s.1 : Nat) : Int), I ((getK s.1 : Nat) : Int), Bo (getOk s.1)]) []], none)], .reg 2 [(4, [], some false), (7, [], some false)], .reg 5 [(6, [.be (.sl 1 ((s.1.drop (getK s.1)).map bR))], none)]] [] [⟨cGet s.1 hs⟩, ⟨tq0⟩, ⟨tq1⟩, ⟨(by simp : 0 ≤ Int.ofNat (getK (Prod.fst s)))⟩, ⟨(by have q := getK_le s.1; simp; omega : Int.ofNat (getK (Prod.fst s)) ≤ Int.ofNat (List.length (List.map bR (Prod.fst s))))⟩, ⟨(by omega : Int.ofNat (List.length (List.map bR (Prod.fst s))) ≤ Int.ofNat (List.length (List.map bR (Prod.fst s))))⟩, ⟨(by rw [List.take_length, List.map_drop] : List.drop (getK (Prod.fst s)) (List.take (List.length (List.map bR (Prod.fst s))) (List.map bR (Prod.fst s))) = List.map bR (List.drop (getK (Prod.fst s)) (Prod.fst s)))⟩]

theorem cWideR (s : RS) (hs : s.1.length ≤ 70000000) : Contract Try.prog 65 [.ptr 0 0 0 0] [rdO s] (U (wideV s)) [some (rdO (wideS s))] := by
  rcases tf (Prod.snd s) with tq0 | tq0
  · exact Contract.cast (by
      first
        | (simp only [wideV, wideS, rdO, badR, tq0, cond_true, cond_false]; rfl)) (by
      first
        | (simp only [wideV, wideS, rdO, badR, tq0, cond_true, cond_false]; rfl)) (cWideR_0 s hs tq0)
  · rcases tf (!getOk (Prod.fst s)) with tq1 | tq1
    · exact Contract.cast (by
        first
          | (simp only [wideV, wideS, rdO, badR, tq0, tq1, cond_true, cond_false]; rfl)) (by
        first
          | (simp only [wideV, wideS, rdO, badR, tq0, tq1, cond_true, cond_false]; rfl)) (cWideR_1 s hs tq0 tq1)
    · exact Contract.cast (by
        first
          | (simp only [wideV, wideS, rdO, badR, tq0, tq1, cond_true, cond_false]; rfl)) (by
        first
          | (simp only [wideV, wideS, rdO, badR, tq0, tq1, cond_true, cond_false]; rfl)) (cWideR_2 s hs tq0 tq1)

theorem cNumR_0 (top : Int) (s : RS) (hs : s.1.length ≤ 70000000) (h0 : 0 ≤ top) (h1 : top ≤ 1000000000000000) (tq0 : (decide (wideV s > top)) = true) : Contract Try.prog 34 [.ptr 0 0 0 0, I top] [rdO s] (I 0) ([some (.box [.sl 1 [], Bo true])]) :=
 vcS hmix [.reg 1 [(1, [.call [0] [] (U (wideV s)) [some (rdO (wideS s))]], none)], .reg 2 [(2, [.be (U top)], none), (3, [], some true)], .reg 3 [(4, [.idx 1, .idx 0], none)]] [] [⟨cWideR s hs⟩, ⟨u64_of h0 (by omega)⟩, ⟨tq0⟩]

theorem cNumR_1 (top : Int) (s : RS) (hs : s.1.length ≤ 70000000) (h0 : 0 ≤ top) (h1 : top ≤ 1000000000000000) (tq0 : (decide (wideV s > top)) = false) : Contract Try.prog 34 [.ptr 0 0 0 0, I top] [rdO s] (I (wideV s)) ([some (.box [.sl 1 (List.map bR (Prod.fst (wideS s))), Bo (Prod.snd (wideS s))])]) :=
 vcS hmix [.reg 1 [(1, [.call [0] [] (U (wideV s)) [some (rdO (wideS s))]], none)], .reg 2 [(2, [.be (U top)], none), (3, [], some false)], .reg 5 [(1, [.be (I (wideV s))], none)]] [] [⟨cWideR s hs⟩, ⟨u64_of h0 (by omega)⟩, ⟨tq0⟩, ⟨(by have d0 := tq0; try simp only [Int.ofNat_eq_natCast, List.length_map, Bool.not_eq_true', Bool.not_eq_false', decide_eq_true_eq, decide_eq_false_iff_not] at d0; have q := wideV_bnd s; exact i64_of q.1 (by omega) : IntKind.wrap IntKind.i64 (wideV s) = wideV s)⟩]

theorem cNumR (top : Int) (s : RS) (hs : s.1.length ≤ 70000000) (h0 : 0 ≤ top) (h1 : top ≤ 1000000000000000) : Contract Try.prog 34 [.ptr 0 0 0 0, I top] [rdO s] (I (numV top s)) [some (rdO (numS top s))] := by
  rcases tf (decide (wideV s > top)) with tq0 | tq0
  · exact Contract.cast (by simp only [numV, numS, rdO, badR, tq0, cond_true, cond_false]) (by simp only [numV, numS, rdO, badR, tq0, cond_true, cond_false]; rfl) (cNumR_0 top s hs h0 h1 tq0)
  · exact Contract.cast (by simp only [numV, numS, rdO, badR, tq0, cond_true, cond_false]) (by simp only [numV, numS, rdO, badR, tq0, cond_true, cond_false]) (cNumR_1 top s hs h0 h1 tq0)

theorem cCountR_0 (s : RS) (hs : s.1.length ≤ 70000000) (tq0 : (decide (wideV s > Int.ofNat (List.length (Prod.fst (wideS s))))) = true) : Contract Try.prog 66 [.ptr 0 0 0 0] [rdO s] (I 0) ([some (.box [.sl 1 [], Bo true])]) :=
 vcS hmix [.reg 1 [(1, [.call [0] [] (U (wideV s)) [some (rdO (wideS s))]], none)], .reg 2 [(5, [.be (I ((wideS s).1.length : Int))], none), (6, [.be (U ((wideS s).1.length : Int))], none), (7, [], some true)], .reg 3 [(4, [.idx 1, .idx 0], none)]] [] [⟨cWideR s hs⟩, ⟨(by simp : Int.ofNat (List.length (List.map bR (Prod.fst (wideS s)))) = Int.ofNat (List.length (Prod.fst (wideS s))))⟩, ⟨(by have q := wideS_len s; rw [Nat.mod_eq_of_lt (by omega)] : Int.ofNat (List.length (Prod.fst (wideS s)) % 18446744073709551616) = Int.ofNat (List.length (Prod.fst (wideS s))))⟩, ⟨tq0⟩]

theorem cCountR_1 (s : RS) (hs : s.1.length ≤ 70000000) (tq0 : (decide (wideV s > Int.ofNat (List.length (Prod.fst (wideS s))))) = false) : Contract Try.prog 66 [.ptr 0 0 0 0] [rdO s] (I (wideV s)) ([some (.box [.sl 1 (List.map bR (Prod.fst (wideS s))), Bo (Prod.snd (wideS s))])]) :=
 vcS hmix [.reg 1 [(1, [.call [0] [] (U (wideV s)) [some (rdO (wideS s))]], none)], .reg 2 [(5, [.be (I ((wideS s).1.length : Int))], none), (6, [.be (U ((wideS s).1.length : Int))], none), (7, [], some false)], .reg 5 [(1, [.be (I (wideV s))], none)]] [] [⟨cWideR s hs⟩, ⟨(by simp : Int.ofNat (List.length (List.map bR (Prod.fst (wideS s)))) = Int.ofNat (List.length (Prod.fst (wideS s))))⟩, ⟨(by have q := wideS_len s; rw [Nat.mod_eq_of_lt (by omega)] : Int.ofNat (List.length (Prod.fst (wideS s)) % 18446744073709551616) = Int.ofNat (List.length (Prod.fst (wideS s))))⟩, ⟨tq0⟩, ⟨(by have d0 := tq0; try simp only [Int.ofNat_eq_natCast, List.length_map, Bool.not_eq_true', Bool.not_eq_false', decide_eq_true_eq, decide_eq_false_iff_not] at d0; have q := wideV_bnd s; have q2 := wideS_len s; exact i64_of q.1 (by omega) : IntKind.wrap IntKind.i64 (wideV s) = wideV s)⟩]

theorem cCountR (s : RS) (hs : s.1.length ≤ 70000000) : Contract Try.prog 66 [.ptr 0 0 0 0] [rdO s] (I (cntV s)) [some (rdO (cntS s))] := by
  rcases tf (decide (wideV s > Int.ofNat (List.length (Prod.fst (wideS s))))) with tq0 | tq0
  · exact Contract.cast (by (try simp only [Int.ofNat_eq_natCast, List.length_map, Bool.not_eq_true', Bool.not_eq_false', decide_eq_true_eq, decide_eq_false_iff_not] at tq0); simp [cntV, cntS, rdO, badR, tq0]) (by (try simp only [Int.ofNat_eq_natCast, List.length_map, Bool.not_eq_true', Bool.not_eq_false', decide_eq_true_eq, decide_eq_false_iff_not] at tq0); simp [cntV, cntS, rdO, badR, tq0]) (cCountR_0 s hs tq0)
  · exact Contract.cast (by (try simp only [Int.ofNat_eq_natCast, List.length_map, Bool.not_eq_true', Bool.not_eq_false', decide_eq_true_eq, decide_eq_false_iff_not] at tq0); simp [cntV, cntS, rdO, badR, tq0]) (by (try simp only [Int.ofNat_eq_natCast, List.length_map, Bool.not_eq_true', Bool.not_eq_false', decide_eq_true_eq, decide_eq_false_iff_not] at tq0); simp [cntV, cntS, rdO, badR, tq0]) (cCountR_1 s hs tq0)

theorem cFlagR (s : RS) (hs : s.1.length ≤ 70000000) : Contract Try.prog 67 [.ptr 0 0 0 0] [rdO s] (Bo (numV 1 s == 1)) [some (rdO (numS 1 s))] :=
 vcS hmix [.reg 1 [(1, [.call [0] [] (I (numV 1 s)) [some (rdO (numS 1 s))]], none)]] [] [⟨cNumR 1 s hs (by decide) (by decide)⟩]

theorem cTakeR_0 (n : Int) (s : RS) (hs : s.1.length ≤ 70000000) (h0 : 0 ≤ n) (tq0 : (Prod.snd s) = true) : Contract Try.prog 36 [.ptr 0 0 0 0, I n] [rdO s] (.sl 1 []) ([some (.box [.sl 1 [], Bo true])]) :=
 vcS hmix [.reg 1 [(4, [], some true), (10, [.be (I (s.1.length : Int))], none)], .reg 2 [(4, [.idx 1, .idx 0], none)]] [] [⟨tq0⟩]

theorem cTakeR_1 (n : Int) (s : RS) (hs : s.1.length ≤ 70000000) (h0 : 0 ≤ n) (tq0 : (Prod.snd s) = false) (tq1 : (decide (n > Int.ofNat (List.length (Prod.fst s)))) = true) : Contract Try.prog 36 [.ptr 0 0 0 0, I n] [rdO s] (.sl 1 []) ([some (.box [.sl 1 [], Bo true])]) :=
 vcS hmix [.reg 1 [(4, [], some false), (10, [.be (I (s.1.length : Int))], none), (12, [], some true)], .reg 2 [(4, [.idx 1, .idx 0], none)]] [] [⟨tq0⟩, ⟨lenm bR (Prod.fst s)⟩, ⟨tq1⟩]

theorem cTakeR_2 (n : Int) (s : RS) (hs : s.1.length ≤ 70000000) (h0 : 0 ≤ n) (tq0 : (Prod.snd s) = false) (tq1 : (decide (n > Int.ofNat (List.length (Prod.fst s)))) = false) : Contract Try.prog 36 [.ptr 0 0 0 0, I n] [rdO s] (V.sl (1 : Nat) (List.map bR (List.take (Int.toNat n) (Prod.fst s)))) ([some (Obj.box [V.sl (1 : Nat) (List.map bR (List.drop (Int.toNat n) (Prod.fst s))), Bo (Prod.snd s)])]) :=
  vcP hmix [.reg 1 [(4, [], some false), (10, [.be (I (s.1.length : Int))], none), (12, [], some false)], .reg 4 [(5, [.be (.sl 1 ((s.1.take n.toNat).map bR))], none)], .reg 5 [(6, [.be (.sl 1 ((s.1.drop n.toNat).map bR))], none)]] [] [
      Prod.snd s = false,
      Int.ofNat (List.length (List.map bR (Prod.fst s))) = Int.ofNat (List.length (Prod.fst s)),
      decide (n > Int.ofNat (List.length (Prod.fst s))) = false,
      (0 : Int) ≤ (0 : Int),
      (0 : Int) ≤ n,
      n ≤ Int.ofNat (List.length (List.map bR (Prod.fst s))),
      List.take (Int.toNat n) (List.map bR (Prod.fst s)) = List.map bR (List.take (Int.toNat n) (Prod.fst s)),
      (0 : Int) ≤ n,
      n ≤ Int.ofNat (List.length (List.map bR (Prod.fst s))),
      Int.ofNat (List.length (List.map bR (Prod.fst s))) ≤ Int.ofNat (List.length (List.map bR (Prod.fst s))),
      List.drop (Int.toNat n) (List.take (List.length (List.map bR (Prod.fst s))) (List.map bR (Prod.fst s))) = List.map bR (List.drop (Int.toNat n) (Prod.fst s))] (by kernel_rfl)
    (by
      have d0 := tq0
      have d1 := tq1
      try simp only [Int.ofNat_eq_natCast, List.length_map, Bool.not_eq_true', Bool.not_eq_false', decide_eq_true_eq, decide_eq_false_iff_not] at d0 d1
      simp only [allP]
      and_intros <;> first
        | omega
        | (simp; done)
        | (simp at d1 ⊢; omega)
        | (rw [List.map_drop, List.take_of_length_le (Nat.le_refl _)]; done))

theorem cTakeR (n : Int) (s : RS) (hs : s.1.length ≤ 70000000) (h0 : 0 ≤ n) : Contract Try.prog 36 [.ptr 0 0 0 0, I n] [rdO s] (.sl 1 ((takeV n s).map bR)) [some (rdO (takeS n s))] := by
  rcases tf (Prod.snd s) with tq0 | tq0
  · exact Contract.cast (by simp only [takeV, takeS, rdO, badR, tq0, cond_true, cond_false]; rfl) (by simp only [takeV, takeS, rdO, badR, tq0, cond_true, cond_false]; rfl) (cTakeR_0 n s hs h0 tq0)
  · rcases tf (decide (n > Int.ofNat (List.length (Prod.fst s)))) with tq1 | tq1
    · exact Contract.cast (by (try simp only [Int.ofNat_eq_natCast, List.length_map, Bool.not_eq_true', Bool.not_eq_false', decide_eq_true_eq, decide_eq_false_iff_not] at tq0 tq1); simp [takeV, takeS, rdO, badR, tq0, tq1]) (by (try simp only [Int.ofNat_eq_natCast, List.length_map, Bool.not_eq_true', Bool.not_eq_false', decide_eq_true_eq, decide_eq_false_iff_not] at tq0 tq1); simp [takeV, takeS, rdO, badR, tq0, tq1]) (cTakeR_1 n s hs h0 tq0 tq1)
    · exact Contract.cast (by (try simp only [Int.ofNat_eq_natCast, List.length_map, Bool.not_eq_true', Bool.not_eq_false', decide_eq_true_eq, decide_eq_false_iff_not] at tq0 tq1); simp [takeV, takeS, rdO, badR, tq0, tq1]) (by (try simp only [Int.ofNat_eq_natCast, List.length_map, Bool.not_eq_true', Bool.not_eq_false', decide_eq_true_eq, decide_eq_false_iff_not] at tq0 tq1); simp [takeV, takeS, rdO, badR, tq0, tq1]) (cTakeR_2 n s hs h0 tq0 tq1)

theorem cTextR (s : RS) (hs : s.1.length ≤ 70000000) : Contract Try.prog 87 [.ptr 0 0 0 0] [rdO s] (Sg (txtV s)) [some (rdO (txtS s))] :=
 vcS hmix [.reg 1 [(2, [.call [0] [] (I (cntV s)) [some (rdO (cntS s))]], none), (3, [.call [0] [] (.sl 1 ((takeV (cntV s) (cntS s)).map bR)) [some (rdO (txtS s))]], none), (4, [.str (txtV s)], none)]] [] [⟨cCountR s hs⟩, ⟨cTakeR _ _ (Nat.le_trans (cntS_len s) hs) (cntV_bnd s).1⟩, ⟨(by exact ofB_rows _ : List.map bR (takeV (cntV s) (cntS s)) = strRows (txtV s))⟩]

end Go.Proofs.Ytdomjccibhgbjaa

/- a span, read. -/
namespace Go.Proofs.Ytdomjccibhgbjaa
open E
set_option maxRecDepth 100000
set_option linter.unusedVariables false
set_option linter.unusedSimpArgs false

def sa1 (s : RS) : RS := wideS s
def sa2 (s : RS) : RS := wideS (sa1 s)
def sa3 (s : RS) : RS := wideS (sa2 s)
def sa4 (s : RS) : RS := wideS (sa3 s)
def sa5 (s : RS) : RS := txtS (sa4 s)
def sa6 (s : RS) : RS := txtS (sa5 s)
def sa7 (s : RS) : RS := numS 1099511627776 (sa6 s)
def sa8 (s : RS) : RS := numS 1073741824 (sa7 s)
def sa9 (s : RS) : RS := numS 1 (sa8 s)
def sa10 (s : RS) : RS := numS 4 (sa9 s)
def attsF : Nat → RS → List At → List At × RS
  | 0, s, R => (R, s)
  | k + 1, s, R => attsF k (txtS (txtS s)) (R ++ [⟨txtV s, txtV (txtS s)⟩])
def sgP (s : RS) : Sp := ⟨wideV s, wideV (sa1 s), wideV (sa2 s), wideV (sa3 s), txtV (sa4 s), txtV (sa5 s), numV 1099511627776 (sa6 s), numV 1073741824 (sa7 s), numV 1 (sa8 s) == 1, []⟩
def spanV (s : RS) : Sp := { sgP s with attrs := (attsF (numV 4 (sa9 s)).toNat (sa10 s) []).1 }
def spanQ (s : RS) : RS := (attsF (numV 4 (sa9 s)).toNat (sa10 s) []).2
def spanS (s : RS) : RS := ((spanQ s).1, (spanQ s).2 || !rightS (spanV s))
def gaS (p : Sp) (q : RS) (R : List At) (n : Int) (i : Nat) : SL := ⟨[(0, .ptr 0 0 0 0), (2, .ptr 1000 0 0 0), (3, .ptr 201000 0 0 0), (35, I n), (36, I i)], [(0, rdO q), (1000, .box [U 0, U 0, U 0, U 0, Sg ⟨#[]⟩, Sg ⟨#[]⟩, I 0, I 0, Bo false, .nil]), (201000, .box [U p.hi, U p.lo, U p.id, U p.par, Sg p.svc, Sg p.op, I p.start, I p.dur, Bo p.err, .own 900]), (900, .arr 2 (R.map At.row))], [0, 1000, 201000, 900, 0]⟩
noncomputable def gaB : Code := codeAt Try.prog 68 [true, true, true, true, true, true, true, true, true, true, true, false, true, false, false]

theorem gaGo (p : Sp) (q : RS) (R : List At) (n : Int) (i : Nat) (hi : (i : Int) < n) (hn : n ≤ 1000) (hq : q.1.length ≤ 70000000) (hR : R.length ≤ 1000)  : CodeC Try.prog 1 63 gaB (gaS p q R n i) .normal (gaS p (txtS (txtS q)) (R ++ [(⟨txtV q, txtV (txtS q)⟩ : At)]) n (i + 1)) :=
 runS hmix [.reg 12 [(0, [], some true)], .reg 13 [(1, [.call [0] [] (Sg (txtV q)) [some (rdO (txtS q))]], none)], .reg 14 [(4, [.call [0] [] (Sg (txtV (txtS q))) [some (rdO (txtS (txtS q)))]], none), (7, [.beO ((R ++ [(⟨txtV q, txtV (txtS q)⟩ : At)]).map At.row)], none)], .reg 15 [(0, [.be (I ((i + 1 : Nat) : Int))], none)]] ⟨[0, 2, 3, 35, 36], [(0, 0), (1000, 1000), (201000, 201000), (2808000, 900)], []⟩ [⟨(by simp; omega : decide (Int.ofNat i < n) = true)⟩, ⟨cTextR q hq⟩, ⟨cTextR (txtS q) (Nat.le_trans (txtS_len q) hq)⟩, ⟨(by simp; omega : (List.length (List.map At.row R) + 1) * 32 ≤ 140737488355328)⟩, ⟨(by rw [List.map_append]; rfl : List.map At.row R ++ [[Sg (txtV q), Sg (txtV (txtS q))]] = List.map At.row (R ++ [{ key := txtV q, val := txtV (txtS q) }]))⟩, ⟨w64 (i + 1) (by omega)⟩]

theorem gaE (p : Sp) (q : RS) (R : List At) (n : Int) (i : Nat) (hi : n ≤ (i : Int))  : CodeC Try.prog 1 63 gaB (gaS p q R n i) (.exit 0) (gaS p q R n i) :=
 runS hmix [.reg 12 [(0, [], some false)]] ⟨[0, 2, 3, 35, 36], [(0, 0), (1000, 1000), (201000, 201000), (900, 900)], []⟩ [⟨(by simp; omega : decide (Int.ofNat i < n) = false)⟩]

theorem gaAll (p : Sp) (n : Int) (hn : n ≤ 1000) : ∀ (m i : Nat) (q : RS) (R : List At), (i : Int) + m = n → q.1.length ≤ 70000000 → R.length ≤ i → LoopC Try.prog 1 63 gaB (gaS p q R n i) (.exit 0) (gaS p (attsF m q R).2 (attsF m q R).1 n (i + m))
  | 0, i, q, R, h, hq, hR => LoopC.last (gaE p q R n i (by omega)) (by simp)
  | m + 1, i, q, R, h, hq, hR => by
    have ih := gaAll p n hn m (i + 1) (txtS (txtS q)) (R ++ [(⟨txtV q, txtV (txtS q)⟩ : At)]) (by omega) (Nat.le_trans (txtS_len _) (Nat.le_trans (txtS_len q) hq)) (by simp; omega)
    rw [show i + 1 + m = i + (m + 1) by omega] at ih
    exact LoopC.next (gaGo p q R n i (by omega) hn hq (by omega)) ih
theorem sa1_len (s : RS) : (sa1 s).1.length ≤ s.1.length := wideS_len s
theorem sa2_len (s : RS) : (sa2 s).1.length ≤ s.1.length := Nat.le_trans (wideS_len (sa1 s)) (sa1_len s)
theorem sa3_len (s : RS) : (sa3 s).1.length ≤ s.1.length := Nat.le_trans (wideS_len (sa2 s)) (sa2_len s)
theorem sa4_len (s : RS) : (sa4 s).1.length ≤ s.1.length := Nat.le_trans (wideS_len (sa3 s)) (sa3_len s)
theorem sa5_len (s : RS) : (sa5 s).1.length ≤ s.1.length := Nat.le_trans (txtS_len (sa4 s)) (sa4_len s)
theorem sa6_len (s : RS) : (sa6 s).1.length ≤ s.1.length := Nat.le_trans (txtS_len (sa5 s)) (sa5_len s)
theorem sa7_len (s : RS) : (sa7 s).1.length ≤ s.1.length := Nat.le_trans (numS_len _ (sa6 s)) (sa6_len s)
theorem sa8_len (s : RS) : (sa8 s).1.length ≤ s.1.length := Nat.le_trans (numS_len _ (sa7 s)) (sa7_len s)
theorem sa9_len (s : RS) : (sa9 s).1.length ≤ s.1.length := Nat.le_trans (numS_len _ (sa8 s)) (sa8_len s)
theorem sa10_len (s : RS) : (sa10 s).1.length ≤ s.1.length := Nat.le_trans (numS_len _ (sa9 s)) (sa9_len s)
theorem spg0_0 (s q : RS) (R : List At) (hs : s.1.length ≤ 70000000) (hR : R.length ≤ 1000000000) (hl : LoopC Try.prog 1 63 gaB (gaS (sgP s) (sa10 s) [] (numV 4 (sa9 s)) 0) (.exit 0) (gaS (sgP s) q R (numV 4 (sa9 s)) (numV 4 (sa9 s)).toNat)) (tq0 : (Prod.snd q) = true) : Contract Try.prog 68 [.ptr 0 0 0 0] [rdO s] (.agg [(U (Sp.hi (sgP s))), (U (Sp.lo (sgP s))), (U (Sp.id (sgP s))), (U (Sp.par (sgP s))), Sg (Sp.svc (sgP s)), Sg (Sp.op (sgP s)), I (Sp.start (sgP s)), I (Sp.dur (sgP s)), Bo (Sp.err (sgP s)), .own 1]) ([some (.box [.sl 1 (List.map bR (Prod.fst q)), Bo true]), some (.arr 2 (List.map At.row R))]) :=
 vcS hmix [.reg 2 [(1, [.call [0] [] (U (wideV s)) [some (rdO (sa1 s))]], none)], .reg 3 [(1, [.call [0] [] (U (wideV (sa1 s))) [some (rdO (sa2 s))]], none)], .reg 4 [(1, [.call [0] [] (U (wideV (sa2 s))) [some (rdO (sa3 s))]], none)], .reg 5 [(1, [.call [0] [] (U (wideV (sa3 s))) [some (rdO (sa4 s))]], none)], .reg 6 [(1, [.call [0] [] (Sg (txtV (sa4 s))) [some (rdO (sa5 s))]], none)], .reg 7 [(1, [.call [0] [] (Sg (txtV (sa5 s))) [some (rdO (sa6 s))]], none)], .reg 8 [(1, [.call [0] [] (I (numV 1099511627776 (sa6 s))) [some (rdO (sa7 s))]], none)], .reg 9 [(1, [.call [0] [] (I (numV 1073741824 (sa7 s))) [some (rdO (sa8 s))]], none)], .reg 10 [(1, [.call [0] [] (Bo (numV 1 (sa8 s) == 1)) [some (rdO (sa9 s))]], none)], .reg 11 [(1, [.call [0] [] (I (numV 4 (sa9 s))) [some (rdO (sa10 s))]], none)], .cut ⟨[0, 2, 3, 35, 36], [(0, 0), (1000, 1000), (201000, 201000)], [.cell 201000 9 900 2]⟩ (.exit 0) (gaS (sgP s) q R (numV 4 (sa9 s)) (numV 4 (sa9 s)).toNat), .reg 16 [(5, [], some true), (7, [.call [] [] (Bo (rightS { sgP s with attrs := R })) []], none)]] [900] [⟨cWideR s hs⟩, ⟨cWideR (sa1 s) (Nat.le_trans (sa1_len s) hs)⟩, ⟨cWideR (sa2 s) (Nat.le_trans (sa2_len s) hs)⟩, ⟨cWideR (sa3 s) (Nat.le_trans (sa3_len s) hs)⟩, ⟨cTextR (sa4 s) (Nat.le_trans (sa4_len s) hs)⟩, ⟨cTextR (sa5 s) (Nat.le_trans (sa5_len s) hs)⟩, ⟨(by exact cNumR _ (sa6 s) (Nat.le_trans (sa6_len s) hs) (by decide) (by decide) : Contract Try.prog 34 [.ptr 0 0 0 0, I 1099511627776] [.box [.sl 1 (List.map bR (Prod.fst (sa6 s))), Bo (Prod.snd (sa6 s))]] (I (numV 1099511627776 (sa6 s))) [some (.box [.sl 1 (List.map bR (Prod.fst (sa7 s))), Bo (Prod.snd (sa7 s))])])⟩, ⟨(by exact cNumR _ (sa7 s) (Nat.le_trans (sa7_len s) hs) (by decide) (by decide) : Contract Try.prog 34 [.ptr 0 0 0 0, I 1073741824] [.box [.sl 1 (List.map bR (Prod.fst (sa7 s))), Bo (Prod.snd (sa7 s))]] (I (numV 1073741824 (sa7 s))) [some (.box [.sl 1 (List.map bR (Prod.fst (sa8 s))), Bo (Prod.snd (sa8 s))])])⟩, ⟨cFlagR (sa8 s) (Nat.le_trans (sa8_len s) hs)⟩, ⟨(by exact cNumR _ (sa9 s) (Nat.le_trans (sa9_len s) hs) (by decide) (by decide) : Contract Try.prog 34 [.ptr 0 0 0 0, I 4] [.box [.sl 1 (List.map bR (Prod.fst (sa9 s))), Bo (Prod.snd (sa9 s))]] (I (numV 4 (sa9 s))) [some (.box [.sl 1 (List.map bR (Prod.fst (sa10 s))), Bo (Prod.snd (sa10 s))])])⟩, ⟨hl⟩, ⟨tq0⟩]

theorem spg0_1 (s q : RS) (R : List At) (hs : s.1.length ≤ 70000000) (hR : R.length ≤ 1000000000) (hl : LoopC Try.prog 1 63 gaB (gaS (sgP s) (sa10 s) [] (numV 4 (sa9 s)) 0) (.exit 0) (gaS (sgP s) q R (numV 4 (sa9 s)) (numV 4 (sa9 s)).toNat)) (tq0 : (Prod.snd q) = false) : Contract Try.prog 68 [.ptr 0 0 0 0] [rdO s] (.agg [(U (Sp.hi (sgP s))), (U (Sp.lo (sgP s))), (U (Sp.id (sgP s))), (U (Sp.par (sgP s))), Sg (Sp.svc (sgP s)), Sg (Sp.op (sgP s)), I (Sp.start (sgP s)), I (Sp.dur (sgP s)), Bo (Sp.err (sgP s)), .own 1]) ([some (.box [.sl 1 (List.map bR (Prod.fst q)), Bo !rightS { hi := Sp.hi (sgP s), lo := Sp.lo (sgP s), id := Sp.id (sgP s), par := Sp.par (sgP s), svc := Sp.svc (sgP s), op := Sp.op (sgP s), start := Sp.start (sgP s), dur := Sp.dur (sgP s), err := Sp.err (sgP s), attrs := R }]), some (.arr 2 (List.map At.row R))]) :=
 vcS hmix [.reg 2 [(1, [.call [0] [] (U (wideV s)) [some (rdO (sa1 s))]], none)], .reg 3 [(1, [.call [0] [] (U (wideV (sa1 s))) [some (rdO (sa2 s))]], none)], .reg 4 [(1, [.call [0] [] (U (wideV (sa2 s))) [some (rdO (sa3 s))]], none)], .reg 5 [(1, [.call [0] [] (U (wideV (sa3 s))) [some (rdO (sa4 s))]], none)], .reg 6 [(1, [.call [0] [] (Sg (txtV (sa4 s))) [some (rdO (sa5 s))]], none)], .reg 7 [(1, [.call [0] [] (Sg (txtV (sa5 s))) [some (rdO (sa6 s))]], none)], .reg 8 [(1, [.call [0] [] (I (numV 1099511627776 (sa6 s))) [some (rdO (sa7 s))]], none)], .reg 9 [(1, [.call [0] [] (I (numV 1073741824 (sa7 s))) [some (rdO (sa8 s))]], none)], .reg 10 [(1, [.call [0] [] (Bo (numV 1 (sa8 s) == 1)) [some (rdO (sa9 s))]], none)], .reg 11 [(1, [.call [0] [] (I (numV 4 (sa9 s))) [some (rdO (sa10 s))]], none)], .cut ⟨[0, 2, 3, 35, 36], [(0, 0), (1000, 1000), (201000, 201000)], [.cell 201000 9 900 2]⟩ (.exit 0) (gaS (sgP s) q R (numV 4 (sa9 s)) (numV 4 (sa9 s)).toNat), .reg 16 [(5, [], some false), (7, [.call [] [] (Bo (rightS { sgP s with attrs := R })) []], none)]] [900] [⟨cWideR s hs⟩, ⟨cWideR (sa1 s) (Nat.le_trans (sa1_len s) hs)⟩, ⟨cWideR (sa2 s) (Nat.le_trans (sa2_len s) hs)⟩, ⟨cWideR (sa3 s) (Nat.le_trans (sa3_len s) hs)⟩, ⟨cTextR (sa4 s) (Nat.le_trans (sa4_len s) hs)⟩, ⟨cTextR (sa5 s) (Nat.le_trans (sa5_len s) hs)⟩, ⟨(by exact cNumR _ (sa6 s) (Nat.le_trans (sa6_len s) hs) (by decide) (by decide) : Contract Try.prog 34 [.ptr 0 0 0 0, I 1099511627776] [.box [.sl 1 (List.map bR (Prod.fst (sa6 s))), Bo (Prod.snd (sa6 s))]] (I (numV 1099511627776 (sa6 s))) [some (.box [.sl 1 (List.map bR (Prod.fst (sa7 s))), Bo (Prod.snd (sa7 s))])])⟩, ⟨(by exact cNumR _ (sa7 s) (Nat.le_trans (sa7_len s) hs) (by decide) (by decide) : Contract Try.prog 34 [.ptr 0 0 0 0, I 1073741824] [.box [.sl 1 (List.map bR (Prod.fst (sa7 s))), Bo (Prod.snd (sa7 s))]] (I (numV 1073741824 (sa7 s))) [some (.box [.sl 1 (List.map bR (Prod.fst (sa8 s))), Bo (Prod.snd (sa8 s))])])⟩, ⟨cFlagR (sa8 s) (Nat.le_trans (sa8_len s) hs)⟩, ⟨(by exact cNumR _ (sa9 s) (Nat.le_trans (sa9_len s) hs) (by decide) (by decide) : Contract Try.prog 34 [.ptr 0 0 0 0, I 4] [.box [.sl 1 (List.map bR (Prod.fst (sa9 s))), Bo (Prod.snd (sa9 s))]] (I (numV 4 (sa9 s))) [some (.box [.sl 1 (List.map bR (Prod.fst (sa10 s))), Bo (Prod.snd (sa10 s))])])⟩, ⟨hl⟩, ⟨tq0⟩, ⟨cRight { sgP s with attrs := R } hR⟩, ⟨(by simp : true = true)⟩]

theorem spg0 (s q : RS) (R : List At) (hs : s.1.length ≤ 70000000) (hR : R.length ≤ 1000000000) (hl : LoopC Try.prog 1 63 gaB (gaS (sgP s) (sa10 s) [] (numV 4 (sa9 s)) 0) (.exit 0) (gaS (sgP s) q R (numV 4 (sa9 s)) (numV 4 (sa9 s)).toNat)) : Contract Try.prog 68 [.ptr 0 0 0 0] [rdO s] (.agg [U (wideV s), U (wideV (sa1 s)), U (wideV (sa2 s)), U (wideV (sa3 s)), Sg (txtV (sa4 s)), Sg (txtV (sa5 s)), I (numV 1099511627776 (sa6 s)), I (numV 1073741824 (sa7 s)), Bo (numV 1 (sa8 s) == 1), .own 1]) [some (rdO (q.1, q.2 || !rightS { sgP s with attrs := R })), some (.arr 2 (R.map At.row))] := by
  rcases tf (Prod.snd q) with tq0 | tq0
  · exact Contract.cast rfl (by simp only [rdO, tq0, cond_true, cond_false]; rfl) (spg0_0 s q R hs hR hl tq0)
  · exact Contract.cast rfl (by simp only [rdO, tq0, cond_true, cond_false]; rfl) (spg0_1 s q R hs hR hl tq0)

theorem cSpanGet (s : RS) (hs : s.1.length ≤ 70000000) : Contract Try.prog 68 [.ptr 0 0 0 0] [rdO s] (.agg [U (wideV s), U (wideV (sa1 s)), U (wideV (sa2 s)), U (wideV (sa3 s)), Sg (txtV (sa4 s)), Sg (txtV (sa5 s)), I (numV 1099511627776 (sa6 s)), I (numV 1073741824 (sa7 s)), Bo (numV 1 (sa8 s) == 1), .own 1]) [some (rdO (spanS s)), some (.arr 2 ((spanV s).attrs.map At.row))] := by
  have hb := numV_bnd (top := 4) (by decide) (sa9 s)
  have e : ∀ n : Int, 0 ≤ n → (0 : Nat) + (n.toNat : Int) = n := by intro n h; omega
  have h := gaAll (sgP s) (numV 4 (sa9 s)) (by omega) (numV 4 (sa9 s)).toNat 0 (sa10 s) [] (e _ hb.1) (Nat.le_trans (sa10_len s) hs) (by simp)
  rw [Nat.zero_add] at h
  refine spg0 s _ _ hs ?_ h
  have key : ∀ (m : Nat) (q : RS) (R : List At), (attsF m q R).1.length = R.length + m := by
    intro m
    induction m with
    | zero => intro q R; rfl
    | succ m ih => intro q R; rw [attsF, ih]; simp; omega
  rw [key]
  simp
  omega
end Go.Proofs.Ytdomjccibhgbjaa

/- an episode, read. -/
namespace Go.Proofs.Ytdomjccibhgbjaa
open E
set_option maxRecDepth 100000
set_option linter.unusedVariables false
set_option linter.unusedSimpArgs false

def se1 (s : RS) : RS := numS 1099511627776 s
def se2 (s : RS) : RS := numS 1099511627776 (se1 s)
def se3 (s : RS) : RS := numS 1 (se2 s)
def se4 (s : RS) : RS := cntS (se3 s)
def spansF : Nat → RS → List Sp → List Sp × RS
  | 0, q, R => (R, q)
  | k + 1, q, R => bif q.2 then (R, q) else spansF k (spanS q) (R ++ [spanV q])
def epG (hi lo : Int) (s : RS) : Ep := ⟨hi, lo, numV 1099511627776 s, numV 1099511627776 (se1 s), numV 1 (se2 s) == 1, []⟩
def epV (hi lo : Int) (s : RS) : Ep := { epG hi lo s with spans := (spansF (cntV (se3 s)).toNat (se4 s) []).1 }
def epQ (s : RS) : RS := (spansF (cntV (se3 s)).toNat (se4 s) []).2
def epS (hi lo : Int) (s : RS) : RS := ((epQ s).1, (epQ s).2 || !episodeB (epV hi lo s))
def gsS (e : Ep) (q : RS) (R : List Sp) (n : Int) (i : Nat) : SL := ⟨[(0, .ptr 0 0 0 0), (4, .ptr 2000 0 0 0), (5, .ptr 203000 0 0 0), (18, I n), (19, I i)], [(0, rdO q), (2000, .box [U 0, U 0, I 0, I 0, Bo false, .nil]), (203000, .box [U e.hi, U e.lo, I e.first, I e.last, Bo e.sure, .own 900]), (900, .arr 10 (R.map Sp.row))], [0, 2000, 203000, 900, 0]⟩
noncomputable def gsB : Code := codeAt Try.prog 37 [true, true, true, true, true, false, true, false, false]

theorem attsF_len : ∀ (m : Nat) (q : RS) (R : List At), (attsF m q R).1.length = R.length + m ∧ (attsF m q R).2.1.length ≤ q.1.length
  | 0, q, R => ⟨rfl, Nat.le_refl _⟩
  | m + 1, q, R => by
    have := attsF_len m (txtS (txtS q)) (R ++ [⟨txtV q, txtV (txtS q)⟩])
    have h1 := txtS_len q
    have h2 := txtS_len (txtS q)
    rw [attsF]
    simp only [List.length_append, List.length_cons, List.length_nil] at this
    omega
theorem spanV_attrs (q : RS) : (spanV q).attrs.length ≤ 4 := by
  have hb := numV_bnd (top := 4) (by decide) (sa9 q)
  have := (attsF_len (numV 4 (sa9 q)).toNat (sa10 q) []).1
  unfold spanV
  simp only [List.length_nil] at this ⊢
  omega
theorem spanS_len (q : RS) : (spanS q).1.length ≤ q.1.length := Nat.le_trans (attsF_len _ _ _).2 (sa10_len q)
theorem gsGo (e : Ep) (q : RS) (R : List Sp) (n : Int) (i : Nat) (hi : (i : Int) < n) (hb : q.2 = false) (hn : n ≤ 100000000) (hq : q.1.length ≤ 70000000) (hR : R.length ≤ 100000000)  : CodeC Try.prog 1 46 gsB (gsS e q R n i) .normal (gsS e (spanS q) (R ++ [spanV q]) n (i + 1)) :=
 runS hmix [.reg 6 [(0, [], some true)], .reg 7 [(3, [], some false)], .reg 8 [(3, [.call [0] [] (.agg [U (wideV q), U (wideV (sa1 q)), U (wideV (sa2 q)), U (wideV (sa3 q)), Sg (txtV (sa4 q)), Sg (txtV (sa5 q)), I (numV 1099511627776 (sa6 q)), I (numV 1073741824 (sa7 q)), Bo (numV 1 (sa8 q) == 1), .own 1]) [some (rdO (spanS q)), some (.arr 2 ((spanV q).attrs.map At.row))]], none), (5, [.beO ((R ++ [spanV q]).map Sp.row)], none)], .reg 9 [(0, [.be (I ((i + 1 : Nat) : Int))], none)]] ⟨[0, 4, 5, 18, 19], [(0, 0), (2000, 2000), (203000, 203000), (1606000, 900)], []⟩ [⟨(by simp; omega : decide (Int.ofNat i < n) = true)⟩, ⟨(by omega : Prod.snd q = false)⟩, ⟨cSpanGet q hq⟩, ⟨(by simp; omega : (List.length (List.map Sp.row R) + 1) * 112 ≤ 140737488355328)⟩, ⟨(by rw [List.map_append]; rfl : List.map Sp.row R ++ [[(U (wideV q)), (U (wideV (sa1 q))), (U (wideV (sa2 q))), (U (wideV (sa3 q))), Sg (txtV (sa4 q)), Sg (txtV (sa5 q)), I (numV 1099511627776 (sa6 q)), I (numV 1073741824 (sa7 q)), Bo (numV 1 (sa8 q) == 1), .sl 2 (List.map At.row (Sp.attrs (spanV q)))]] = List.map Sp.row (R ++ [spanV q]))⟩, ⟨w64 (i + 1) (by omega)⟩]

theorem gsBa (e : Ep) (q : RS) (R : List Sp) (n : Int) (i : Nat) (hi : (i : Int) < n) (hb : q.2 = true)  : CodeC Try.prog 1 46 gsB (gsS e q R n i) (.exit 0) (gsS e q R n i) :=
 runS hmix [.reg 6 [(0, [], some true)], .reg 7 [(3, [], some true)]] ⟨[0, 4, 5, 18, 19], [(0, 0), (2000, 2000), (203000, 203000), (900, 900)], []⟩ [⟨(by simp; omega : decide (Int.ofNat i < n) = true)⟩, ⟨(by omega : Prod.snd q = true)⟩]

theorem gsE (e : Ep) (q : RS) (R : List Sp) (n : Int) (i : Nat) (hi : n ≤ (i : Int))  : CodeC Try.prog 1 46 gsB (gsS e q R n i) (.exit 0) (gsS e q R n i) :=
 runS hmix [.reg 6 [(0, [], some false)]] ⟨[0, 4, 5, 18, 19], [(0, 0), (2000, 2000), (203000, 203000), (900, 900)], []⟩ [⟨(by simp; omega : decide (Int.ofNat i < n) = false)⟩]

theorem gsAll (e : Ep) (n : Int) (hn : n ≤ 100000000) : ∀ (m i : Nat) (q : RS) (R : List Sp), (i : Int) + m = n → q.1.length ≤ 70000000 → R.length ≤ i → ∃ i', LoopC Try.prog 1 46 gsB (gsS e q R n i) (.exit 0) (gsS e (spansF m q R).2 (spansF m q R).1 n i')
  | 0, i, q, R, h, hq, hR => ⟨i, LoopC.last (gsE e q R n i (by omega)) (by simp)⟩
  | m + 1, i, q, R, h, hq, hR => by
    rw [spansF]
    cases hb : q.2 with
    | true => exact ⟨i, LoopC.last (gsBa e q R n i (by omega) hb) (by simp)⟩
    | false =>
      obtain ⟨i', ih⟩ := gsAll e n hn m (i + 1) (spanS q) (R ++ [spanV q]) (by omega) (Nat.le_trans (spanS_len q) hq) (by simp; omega)
      exact ⟨i', LoopC.next (gsGo e q R n i (by omega) hb hn hq (by omega)) ih⟩
theorem spansF_len : ∀ (m : Nat) (q : RS) (R : List Sp), (spansF m q R).1.length ≤ R.length + m ∧ (spansF m q R).2.1.length ≤ q.1.length
  | 0, q, R => ⟨Nat.le_refl _, Nat.le_refl _⟩
  | m + 1, q, R => by
    have := spansF_len m (spanS q) (R ++ [spanV q])
    have h1 := spanS_len q
    rw [spansF]
    cases q.2 with
    | true => simp
    | false =>
      simp only [cond_false, List.length_append, List.length_cons, List.length_nil] at this ⊢
      omega
theorem spansF_attrs : ∀ (m : Nat) (q : RS) (R : List Sp), (∀ s ∈ R, s.attrs.length ≤ 4) → ∀ s ∈ (spansF m q R).1, s.attrs.length ≤ 4
  | 0, q, R, h => h
  | m + 1, q, R, h => by
    rw [spansF]
    cases q.2 with
    | true => exact h
    | false =>
      refine spansF_attrs m (spanS q) (R ++ [spanV q]) fun s hs => ?_
      rcases List.mem_append.1 hs with hs | hs
      · exact h s hs
      · rw [List.mem_singleton.1 hs]; exact spanV_attrs q
theorem se1_len (s : RS) : (se1 s).1.length ≤ s.1.length := numS_len _ _
theorem se2_len (s : RS) : (se2 s).1.length ≤ s.1.length := Nat.le_trans (numS_len _ _) (se1_len s)
theorem se3_len (s : RS) : (se3 s).1.length ≤ s.1.length := Nat.le_trans (numS_len _ _) (se2_len s)
theorem se4_len (s : RS) : (se4 s).1.length ≤ s.1.length := Nat.le_trans (cntS_len _) (se3_len s)
theorem epV_ok (hi lo : Int) (s : RS) : (epV hi lo s).spans.length ≤ s.1.length ∧ ∀ x ∈ (epV hi lo s).spans, x.attrs.length ≤ 4 := by
  refine ⟨?_, spansF_attrs _ _ _ (by simp)⟩
  have h1 := (spansF_len (cntV (se3 s)).toNat (se4 s) []).1
  have h2 := cntV_bnd (se3 s)
  have h3 := cntS_len (se3 s)
  have h4 := se3_len s
  unfold epV
  simp only [List.length_nil] at h1 ⊢
  omega
theorem epS_len (hi lo : Int) (s : RS) : (epS hi lo s).1.length ≤ s.1.length := Nat.le_trans (spansF_len _ _ _).2 (se4_len s)
theorem gsp0_0 (hi lo : Int) (s q : RS) (R : List Sp) (i : Nat) (hs : s.1.length ≤ 70000000) (hR : R.length ≤ 1048576) (hm : ∀ x ∈ R, x.attrs.length ≤ 1000000000) (hl : LoopC Try.prog 1 46 gsB (gsS (epG hi lo s) (se4 s) [] (cntV (se3 s)) 0) (.exit 0) (gsS (epG hi lo s) q R (cntV (se3 s)) i)) (tq0 : (Prod.snd q) = true) : Contract Try.prog 37 [.ptr 0 0 0 0, .agg [U hi, U lo]] [rdO s] (.agg [(U (Ep.hi (epG hi lo s))), (U (Ep.lo (epG hi lo s))), I (Ep.first (epG hi lo s)), I (Ep.last (epG hi lo s)), Bo (Ep.sure (epG hi lo s)), .own 1]) ([some (.box [.sl 1 (List.map bR (Prod.fst q)), Bo true]), some (.arr 10 (List.map Sp.row R))]) :=
 vcS hmix [.reg 2 [(1, [.call [0] [] (I (numV 1099511627776 s)) [some (rdO (se1 s))]], none)], .reg 3 [(1, [.call [0] [] (I (numV 1099511627776 (se1 s))) [some (rdO (se2 s))]], none)], .reg 4 [(1, [.call [0] [] (Bo (numV 1 (se2 s) == 1)) [some (rdO (se3 s))]], none)], .reg 5 [(1, [.call [0] [] (I (cntV (se3 s))) [some (rdO (se4 s))]], none)], .cut ⟨[0, 4, 5, 18, 19], [(0, 0), (2000, 2000), (203000, 203000)], [.cell 203000 5 900 10]⟩ (.exit 0) (gsS (epG hi lo s) q R (cntV (se3 s)) i), .reg 10 [(5, [], some true), (7, [.call [] [] (Bo (episodeB { epG hi lo s with spans := R })) []], none)]] [900] [⟨(by exact cNumR _ s hs (by decide) (by decide) : Contract Try.prog 34 [.ptr 0 0 0 0, I 1099511627776] [.box [.sl 1 (List.map bR (Prod.fst s)), Bo (Prod.snd s)]] (I (numV 1099511627776 s)) [some (.box [.sl 1 (List.map bR (Prod.fst (se1 s))), Bo (Prod.snd (se1 s))])])⟩, ⟨(by exact cNumR _ (se1 s) (Nat.le_trans (se1_len s) hs) (by decide) (by decide) : Contract Try.prog 34 [.ptr 0 0 0 0, I 1099511627776] [.box [.sl 1 (List.map bR (Prod.fst (se1 s))), Bo (Prod.snd (se1 s))]] (I (numV 1099511627776 (se1 s))) [some (.box [.sl 1 (List.map bR (Prod.fst (se2 s))), Bo (Prod.snd (se2 s))])])⟩, ⟨cFlagR (se2 s) (Nat.le_trans (se2_len s) hs)⟩, ⟨cCountR (se3 s) (Nat.le_trans (se3_len s) hs)⟩, ⟨hl⟩, ⟨tq0⟩]

theorem gsp0_1 (hi lo : Int) (s q : RS) (R : List Sp) (i : Nat) (hs : s.1.length ≤ 70000000) (hR : R.length ≤ 1048576) (hm : ∀ x ∈ R, x.attrs.length ≤ 1000000000) (hl : LoopC Try.prog 1 46 gsB (gsS (epG hi lo s) (se4 s) [] (cntV (se3 s)) 0) (.exit 0) (gsS (epG hi lo s) q R (cntV (se3 s)) i)) (tq0 : (Prod.snd q) = false) : Contract Try.prog 37 [.ptr 0 0 0 0, .agg [U hi, U lo]] [rdO s] (.agg [(U (Ep.hi (epG hi lo s))), (U (Ep.lo (epG hi lo s))), I (Ep.first (epG hi lo s)), I (Ep.last (epG hi lo s)), Bo (Ep.sure (epG hi lo s)), .own 1]) ([some (.box [.sl 1 (List.map bR (Prod.fst q)), Bo !episodeB { hi := Ep.hi (epG hi lo s), lo := Ep.lo (epG hi lo s), first := Ep.first (epG hi lo s), last := Ep.last (epG hi lo s), sure := Ep.sure (epG hi lo s), spans := R }]), some (.arr 10 (List.map Sp.row R))]) :=
 vcS hmix [.reg 2 [(1, [.call [0] [] (I (numV 1099511627776 s)) [some (rdO (se1 s))]], none)], .reg 3 [(1, [.call [0] [] (I (numV 1099511627776 (se1 s))) [some (rdO (se2 s))]], none)], .reg 4 [(1, [.call [0] [] (Bo (numV 1 (se2 s) == 1)) [some (rdO (se3 s))]], none)], .reg 5 [(1, [.call [0] [] (I (cntV (se3 s))) [some (rdO (se4 s))]], none)], .cut ⟨[0, 4, 5, 18, 19], [(0, 0), (2000, 2000), (203000, 203000)], [.cell 203000 5 900 10]⟩ (.exit 0) (gsS (epG hi lo s) q R (cntV (se3 s)) i), .reg 10 [(5, [], some false), (7, [.call [] [] (Bo (episodeB { epG hi lo s with spans := R })) []], none)]] [900] [⟨(by exact cNumR _ s hs (by decide) (by decide) : Contract Try.prog 34 [.ptr 0 0 0 0, I 1099511627776] [.box [.sl 1 (List.map bR (Prod.fst s)), Bo (Prod.snd s)]] (I (numV 1099511627776 s)) [some (.box [.sl 1 (List.map bR (Prod.fst (se1 s))), Bo (Prod.snd (se1 s))])])⟩, ⟨(by exact cNumR _ (se1 s) (Nat.le_trans (se1_len s) hs) (by decide) (by decide) : Contract Try.prog 34 [.ptr 0 0 0 0, I 1099511627776] [.box [.sl 1 (List.map bR (Prod.fst (se1 s))), Bo (Prod.snd (se1 s))]] (I (numV 1099511627776 (se1 s))) [some (.box [.sl 1 (List.map bR (Prod.fst (se2 s))), Bo (Prod.snd (se2 s))])])⟩, ⟨cFlagR (se2 s) (Nat.le_trans (se2_len s) hs)⟩, ⟨cCountR (se3 s) (Nat.le_trans (se3_len s) hs)⟩, ⟨hl⟩, ⟨tq0⟩, ⟨cEpisode { epG hi lo s with spans := R } hR hm⟩, ⟨(by simp : true = true)⟩]

theorem gsp0 (hi lo : Int) (s q : RS) (R : List Sp) (i : Nat) (hs : s.1.length ≤ 70000000) (hR : R.length ≤ 1048576) (hm : ∀ x ∈ R, x.attrs.length ≤ 1000000000) (hl : LoopC Try.prog 1 46 gsB (gsS (epG hi lo s) (se4 s) [] (cntV (se3 s)) 0) (.exit 0) (gsS (epG hi lo s) q R (cntV (se3 s)) i)) : Contract Try.prog 37 [.ptr 0 0 0 0, .agg [U hi, U lo]] [rdO s] (.agg [U hi, U lo, I (numV 1099511627776 (s)), I (numV 1099511627776 (se1 (s))), Bo (numV 1 (se2 (s)) == 1), .own 1]) [some (rdO (q.1, q.2 || !episodeB { epG hi lo s with spans := R })), some (.arr 10 (R.map Sp.row))] := by
  rcases tf (Prod.snd q) with tq0 | tq0
  · exact Contract.cast rfl (by simp only [rdO, tq0, cond_true, cond_false]; rfl) (gsp0_0 hi lo s q R i hs hR hm hl tq0)
  · exact Contract.cast rfl (by simp only [rdO, tq0, cond_true, cond_false]; rfl) (gsp0_1 hi lo s q R i hs hR hm hl tq0)

theorem cGetSpans (hi lo : Int) (s : RS) (hs : s.1.length ≤ 1000000) : Contract Try.prog 37 [.ptr 0 0 0 0, .agg [U hi, U lo]] [rdO s] (.agg [U hi, U lo, I (numV 1099511627776 (s)), I (numV 1099511627776 (se1 (s))), Bo (numV 1 (se2 (s)) == 1), .own 1]) [some (rdO (epS hi lo s)), some (.arr 10 ((epV hi lo s).spans.map Sp.row))] := by
  have h2 := cntV_bnd (se3 s)
  have h3 := cntS_len (se3 s)
  have h4 := se3_len s
  have e : ∀ n : Int, 0 ≤ n → (0 : Nat) + (n.toNat : Int) = n := by intro n h; omega
  obtain ⟨i, hl⟩ := gsAll (epG hi lo s) (cntV (se3 s)) (by omega) (cntV (se3 s)).toNat 0 (se4 s) [] (e _ h2.1) (by have := se4_len s; omega) (by simp)
  obtain ⟨k1, k2⟩ := epV_ok hi lo s
  exact gsp0 hi lo s _ _ i (by omega) (Nat.le_trans k1 (by omega)) (fun x hx => Nat.le_trans (k2 x hx) (by omega)) hl
end Go.Proofs.Ytdomjccibhgbjaa

/- an index, read. -/
namespace Go.Proofs.Ytdomjccibhgbjaa
open E
set_option maxRecDepth 100000
set_option linter.unusedVariables false
set_option linter.unusedSimpArgs false

/-- An entry of an index. -/
structure En where
  hi : Int
  lo : Int
  n : Int
def En.row (x : En) : List V := [U x.hi, U x.lo, I x.n]
def entV (q : RS) : En := ⟨wideV q, wideV (wideS q), cntV (wideS (wideS q))⟩
def entS (q : RS) : RS := cntS (wideS (wideS q))
def enF : Nat → RS → List En → List En × RS
  | 0, q, R => (R, q)
  | k + 1, q, R => bif q.2 then (R, q) else enF k (entS q) (R ++ [entV q])
def enV (s : RS) : List En := (enF (cntV s).toNat (cntS s) []).1
def enS (s : RS) : RS := (enF (cntV s).toNat (cntS s) []).2
def dxS (q : RS) (R : List En) (n : Int) (i : Nat) : SL := ⟨[(0, .ptr 0 0 0 0), (3, .own 900), (6, I n), (7, I i)], [(0, rdO q), (900, .arr 3 (R.map En.row))], [0, 900, 0]⟩
noncomputable def dxB : Code := codeAt Try.prog 35 [true, true, false, true, false, false]

theorem dxGo (q : RS) (R : List En) (n : Int) (i : Nat) (hi : (i : Int) < n) (hb : q.2 = false) (hn : n ≤ 100000000) (hq : q.1.length ≤ 70000000) (hR : R.length ≤ 100000000)  : CodeC Try.prog 1 30 dxB (dxS q R n i) .normal (dxS (entS q) (R ++ [entV q]) n (i + 1)) :=
 runS hmix [.reg 3 [(0, [], some true)], .reg 4 [(3, [], some false)], .reg 6 [(1, [.call [0] [] (U (wideV q)) [some (rdO (wideS q))]], none)], .reg 7 [(1, [.call [0] [] (U (wideV (wideS q))) [some (rdO (wideS (wideS q)))]], none)], .reg 8 [(1, [.call [0] [] (I (cntV (wideS (wideS q)))) [some (rdO (entS q))]], none)], .reg 9 [(3, [.beO ((R ++ [entV q]).map En.row)], none)], .reg 10 [(0, [.be (I ((i + 1 : Nat) : Int))], none)]] ⟨[0, 3, 6, 7], [(0, 0), (1804000, 900)], []⟩ [⟨(by simp; omega : decide (Int.ofNat i < n) = true)⟩, ⟨(by omega : Prod.snd q = false)⟩, ⟨cWideR q hq⟩, ⟨cWideR (wideS q) (Nat.le_trans (wideS_len q) hq)⟩, ⟨cCountR (wideS (wideS q)) (Nat.le_trans (wideS_len _) (Nat.le_trans (wideS_len q) hq))⟩, ⟨(by simp; omega : (List.length (List.map En.row R) + 1) * 24 ≤ 140737488355328)⟩, ⟨(by rw [List.map_append]; rfl : List.map En.row R ++ [[(U (wideV q)), (U (wideV (wideS q))), I (cntV (wideS (wideS q)))]] = List.map En.row (R ++ [entV q]))⟩, ⟨w64 (i + 1) (by omega)⟩]

theorem dxBa (q : RS) (R : List En) (n : Int) (i : Nat) (hi : (i : Int) < n) (hb : q.2 = true)  : CodeC Try.prog 1 30 dxB (dxS q R n i) (.exit 0) (dxS q R n i) :=
 runS hmix [.reg 3 [(0, [], some true)], .reg 4 [(3, [], some true)]] ⟨[0, 3, 6, 7], [(0, 0), (900, 900)], []⟩ [⟨(by simp; omega : decide (Int.ofNat i < n) = true)⟩, ⟨(by omega : Prod.snd q = true)⟩]

theorem dxE (q : RS) (R : List En) (n : Int) (i : Nat) (hi : n ≤ (i : Int))  : CodeC Try.prog 1 30 dxB (dxS q R n i) (.exit 0) (dxS q R n i) :=
 runS hmix [.reg 3 [(0, [], some false)]] ⟨[0, 3, 6, 7], [(0, 0), (900, 900)], []⟩ [⟨(by simp; omega : decide (Int.ofNat i < n) = false)⟩]

theorem entS_len (q : RS) : (entS q).1.length ≤ q.1.length := Nat.le_trans (cntS_len _) (Nat.le_trans (wideS_len _) (wideS_len q))
theorem dxAll (n : Int) (hn : n ≤ 100000000) : ∀ (m i : Nat) (q : RS) (R : List En), (i : Int) + m = n → q.1.length ≤ 70000000 → R.length ≤ i → ∃ i', LoopC Try.prog 1 30 dxB (dxS q R n i) (.exit 0) (dxS (enF m q R).2 (enF m q R).1 n i')
  | 0, i, q, R, h, hq, hR => ⟨i, LoopC.last (dxE q R n i (by omega)) (by simp)⟩
  | m + 1, i, q, R, h, hq, hR => by
    rw [enF]
    cases hb : q.2 with
    | true => exact ⟨i, LoopC.last (dxBa q R n i (by omega) hb) (by simp)⟩
    | false =>
      obtain ⟨i', ih⟩ := dxAll n hn m (i + 1) (entS q) (R ++ [entV q]) (by omega) (Nat.le_trans (entS_len q) hq) (by simp; omega)
      exact ⟨i', LoopC.next (dxGo q R n i (by omega) hb hn hq (by omega)) ih⟩
theorem enF_len : ∀ (m : Nat) (q : RS) (R : List En), (enF m q R).1.length ≤ R.length + m ∧ (enF m q R).2.1.length ≤ q.1.length
  | 0, q, R => ⟨Nat.le_refl _, Nat.le_refl _⟩
  | m + 1, q, R => by
    have := enF_len m (entS q) (R ++ [entV q])
    have h1 := entS_len q
    rw [enF]
    cases q.2 with
    | true => simp
    | false =>
      simp only [cond_false, List.length_append, List.length_cons, List.length_nil] at this ⊢
      omega
theorem enF_n : ∀ (m : Nat) (q : RS) (R : List En), (∀ x ∈ R, 0 ≤ x.n) → ∀ x ∈ (enF m q R).1, 0 ≤ x.n
  | 0, q, R, h => h
  | m + 1, q, R, h => by
    rw [enF]
    cases q.2 with
    | true => exact h
    | false =>
      refine enF_n m (entS q) (R ++ [entV q]) fun x hx => ?_
      rcases List.mem_append.1 hx with hx | hx
      · exact h x hx
      · rw [List.mem_singleton.1 hx]; exact (cntV_bnd _).1
theorem enV_len (s : RS) : (enV s).length ≤ s.1.length := by
  have h1 := (enF_len (cntV s).toNat (cntS s) []).1
  have h2 := cntV_bnd s
  have h3 := cntS_len s
  unfold enV
  simp only [List.length_nil] at h1
  omega
theorem enS_len (s : RS) : (enS s).1.length ≤ s.1.length := Nat.le_trans (enF_len _ _ _).2 (cntS_len s)
theorem dx0 (s q : RS) (R : List En) (i : Nat) (hs : s.1.length ≤ 70000000) (hl : LoopC Try.prog 1 30 dxB (dxS (cntS s) [] (cntV s) 0) (.exit 0) (dxS q R (cntV s) i)) : Contract Try.prog 35 [.ptr 0 0 0 0] [rdO s] (.sl 3 (R.map En.row)) [some (rdO q)] :=
 vcS hmix [.reg 2 [(1, [.call [0] [] (I (cntV s)) [some (rdO (cntS s))]], none)], .cut ⟨[0, 3, 6, 7], [(0, 0)], [.slot 3 900 3]⟩ (.exit 0) (dxS q R (cntV s) i), .reg 11 [(1, [.idx 1], none)]] [] [⟨cCountR s hs⟩, ⟨hl⟩]

theorem cIndex (s : RS) (hs : s.1.length ≤ 70000000) : Contract Try.prog 35 [.ptr 0 0 0 0] [rdO s] (.sl 3 ((enV s).map En.row)) [some (rdO (enS s))] := by
  have h2 := cntV_bnd s
  have h3 := cntS_len s
  have e : ∀ n : Int, 0 ≤ n → (0 : Nat) + (n.toNat : Int) = n := by intro n h; omega
  obtain ⟨i, hl⟩ := dxAll (cntV s) (by omega) (cntV s).toNat 0 (cntS s) [] (e _ h2.1) (by omega) (by simp)
  exact dx0 s _ _ i hs hl
end Go.Proofs.Ytdomjccibhgbjaa

/- a block, read. -/
namespace Go.Proofs.Ytdomjccibhgbjaa
open E
set_option maxRecDepth 100000
set_option linter.unusedVariables false
set_option linter.unusedSimpArgs false

/-- What is behind an episode that an index names. -/
def bodS (x : En) (q : RS) : RS := ((takeS x.n q).1, (takeS x.n q).2 || (epS x.hi x.lo (takeV x.n q, false)).2 || decide (0 < (epS x.hi x.lo (takeV x.n q, false)).1.length))
def epsF : List En → RS → List Ep → List Ep × RS
  | [], q, R => (R, q)
  | x :: l, q, R => epsF l (bodS x q) (R ++ [epV x.hi x.lo (takeV x.n q, false)])
def rdN1 (s : RS) : RS := numS 1099511627776 s
def rdN2 (s : RS) : RS := numS 1099511627776 (rdN1 s)
def rdN3 (s : RS) : RS := numS 1099511627776 (rdN2 s)
def blkV (s : RS) : Bk := ⟨numV 1099511627776 s, numV 1099511627776 (rdN1 s), numV 1099511627776 (rdN2 s), (epsF (enV (rdN3 s)) (enS (rdN3 s)) []).1⟩
def blkQ (s : RS) : RS := (epsF (enV (rdN3 s)) (enS (rdN3 s)) []).2
def readOk (s : RS) : Bool := !(blkQ s).2 && !decide (0 < (blkQ s).1.length) && rightM (blkV s)
def brS (a b c : Int) (q : RS) (X : List En) (R : List Ep) (i : Nat) : SL := ⟨[(2, .ptr 1000 0 0 0), (5, .ptr 803000 0 0 0), (6, .ptr 1001000 0 0 0), (31, .sl 3 (X.map En.row)), (32, I (X.length : Int)), (33, I (i : Int))], [(1000, .box [I 0, I 0, I 0, .nil]), (803000, rdO q), (1001000, .box [I a, I b, I c, .own 900]), (900, .arr 6 (R.map Ep.row))], [1000, 803000, 1001000, 900]⟩
noncomputable def brB : Code := codeAt Try.prog 11 [true, true, true, true, true, true, true, true, false, true, false, false]

theorem brGo_0 (a b c : Int) (q : RS) (X : List En) (R : List Ep) (x : En) (i : Nat) (hx : X[i]? = some x) (hi : i < X.length) (hX : X.length ≤ 100000000) (h0 : 0 ≤ x.n) (hq : q.1.length ≤ 1000000) (hR : R.length ≤ 100000000) (tq0 : (Prod.snd (takeS (En.n x) q)) = true) : CodeC Try.prog 0 93 brB (brS a b c q X R i) .normal (⟨[(2, .ptr 1000 0 0 0), (5, .ptr 803000 0 0 0), (6, .ptr 1001000 0 0 0), (31, .sl 3 (List.map En.row X)), (32, I (Int.ofNat (List.length X))), (33, I (Int.ofNat (i + 1)))], [(1000, .box [I 0, I 0, I 0, .nil]), (803000, .box [.sl 1 (List.map bR (Prod.fst (takeS (En.n x) q))), Bo true]), (1001000, .box [I a, I b, I c, .own 900]), (900, .arr 6 (List.map Ep.row (R ++ [epV (En.hi x) (En.lo x) (takeV (En.n x) q, false)])))], [1000, 803000, 1001000, 900]⟩) :=
 runS hmix [.reg 10 [(0, [], some true)], .reg 11 [(1, [.row (En.row x)], none)], .reg 12 [(3, [.call [803000] [] (.sl 1 ((takeV x.n q).map bR)) [some (rdO (takeS x.n q))]], none)], .reg 13 [(5, [.call [2406000] [] (.agg [U x.hi, U x.lo, I (numV 1099511627776 ((takeV x.n q, false))), I (numV 1099511627776 (se1 ((takeV x.n q, false)))), Bo (numV 1 (se2 ((takeV x.n q, false))) == 1), .own 1]) [some (rdO (epS x.hi x.lo (takeV x.n q, false))), some (.arr 10 ((epV x.hi x.lo (takeV x.n q, false)).spans.map Sp.row))]], none), (7, [.beO ((R ++ [epV x.hi x.lo (takeV x.n q, false)]).map Ep.row)], none)], .reg 14 [(5, [], some true), (16, [.be (I ((epS x.hi x.lo (takeV x.n q, false)).1.length : Int))], none)], .reg 15 [(0, [.be (I ((i + 1 : Nat) : Int))], none)]] ⟨[2, 5, 6, 31, 32, 33], [(1000, 1000), (803000, 803000), (1001000, 1001000), (2608000, 900)], []⟩ [⟨dlt hi⟩, ⟨nn i⟩, ⟨ltm En.row hi⟩, ⟨(by simp [hx] : (List.map En.row X)[Int.toNat (Int.ofNat i)]? = some (En.row x))⟩, ⟨cTakeR x.n q (by omega) h0⟩, ⟨cGetSpans x.hi x.lo (takeV x.n q, false) (Nat.le_trans (takeV_len _ _) hq)⟩, ⟨(by simp; omega : (List.length (List.map Ep.row R) + 1) * 64 ≤ 140737488355328)⟩, ⟨(by rw [List.map_append]; rfl : List.map Ep.row R ++ [[(U (En.hi x)), (U (En.lo x)), I (numV 1099511627776 (takeV (En.n x) q, false)), I (numV 1099511627776 (se1 (takeV (En.n x) q, false))), Bo (numV 1 (se2 (takeV (En.n x) q, false)) == 1), .sl 10 (List.map Sp.row (Ep.spans (epV (En.hi x) (En.lo x) (takeV (En.n x) q, false))))]] = List.map Ep.row (R ++ [epV (En.hi x) (En.lo x) (takeV (En.n x) q, false)]))⟩, ⟨tq0⟩, ⟨w64 (i + 1) (by omega)⟩]

theorem brGo_1 (a b c : Int) (q : RS) (X : List En) (R : List Ep) (x : En) (i : Nat) (hx : X[i]? = some x) (hi : i < X.length) (hX : X.length ≤ 100000000) (h0 : 0 ≤ x.n) (hq : q.1.length ≤ 1000000) (hR : R.length ≤ 100000000) (tq0 : (Prod.snd (takeS (En.n x) q)) = false) (tq1 : (Prod.snd (epS (En.hi x) (En.lo x) (takeV (En.n x) q, false))) = true) : CodeC Try.prog 0 93 brB (brS a b c q X R i) .normal (⟨[(2, .ptr 1000 0 0 0), (5, .ptr 803000 0 0 0), (6, .ptr 1001000 0 0 0), (31, .sl 3 (List.map En.row X)), (32, I (Int.ofNat (List.length X))), (33, I (Int.ofNat (i + 1)))], [(1000, .box [I 0, I 0, I 0, .nil]), (803000, .box [.sl 1 (List.map bR (Prod.fst (takeS (En.n x) q))), Bo true]), (1001000, .box [I a, I b, I c, .own 900]), (900, .arr 6 (List.map Ep.row (R ++ [epV (En.hi x) (En.lo x) (takeV (En.n x) q, false)])))], [1000, 803000, 1001000, 900]⟩) :=
 runS hmix [.reg 10 [(0, [], some true)], .reg 11 [(1, [.row (En.row x)], none)], .reg 12 [(3, [.call [803000] [] (.sl 1 ((takeV x.n q).map bR)) [some (rdO (takeS x.n q))]], none)], .reg 13 [(5, [.call [2406000] [] (.agg [U x.hi, U x.lo, I (numV 1099511627776 ((takeV x.n q, false))), I (numV 1099511627776 (se1 ((takeV x.n q, false)))), Bo (numV 1 (se2 ((takeV x.n q, false))) == 1), .own 1]) [some (rdO (epS x.hi x.lo (takeV x.n q, false))), some (.arr 10 ((epV x.hi x.lo (takeV x.n q, false)).spans.map Sp.row))]], none), (7, [.beO ((R ++ [epV x.hi x.lo (takeV x.n q, false)]).map Ep.row)], none)], .reg 14 [(5, [], some false), (11, [], some true), (16, [.be (I ((epS x.hi x.lo (takeV x.n q, false)).1.length : Int))], none)], .reg 15 [(0, [.be (I ((i + 1 : Nat) : Int))], none)]] ⟨[2, 5, 6, 31, 32, 33], [(1000, 1000), (803000, 803000), (1001000, 1001000), (2608000, 900)], []⟩ [⟨dlt hi⟩, ⟨nn i⟩, ⟨ltm En.row hi⟩, ⟨(by simp [hx] : (List.map En.row X)[Int.toNat (Int.ofNat i)]? = some (En.row x))⟩, ⟨cTakeR x.n q (by omega) h0⟩, ⟨cGetSpans x.hi x.lo (takeV x.n q, false) (Nat.le_trans (takeV_len _ _) hq)⟩, ⟨(by simp; omega : (List.length (List.map Ep.row R) + 1) * 64 ≤ 140737488355328)⟩, ⟨(by rw [List.map_append]; rfl : List.map Ep.row R ++ [[(U (En.hi x)), (U (En.lo x)), I (numV 1099511627776 (takeV (En.n x) q, false)), I (numV 1099511627776 (se1 (takeV (En.n x) q, false))), Bo (numV 1 (se2 (takeV (En.n x) q, false)) == 1), .sl 10 (List.map Sp.row (Ep.spans (epV (En.hi x) (En.lo x) (takeV (En.n x) q, false))))]] = List.map Ep.row (R ++ [epV (En.hi x) (En.lo x) (takeV (En.n x) q, false)]))⟩, ⟨tq0⟩, ⟨tq1⟩, ⟨w64 (i + 1) (by omega)⟩]

theorem brGo_2 (a b c : Int) (q : RS) (X : List En) (R : List Ep) (x : En) (i : Nat) (hx : X[i]? = some x) (hi : i < X.length) (hX : X.length ≤ 100000000) (h0 : 0 ≤ x.n) (hq : q.1.length ≤ 1000000) (hR : R.length ≤ 100000000) (tq0 : (Prod.snd (takeS (En.n x) q)) = false) (tq1 : (Prod.snd (epS (En.hi x) (En.lo x) (takeV (En.n x) q, false))) = false) : CodeC Try.prog 0 93 brB (brS a b c q X R i) .normal (⟨[(2, .ptr 1000 0 0 0), (5, .ptr 803000 0 0 0), (6, .ptr 1001000 0 0 0), (31, .sl 3 (List.map En.row X)), (32, I (Int.ofNat (List.length X))), (33, I (Int.ofNat (i + 1)))], [(1000, .box [I 0, I 0, I 0, .nil]), (803000, .box [.sl 1 (List.map bR (Prod.fst (takeS (En.n x) q))), Bo (decide (Int.ofNat (List.length (Prod.fst (epS (En.hi x) (En.lo x) (takeV (En.n x) q, false)))) > 0))]), (1001000, .box [I a, I b, I c, .own 900]), (900, .arr 6 (List.map Ep.row (R ++ [epV (En.hi x) (En.lo x) (takeV (En.n x) q, false)])))], [1000, 803000, 1001000, 900]⟩) :=
 runS hmix [.reg 10 [(0, [], some true)], .reg 11 [(1, [.row (En.row x)], none)], .reg 12 [(3, [.call [803000] [] (.sl 1 ((takeV x.n q).map bR)) [some (rdO (takeS x.n q))]], none)], .reg 13 [(5, [.call [2406000] [] (.agg [U x.hi, U x.lo, I (numV 1099511627776 ((takeV x.n q, false))), I (numV 1099511627776 (se1 ((takeV x.n q, false)))), Bo (numV 1 (se2 ((takeV x.n q, false))) == 1), .own 1]) [some (rdO (epS x.hi x.lo (takeV x.n q, false))), some (.arr 10 ((epV x.hi x.lo (takeV x.n q, false)).spans.map Sp.row))]], none), (7, [.beO ((R ++ [epV x.hi x.lo (takeV x.n q, false)]).map Ep.row)], none)], .reg 14 [(5, [], some false), (11, [], some false), (16, [.be (I ((epS x.hi x.lo (takeV x.n q, false)).1.length : Int))], none)], .reg 15 [(0, [.be (I ((i + 1 : Nat) : Int))], none)]] ⟨[2, 5, 6, 31, 32, 33], [(1000, 1000), (803000, 803000), (1001000, 1001000), (2608000, 900)], []⟩ [⟨dlt hi⟩, ⟨nn i⟩, ⟨ltm En.row hi⟩, ⟨(by simp [hx] : (List.map En.row X)[Int.toNat (Int.ofNat i)]? = some (En.row x))⟩, ⟨cTakeR x.n q (by omega) h0⟩, ⟨cGetSpans x.hi x.lo (takeV x.n q, false) (Nat.le_trans (takeV_len _ _) hq)⟩, ⟨(by simp; omega : (List.length (List.map Ep.row R) + 1) * 64 ≤ 140737488355328)⟩, ⟨(by rw [List.map_append]; rfl : List.map Ep.row R ++ [[(U (En.hi x)), (U (En.lo x)), I (numV 1099511627776 (takeV (En.n x) q, false)), I (numV 1099511627776 (se1 (takeV (En.n x) q, false))), Bo (numV 1 (se2 (takeV (En.n x) q, false)) == 1), .sl 10 (List.map Sp.row (Ep.spans (epV (En.hi x) (En.lo x) (takeV (En.n x) q, false))))]] = List.map Ep.row (R ++ [epV (En.hi x) (En.lo x) (takeV (En.n x) q, false)]))⟩, ⟨tq0⟩, ⟨tq1⟩, ⟨(by simp [hx] : Int.ofNat (List.length (List.map bR (Prod.fst (epS (En.hi x) (En.lo x) (takeV (En.n x) q, false))))) = Int.ofNat (List.length (Prod.fst (epS (En.hi x) (En.lo x) (takeV (En.n x) q, false)))))⟩, ⟨w64 (i + 1) (by omega)⟩]

theorem brGo (a b c : Int) (q : RS) (X : List En) (R : List Ep) (x : En) (i : Nat) (hx : X[i]? = some x) (hi : i < X.length) (hX : X.length ≤ 100000000) (h0 : 0 ≤ x.n) (hq : q.1.length ≤ 1000000) (hR : R.length ≤ 100000000)  : CodeC Try.prog 0 93 brB (brS a b c q X R i) .normal (brS a b c (bodS x q) X (R ++ [epV x.hi x.lo (takeV x.n q, false)]) (i + 1)) := by
  rcases tf (Prod.snd (takeS (En.n x) q)) with tq0 | tq0
  · exact CodeC.cast (by simp only [bodS, brS, rdO, tq0, cond_true, cond_false]; rfl) (brGo_0 a b c q X R x i hx hi hX h0 hq hR tq0)
  · rcases tf (Prod.snd (epS (En.hi x) (En.lo x) (takeV (En.n x) q, false))) with tq1 | tq1
    · exact CodeC.cast (by simp only [bodS, brS, rdO, tq0, tq1, cond_true, cond_false]; rfl) (brGo_1 a b c q X R x i hx hi hX h0 hq hR tq0 tq1)
    · exact CodeC.cast (by simp [bodS, brS, rdO, tq0, tq1]) (brGo_2 a b c q X R x i hx hi hX h0 hq hR tq0 tq1)

theorem brE (a b c : Int) (q : RS) (X : List En) (R : List Ep) (i : Nat) (h : X.length ≤ i)  : CodeC Try.prog 0 93 brB (brS a b c q X R i) (.exit 0) (brS a b c q X R i) :=
 runS hmix [.reg 10 [(0, [], some false)]] ⟨[2, 5, 6, 31, 32, 33], [(1000, 1000), (803000, 803000), (1001000, 1001000), (900, 900)], []⟩ [⟨dge h⟩]

theorem bodS_len (x : En) (q : RS) : (bodS x q).1.length ≤ q.1.length := takeS_len _ _
theorem brAll (a b c : Int) (X : List En) (hX : X.length ≤ 100000000) (h0 : ∀ x ∈ X, 0 ≤ x.n) : ∀ (m i : Nat) (q : RS) (R : List Ep), i + m = X.length → q.1.length ≤ 1000000 → R.length ≤ i → LoopC Try.prog 0 93 brB (brS a b c q X R i) (.exit 0) (brS a b c (epsF (X.drop i) q R).2 X (epsF (X.drop i) q R).1 X.length)
  | 0, i, q, R, h, hq, hR => by
    have : i = X.length := by omega
    subst this
    rw [List.drop_length]
    exact LoopC.last (brE a b c q X R _ (Nat.le_refl _)) (by simp)
  | m + 1, i, q, R, h, hq, hR => by
    have hi : i < X.length := by omega
    have ih := brAll a b c X hX h0 m (i + 1) (bodS X[i] q) (R ++ [epV X[i].hi X[i].lo (takeV X[i].n q, false)]) (by omega) (Nat.le_trans (bodS_len _ _) hq) (by simp; omega)
    rw [List.drop_eq_getElem_cons hi, epsF]
    exact LoopC.next (brGo a b c q X R X[i] i (List.getElem?_eq_getElem hi) hi hX (h0 _ (List.getElem_mem hi)) hq (by omega)) ih
theorem epsF_ok (B : Nat) : ∀ (l : List En) (q : RS) (R : List Ep), q.1.length ≤ B → (∀ e ∈ R, e.spans.length ≤ B ∧ ∀ s ∈ e.spans, s.attrs.length ≤ 4) → (epsF l q R).1.length = R.length + l.length ∧ ∀ e ∈ (epsF l q R).1, e.spans.length ≤ B ∧ ∀ s ∈ e.spans, s.attrs.length ≤ 4
  | [], q, R, hq, h => ⟨rfl, h⟩
  | x :: l, q, R, hq, h => by
    rw [epsF]
    have := epsF_ok B l (bodS x q) (R ++ [epV x.hi x.lo (takeV x.n q, false)]) (Nat.le_trans (bodS_len _ _) hq) (fun e he => by
      rcases List.mem_append.1 he with he | he
      · exact h e he
      · rw [List.mem_singleton.1 he]
        have k := epV_ok x.hi x.lo (takeV x.n q, false)
        exact ⟨Nat.le_trans k.1 (Nat.le_trans (takeV_len _ _) hq), k.2⟩)
    simp only [List.length_append, List.length_cons, List.length_nil] at this ⊢
    exact ⟨by omega, this.2⟩
theorem readN (l : List UInt8) (hs : l.length ≤ 1000000) (ho : openOk l = false) : Contract Try.prog 11 [.sl 1 (l.map bR)] [] (.tup [.agg [I 0, I 0, I 0, .sl 6 []], I 2]) [] :=
 vcS hmix [.reg 1 [(1, [.call [] [] (.tup [.sl 1 ((l.take (l.length - 4)).map bR), Bo (openOk l)]) []], none)], .reg 2 [(1, [], some true)]] [] [⟨cOpen l (by omega)⟩, ⟨(by simp [ho] : (!openOk l) = true)⟩]

theorem readY_0 (l : List UInt8) (s q : RS) (R : List Ep) (hl0 : l.length ≤ 1000000) (ho : openOk l = true) (hs2 : s = (l.take (l.length - 4), false)) (hs : s.1.length ≤ 1000000) (hR : R.length ≤ 1000000000) (hm : ∀ e ∈ R, e.spans.length ≤ 1048576 ∧ ∀ s ∈ e.spans, s.attrs.length ≤ 1000000000) (hl : LoopC Try.prog 0 93 brB (brS (numV 1099511627776 s) (numV 1099511627776 (rdN1 s)) (numV 1099511627776 (rdN2 s)) (enS (rdN3 s)) (enV (rdN3 s)) [] 0) (.exit 0) (brS (numV 1099511627776 s) (numV 1099511627776 (rdN1 s)) (numV 1099511627776 (rdN2 s)) q (enV (rdN3 s)) R (enV (rdN3 s)).length)) (tq0 : (Prod.snd q) = true) : Contract Try.prog 11 [.sl 1 (l.map bR)] [] (.tup [.agg [I 0, I 0, I 0, .sl 6 []], I 2]) ([]) :=
 vcS hmix [.reg 1 [(1, [.call [] [] (.tup [.sl 1 ((l.take (l.length - 4)).map bR), Bo (openOk l)]) []], none), (5, [.be (.sl 1 (s.1.map bR))], none)], .reg 2 [(1, [], some false)], .reg 6 [(1, [.call [803000] [] (I (numV 1099511627776 s)) [some (rdO (rdN1 s))]], none)], .reg 7 [(1, [.call [803000] [] (I (numV 1099511627776 (rdN1 s))) [some (rdO (rdN2 s))]], none)], .reg 8 [(1, [.call [803000] [] (I (numV 1099511627776 (rdN2 s))) [some (rdO (rdN3 s))]], none)], .reg 9 [(1, [.call [803000] [] (.sl 3 ((enV (rdN3 s)).map En.row)) [some (rdO (enS (rdN3 s)))]], none), (2, [.be (I ((enV (rdN3 s)).length : Int))], none)], .cut ⟨[2, 5, 6, 31, 32, 33], [(1000, 1000), (803000, 803000), (1001000, 1001000)], [.cell 1001000 3 900 6]⟩ (.exit 0) (brS (numV 1099511627776 s) (numV 1099511627776 (rdN1 s)) (numV 1099511627776 (rdN2 s)) q (enV (rdN3 s)) R (enV (rdN3 s)).length), .reg 16 [(4, [], some true), (9, [.be (I (q.1.length : Int))], none), (14, [.call [] [] (Bo (rightM ⟨numV 1099511627776 s, numV 1099511627776 (rdN1 s), numV 1099511627776 (rdN2 s), R⟩)) []], none)]] [] [⟨cOpen l (by omega)⟩, ⟨(by rw [hs2] : List.map bR (List.take (List.length l - 4) l) = List.map bR (Prod.fst s))⟩, ⟨(by simp [ho] : (!openOk l) = false)⟩, ⟨(by have w := cNumR 1099511627776 s (by omega) (by decide) (by decide); unfold rdO at w; rw [show s.2 = false by rw [hs2]] at w; exact w : Contract Try.prog 34 [.ptr 0 0 0 0, I 1099511627776] [.box [.sl 1 (List.map bR (Prod.fst s)), Bo false]] (I (numV 1099511627776 s)) [some (.box [.sl 1 (List.map bR (Prod.fst (rdN1 s))), Bo (Prod.snd (rdN1 s))])])⟩, ⟨(by exact cNumR _ (rdN1 s) (Nat.le_trans (numS_len _ _) (by omega)) (by decide) (by decide) : Contract Try.prog 34 [.ptr 0 0 0 0, I 1099511627776] [.box [.sl 1 (List.map bR (Prod.fst (rdN1 s))), Bo (Prod.snd (rdN1 s))]] (I (numV 1099511627776 (rdN1 s))) [some (.box [.sl 1 (List.map bR (Prod.fst (rdN2 s))), Bo (Prod.snd (rdN2 s))])])⟩, ⟨(by exact cNumR _ (rdN2 s) (Nat.le_trans (numS_len _ _) (Nat.le_trans (numS_len _ _) (by omega))) (by decide) (by decide) : Contract Try.prog 34 [.ptr 0 0 0 0, I 1099511627776] [.box [.sl 1 (List.map bR (Prod.fst (rdN2 s))), Bo (Prod.snd (rdN2 s))]] (I (numV 1099511627776 (rdN2 s))) [some (.box [.sl 1 (List.map bR (Prod.fst (rdN3 s))), Bo (Prod.snd (rdN3 s))])])⟩, ⟨cIndex (rdN3 s) (Nat.le_trans (numS_len _ _) (Nat.le_trans (numS_len _ _) (Nat.le_trans (numS_len _ _) (by omega))))⟩, ⟨(by simp [ho] : Int.ofNat (List.length (List.map En.row (enV (rdN3 s)))) = Int.ofNat (List.length (enV (rdN3 s))))⟩, ⟨hl⟩, ⟨tq0⟩]

theorem readY_1 (l : List UInt8) (s q : RS) (R : List Ep) (hl0 : l.length ≤ 1000000) (ho : openOk l = true) (hs2 : s = (l.take (l.length - 4), false)) (hs : s.1.length ≤ 1000000) (hR : R.length ≤ 1000000000) (hm : ∀ e ∈ R, e.spans.length ≤ 1048576 ∧ ∀ s ∈ e.spans, s.attrs.length ≤ 1000000000) (hl : LoopC Try.prog 0 93 brB (brS (numV 1099511627776 s) (numV 1099511627776 (rdN1 s)) (numV 1099511627776 (rdN2 s)) (enS (rdN3 s)) (enV (rdN3 s)) [] 0) (.exit 0) (brS (numV 1099511627776 s) (numV 1099511627776 (rdN1 s)) (numV 1099511627776 (rdN2 s)) q (enV (rdN3 s)) R (enV (rdN3 s)).length)) (tq0 : (Prod.snd q) = false) (tq1 : (decide (Int.ofNat (List.length (Prod.fst q)) > (0 : Int))) = true) : Contract Try.prog 11 [.sl 1 (l.map bR)] [] (.tup [.agg [I 0, I 0, I 0, .sl 6 []], I 2]) ([]) :=
 vcS hmix [.reg 1 [(1, [.call [] [] (.tup [.sl 1 ((l.take (l.length - 4)).map bR), Bo (openOk l)]) []], none), (5, [.be (.sl 1 (s.1.map bR))], none)], .reg 2 [(1, [], some false)], .reg 6 [(1, [.call [803000] [] (I (numV 1099511627776 s)) [some (rdO (rdN1 s))]], none)], .reg 7 [(1, [.call [803000] [] (I (numV 1099511627776 (rdN1 s))) [some (rdO (rdN2 s))]], none)], .reg 8 [(1, [.call [803000] [] (I (numV 1099511627776 (rdN2 s))) [some (rdO (rdN3 s))]], none)], .reg 9 [(1, [.call [803000] [] (.sl 3 ((enV (rdN3 s)).map En.row)) [some (rdO (enS (rdN3 s)))]], none), (2, [.be (I ((enV (rdN3 s)).length : Int))], none)], .cut ⟨[2, 5, 6, 31, 32, 33], [(1000, 1000), (803000, 803000), (1001000, 1001000)], [.cell 1001000 3 900 6]⟩ (.exit 0) (brS (numV 1099511627776 s) (numV 1099511627776 (rdN1 s)) (numV 1099511627776 (rdN2 s)) q (enV (rdN3 s)) R (enV (rdN3 s)).length), .reg 16 [(4, [], some false), (9, [.be (I (q.1.length : Int))], none), (12, [], some true), (14, [.call [] [] (Bo (rightM ⟨numV 1099511627776 s, numV 1099511627776 (rdN1 s), numV 1099511627776 (rdN2 s), R⟩)) []], none)]] [] [⟨cOpen l (by omega)⟩, ⟨(by rw [hs2] : List.map bR (List.take (List.length l - 4) l) = List.map bR (Prod.fst s))⟩, ⟨(by simp [ho] : (!openOk l) = false)⟩, ⟨(by have w := cNumR 1099511627776 s (by omega) (by decide) (by decide); unfold rdO at w; rw [show s.2 = false by rw [hs2]] at w; exact w : Contract Try.prog 34 [.ptr 0 0 0 0, I 1099511627776] [.box [.sl 1 (List.map bR (Prod.fst s)), Bo false]] (I (numV 1099511627776 s)) [some (.box [.sl 1 (List.map bR (Prod.fst (rdN1 s))), Bo (Prod.snd (rdN1 s))])])⟩, ⟨(by exact cNumR _ (rdN1 s) (Nat.le_trans (numS_len _ _) (by omega)) (by decide) (by decide) : Contract Try.prog 34 [.ptr 0 0 0 0, I 1099511627776] [.box [.sl 1 (List.map bR (Prod.fst (rdN1 s))), Bo (Prod.snd (rdN1 s))]] (I (numV 1099511627776 (rdN1 s))) [some (.box [.sl 1 (List.map bR (Prod.fst (rdN2 s))), Bo (Prod.snd (rdN2 s))])])⟩, ⟨(by exact cNumR _ (rdN2 s) (Nat.le_trans (numS_len _ _) (Nat.le_trans (numS_len _ _) (by omega))) (by decide) (by decide) : Contract Try.prog 34 [.ptr 0 0 0 0, I 1099511627776] [.box [.sl 1 (List.map bR (Prod.fst (rdN2 s))), Bo (Prod.snd (rdN2 s))]] (I (numV 1099511627776 (rdN2 s))) [some (.box [.sl 1 (List.map bR (Prod.fst (rdN3 s))), Bo (Prod.snd (rdN3 s))])])⟩, ⟨cIndex (rdN3 s) (Nat.le_trans (numS_len _ _) (Nat.le_trans (numS_len _ _) (Nat.le_trans (numS_len _ _) (by omega))))⟩, ⟨(by simp [ho] : Int.ofNat (List.length (List.map En.row (enV (rdN3 s)))) = Int.ofNat (List.length (enV (rdN3 s))))⟩, ⟨hl⟩, ⟨tq0⟩, ⟨lenm bR (Prod.fst q)⟩, ⟨tq1⟩]

theorem readY_2 (l : List UInt8) (s q : RS) (R : List Ep) (hl0 : l.length ≤ 1000000) (ho : openOk l = true) (hs2 : s = (l.take (l.length - 4), false)) (hs : s.1.length ≤ 1000000) (hR : R.length ≤ 1000000000) (hm : ∀ e ∈ R, e.spans.length ≤ 1048576 ∧ ∀ s ∈ e.spans, s.attrs.length ≤ 1000000000) (hl : LoopC Try.prog 0 93 brB (brS (numV 1099511627776 s) (numV 1099511627776 (rdN1 s)) (numV 1099511627776 (rdN2 s)) (enS (rdN3 s)) (enV (rdN3 s)) [] 0) (.exit 0) (brS (numV 1099511627776 s) (numV 1099511627776 (rdN1 s)) (numV 1099511627776 (rdN2 s)) q (enV (rdN3 s)) R (enV (rdN3 s)).length)) (tq0 : (Prod.snd q) = false) (tq1 : (decide (Int.ofNat (List.length (Prod.fst q)) > (0 : Int))) = false) (tq2 : (!rightM { num := numV (1099511627776 : Int) s, born := numV (1099511627776 : Int) (rdN1 s), tier := numV (1099511627776 : Int) (rdN2 s), eps := R }) = true) : Contract Try.prog 11 [.sl 1 (l.map bR)] [] (.tup [.agg [I 0, I 0, I 0, .sl 6 []], I 2]) ([]) :=
 vcS hmix [.reg 1 [(1, [.call [] [] (.tup [.sl 1 ((l.take (l.length - 4)).map bR), Bo (openOk l)]) []], none), (5, [.be (.sl 1 (s.1.map bR))], none)], .reg 2 [(1, [], some false)], .reg 6 [(1, [.call [803000] [] (I (numV 1099511627776 s)) [some (rdO (rdN1 s))]], none)], .reg 7 [(1, [.call [803000] [] (I (numV 1099511627776 (rdN1 s))) [some (rdO (rdN2 s))]], none)], .reg 8 [(1, [.call [803000] [] (I (numV 1099511627776 (rdN2 s))) [some (rdO (rdN3 s))]], none)], .reg 9 [(1, [.call [803000] [] (.sl 3 ((enV (rdN3 s)).map En.row)) [some (rdO (enS (rdN3 s)))]], none), (2, [.be (I ((enV (rdN3 s)).length : Int))], none)], .cut ⟨[2, 5, 6, 31, 32, 33], [(1000, 1000), (803000, 803000), (1001000, 1001000)], [.cell 1001000 3 900 6]⟩ (.exit 0) (brS (numV 1099511627776 s) (numV 1099511627776 (rdN1 s)) (numV 1099511627776 (rdN2 s)) q (enV (rdN3 s)) R (enV (rdN3 s)).length), .reg 16 [(4, [], some false), (9, [.be (I (q.1.length : Int))], none), (12, [], some false), (14, [.call [] [] (Bo (rightM ⟨numV 1099511627776 s, numV 1099511627776 (rdN1 s), numV 1099511627776 (rdN2 s), R⟩)) []], none), (16, [], some true)]] [] [⟨cOpen l (by omega)⟩, ⟨(by rw [hs2] : List.map bR (List.take (List.length l - 4) l) = List.map bR (Prod.fst s))⟩, ⟨(by simp [ho] : (!openOk l) = false)⟩, ⟨(by have w := cNumR 1099511627776 s (by omega) (by decide) (by decide); unfold rdO at w; rw [show s.2 = false by rw [hs2]] at w; exact w : Contract Try.prog 34 [.ptr 0 0 0 0, I 1099511627776] [.box [.sl 1 (List.map bR (Prod.fst s)), Bo false]] (I (numV 1099511627776 s)) [some (.box [.sl 1 (List.map bR (Prod.fst (rdN1 s))), Bo (Prod.snd (rdN1 s))])])⟩, ⟨(by exact cNumR _ (rdN1 s) (Nat.le_trans (numS_len _ _) (by omega)) (by decide) (by decide) : Contract Try.prog 34 [.ptr 0 0 0 0, I 1099511627776] [.box [.sl 1 (List.map bR (Prod.fst (rdN1 s))), Bo (Prod.snd (rdN1 s))]] (I (numV 1099511627776 (rdN1 s))) [some (.box [.sl 1 (List.map bR (Prod.fst (rdN2 s))), Bo (Prod.snd (rdN2 s))])])⟩, ⟨(by exact cNumR _ (rdN2 s) (Nat.le_trans (numS_len _ _) (Nat.le_trans (numS_len _ _) (by omega))) (by decide) (by decide) : Contract Try.prog 34 [.ptr 0 0 0 0, I 1099511627776] [.box [.sl 1 (List.map bR (Prod.fst (rdN2 s))), Bo (Prod.snd (rdN2 s))]] (I (numV 1099511627776 (rdN2 s))) [some (.box [.sl 1 (List.map bR (Prod.fst (rdN3 s))), Bo (Prod.snd (rdN3 s))])])⟩, ⟨cIndex (rdN3 s) (Nat.le_trans (numS_len _ _) (Nat.le_trans (numS_len _ _) (Nat.le_trans (numS_len _ _) (by omega))))⟩, ⟨(by simp [ho] : Int.ofNat (List.length (List.map En.row (enV (rdN3 s)))) = Int.ofNat (List.length (enV (rdN3 s))))⟩, ⟨hl⟩, ⟨tq0⟩, ⟨lenm bR (Prod.fst q)⟩, ⟨tq1⟩, ⟨cRightM ⟨numV 1099511627776 s, numV 1099511627776 (rdN1 s), numV 1099511627776 (rdN2 s), R⟩ hR hm⟩, ⟨(by simp [ho] : true = true)⟩, ⟨tq2⟩]

theorem readY_3 (l : List UInt8) (s q : RS) (R : List Ep) (hl0 : l.length ≤ 1000000) (ho : openOk l = true) (hs2 : s = (l.take (l.length - 4), false)) (hs : s.1.length ≤ 1000000) (hR : R.length ≤ 1000000000) (hm : ∀ e ∈ R, e.spans.length ≤ 1048576 ∧ ∀ s ∈ e.spans, s.attrs.length ≤ 1000000000) (hl : LoopC Try.prog 0 93 brB (brS (numV 1099511627776 s) (numV 1099511627776 (rdN1 s)) (numV 1099511627776 (rdN2 s)) (enS (rdN3 s)) (enV (rdN3 s)) [] 0) (.exit 0) (brS (numV 1099511627776 s) (numV 1099511627776 (rdN1 s)) (numV 1099511627776 (rdN2 s)) q (enV (rdN3 s)) R (enV (rdN3 s)).length)) (tq0 : (Prod.snd q) = false) (tq1 : (decide (Int.ofNat (List.length (Prod.fst q)) > (0 : Int))) = false) (tq2 : (!rightM { num := numV (1099511627776 : Int) s, born := numV (1099511627776 : Int) (rdN1 s), tier := numV (1099511627776 : Int) (rdN2 s), eps := R }) = false) : Contract Try.prog 11 [.sl 1 (l.map bR)] [] (.tup [.agg [I (numV 1099511627776 s), I (numV 1099511627776 (rdN1 s)), I (numV 1099511627776 (rdN2 s)), .sl 6 (List.map Ep.row R)], I 0]) ([]) :=
 vcS hmix [.reg 1 [(1, [.call [] [] (.tup [.sl 1 ((l.take (l.length - 4)).map bR), Bo (openOk l)]) []], none), (5, [.be (.sl 1 (s.1.map bR))], none)], .reg 2 [(1, [], some false)], .reg 6 [(1, [.call [803000] [] (I (numV 1099511627776 s)) [some (rdO (rdN1 s))]], none)], .reg 7 [(1, [.call [803000] [] (I (numV 1099511627776 (rdN1 s))) [some (rdO (rdN2 s))]], none)], .reg 8 [(1, [.call [803000] [] (I (numV 1099511627776 (rdN2 s))) [some (rdO (rdN3 s))]], none)], .reg 9 [(1, [.call [803000] [] (.sl 3 ((enV (rdN3 s)).map En.row)) [some (rdO (enS (rdN3 s)))]], none), (2, [.be (I ((enV (rdN3 s)).length : Int))], none)], .cut ⟨[2, 5, 6, 31, 32, 33], [(1000, 1000), (803000, 803000), (1001000, 1001000)], [.cell 1001000 3 900 6]⟩ (.exit 0) (brS (numV 1099511627776 s) (numV 1099511627776 (rdN1 s)) (numV 1099511627776 (rdN2 s)) q (enV (rdN3 s)) R (enV (rdN3 s)).length), .reg 16 [(4, [], some false), (9, [.be (I (q.1.length : Int))], none), (12, [], some false), (14, [.call [] [] (Bo (rightM ⟨numV 1099511627776 s, numV 1099511627776 (rdN1 s), numV 1099511627776 (rdN2 s), R⟩)) []], none), (16, [], some false)]] [] [⟨cOpen l (by omega)⟩, ⟨(by rw [hs2] : List.map bR (List.take (List.length l - 4) l) = List.map bR (Prod.fst s))⟩, ⟨(by simp [ho] : (!openOk l) = false)⟩, ⟨(by have w := cNumR 1099511627776 s (by omega) (by decide) (by decide); unfold rdO at w; rw [show s.2 = false by rw [hs2]] at w; exact w : Contract Try.prog 34 [.ptr 0 0 0 0, I 1099511627776] [.box [.sl 1 (List.map bR (Prod.fst s)), Bo false]] (I (numV 1099511627776 s)) [some (.box [.sl 1 (List.map bR (Prod.fst (rdN1 s))), Bo (Prod.snd (rdN1 s))])])⟩, ⟨(by exact cNumR _ (rdN1 s) (Nat.le_trans (numS_len _ _) (by omega)) (by decide) (by decide) : Contract Try.prog 34 [.ptr 0 0 0 0, I 1099511627776] [.box [.sl 1 (List.map bR (Prod.fst (rdN1 s))), Bo (Prod.snd (rdN1 s))]] (I (numV 1099511627776 (rdN1 s))) [some (.box [.sl 1 (List.map bR (Prod.fst (rdN2 s))), Bo (Prod.snd (rdN2 s))])])⟩, ⟨(by exact cNumR _ (rdN2 s) (Nat.le_trans (numS_len _ _) (Nat.le_trans (numS_len _ _) (by omega))) (by decide) (by decide) : Contract Try.prog 34 [.ptr 0 0 0 0, I 1099511627776] [.box [.sl 1 (List.map bR (Prod.fst (rdN2 s))), Bo (Prod.snd (rdN2 s))]] (I (numV 1099511627776 (rdN2 s))) [some (.box [.sl 1 (List.map bR (Prod.fst (rdN3 s))), Bo (Prod.snd (rdN3 s))])])⟩, ⟨cIndex (rdN3 s) (Nat.le_trans (numS_len _ _) (Nat.le_trans (numS_len _ _) (Nat.le_trans (numS_len _ _) (by omega))))⟩, ⟨(by simp [ho] : Int.ofNat (List.length (List.map En.row (enV (rdN3 s)))) = Int.ofNat (List.length (enV (rdN3 s))))⟩, ⟨hl⟩, ⟨tq0⟩, ⟨lenm bR (Prod.fst q)⟩, ⟨tq1⟩, ⟨cRightM ⟨numV 1099511627776 s, numV 1099511627776 (rdN1 s), numV 1099511627776 (rdN2 s), R⟩ hR hm⟩, ⟨(by simp [ho] : true = true)⟩, ⟨tq2⟩]

theorem readY (l : List UInt8) (s q : RS) (R : List Ep) (hl0 : l.length ≤ 1000000) (ho : openOk l = true) (hs2 : s = (l.take (l.length - 4), false)) (hs : s.1.length ≤ 1000000) (hR : R.length ≤ 1000000000) (hm : ∀ e ∈ R, e.spans.length ≤ 1048576 ∧ ∀ s ∈ e.spans, s.attrs.length ≤ 1000000000) (hl : LoopC Try.prog 0 93 brB (brS (numV 1099511627776 s) (numV 1099511627776 (rdN1 s)) (numV 1099511627776 (rdN2 s)) (enS (rdN3 s)) (enV (rdN3 s)) [] 0) (.exit 0) (brS (numV 1099511627776 s) (numV 1099511627776 (rdN1 s)) (numV 1099511627776 (rdN2 s)) q (enV (rdN3 s)) R (enV (rdN3 s)).length)) : Contract Try.prog 11 [.sl 1 (l.map bR)] [] (bif !q.2 && !decide (0 < q.1.length) && rightM ⟨numV 1099511627776 s, numV 1099511627776 (rdN1 s), numV 1099511627776 (rdN2 s), R⟩ then .tup [Bk.v ⟨numV 1099511627776 s, numV 1099511627776 (rdN1 s), numV 1099511627776 (rdN2 s), R⟩, I 0] else .tup [.agg [I 0, I 0, I 0, .sl 6 []], I 2]) [] := by
  rcases tf (Prod.snd q) with tq0 | tq0
  · exact Contract.cast (by simp only [tq0, cond_true, cond_false]; rfl) rfl (readY_0 l s q R hl0 ho hs2 hs hR hm hl tq0)
  · rcases tf (decide (Int.ofNat (List.length (Prod.fst q)) > (0 : Int))) with tq1 | tq1
    · exact Contract.cast (by (try simp only [Int.ofNat_eq_natCast, List.length_map, Bool.not_eq_true', Bool.not_eq_false', decide_eq_true_eq, decide_eq_false_iff_not] at tq0 tq1); simp only [Bool.cond_eq_ite, Bool.and_eq_true, Bool.or_eq_true, Bool.not_eq_true', decide_eq_true_eq, beq_iff_eq, beq_eq_false_iff_ne, ne_eq]; (repeat' split) <;> first | rfl | (exfalso; omega) | omega | (simp_all; done) | (exfalso; simp_all; omega)) rfl (readY_1 l s q R hl0 ho hs2 hs hR hm hl tq0 tq1)
    · rcases tf (!rightM { num := numV (1099511627776 : Int) s, born := numV (1099511627776 : Int) (rdN1 s), tier := numV (1099511627776 : Int) (rdN2 s), eps := R }) with tq2 | tq2
      · exact Contract.cast (by (try simp only [Int.ofNat_eq_natCast, List.length_map, Bool.not_eq_true', Bool.not_eq_false', decide_eq_true_eq, decide_eq_false_iff_not] at tq0 tq1 tq2); simp [tq0, tq1, tq2]) rfl (readY_2 l s q R hl0 ho hs2 hs hR hm hl tq0 tq1 tq2)
      · exact Contract.cast (by (try simp only [Int.ofNat_eq_natCast, List.length_map, Bool.not_eq_true', Bool.not_eq_false', decide_eq_true_eq, decide_eq_false_iff_not] at tq0 tq1 tq2); simp only [Bool.cond_eq_ite, Bool.and_eq_true, Bool.or_eq_true, Bool.not_eq_true', decide_eq_true_eq, beq_iff_eq, beq_eq_false_iff_ne, ne_eq]; (repeat' split) <;> first | rfl | (exfalso; omega) | omega | (simp_all; done) | (exfalso; simp_all; omega)) rfl (readY_3 l s q R hl0 ho hs2 hs hR hm hl tq0 tq1 tq2)

theorem cRead (l : List UInt8) (hs : l.length ≤ 100000) : Contract Try.prog 11 [.sl 1 (l.map bR)] [] (bif openOk l && readOk (l.take (l.length - 4), false) then .tup [Bk.v (blkV (l.take (l.length - 4), false)), I 0] else .tup [.agg [I 0, I 0, I 0, .sl 6 []], I 2]) [] := by
  cases ho : openOk l with
  | false => exact readN l (by omega) ho
  | true =>
    have hlen : (l.take (l.length - 4)).length ≤ 100000 := by rw [List.length_take]; omega
    generalize hs2 : ((l.take (l.length - 4), false) : RS) = s
    have h1 : s.1.length ≤ 100000 := by rw [← hs2]; exact hlen
    have h3 : (rdN3 s).1.length ≤ 100000 := Nat.le_trans (numS_len _ _) (Nat.le_trans (numS_len _ _) (Nat.le_trans (numS_len _ _) h1))
    have hX := enV_len (rdN3 s)
    have hS := enS_len (rdN3 s)
    have hl := brAll (numV 1099511627776 s) (numV 1099511627776 (rdN1 s)) (numV 1099511627776 (rdN2 s)) (enV (rdN3 s)) (by omega) (enF_n _ _ _ (by simp)) (enV (rdN3 s)).length 0 (enS (rdN3 s)) [] (by omega) (by omega) (by simp)
    rw [List.drop_zero] at hl
    obtain ⟨k1, k2⟩ := epsF_ok 100000 (enV (rdN3 s)) (enS (rdN3 s)) [] (by omega) (by simp)
    have h := readY l s _ _ (by omega) ho hs2.symm (by omega) (by rw [k1]; simp; omega) (fun e he => ⟨Nat.le_trans (k2 e he).1 (by omega), fun s hs => Nat.le_trans ((k2 e he).2 s hs) (by omega)⟩) hl
    rw [Bool.true_and]
    exact h
end Go.Proofs.Ytdomjccibhgbjaa

/- the reference's numbers, read. -/
namespace Go.Proofs.Ytdomjccibhgbjaa
open E
set_option maxRecDepth 100000
set_option linter.unusedVariables false
set_option linter.unusedSimpArgs false

def rgS (l : List UInt8) (n i : Nat) : SL := ⟨[(0, .sl 1 (l.map bR)), (2, U 0), (3, I 0), (4, Bo false), (5, U (n : Int)), (6, I (i : Int))], [], []⟩
def rgT (l : List UInt8) (n i k : Nat) : SL := ⟨[(0, .sl 1 (l.map bR)), (2, U (n : Int)), (3, I (k : Int)), (4, Bo true), (5, U (n : Int)), (6, I (i : Int))], [], []⟩
noncomputable def rgB : Code := codeAt Try.prog 50 [true, true, false, true, false, false]

theorem sh7r {b : UInt8} {n i : Nat} (hi : i < 10) (hn : n < 128 ^ i) (h9 : i = 9 → b.toNat % 128 ≤ 1) : shlI IntKind.u64 (Int.ofNat ((b.toNat % 256 &&& 127) % 256 % 18446744073709551616)) (Int.ofNat (7 * i % 18446744073709551616)) = Int.ofNat (s7S b i) := by
  have w := sh7_go (b := b) hi hn h9
  have e : IntKind.i64.wrap (7 * Int.ofNat i) = Int.ofNat (7 * i % 18446744073709551616) := by
    rw [Nat.mod_eq_of_lt (by omega), i64_small (by simp only [Int.ofNat_eq_natCast]; omega)]
    simp
  rw [e] at w
  exact w
theorem rgGo (l : List UInt8) (b : UInt8) (n i : Nat) (hx : l[i]? = some b) (hi : i < 9) (hs : l.length ≤ 70000000) (hn : n < 128 ^ i) (hb : 128 ≤ b.toNat)  : CodeC Try.prog 0 55 rgB (rgS l n i) .normal (rgS l (n + s7S b i) (i + 1)) :=
 runS hmix [.reg 3 [(3, [], some true), (6, [], some true)], .reg 5 [(2, [], some false), (6, [.row (bR b)], none)], .reg 7 [(4, [.row (bR b)], none), (8, [.be (I ((7 * i : Nat) : Int))], none), (10, [.idx 0, .be (U ((s7S b i : Nat) : Int))], none), (11, [.be (U ((n + s7S b i : Nat) : Int))], none)], .reg 8 [(3, [.row (bR b)], none), (4, [], some false)], .reg 4 [(1, [.be (I ((i + 1 : Nat) : Int))], none)]] ⟨[0, 2, 3, 4, 5, 6], [], []⟩ [⟨(by have q := (List.getElem?_eq_some_iff.1 hx).1; simp; omega : decide (Int.ofNat i < Int.ofNat (List.length (List.map bR l))) = true)⟩, ⟨(by have q := (List.getElem?_eq_some_iff.1 hx).1; simp; omega : decide (Int.ofNat i < 10) = true)⟩, ⟨(by have q := (List.getElem?_eq_some_iff.1 hx).1; simp; omega : (Int.ofNat i == 9) = false)⟩, ⟨nn i⟩, ⟨(by have q := (List.getElem?_eq_some_iff.1 hx).1; simp; omega : Int.ofNat i < Int.ofNat (List.length (List.map bR l)))⟩, ⟨gtm bR hx⟩, ⟨(by rw [i64_small (by simp only [Int.ofNat_eq_natCast]; omega)]; simp : IntKind.wrap IntKind.i64 (7 * Int.ofNat i) = Int.ofNat (7 * i))⟩, ⟨nn (7 * i % 18446744073709551616)⟩, ⟨(by exact sh7r (by omega) hn (by omega) : shlI IntKind.u64 (Int.ofNat (((UInt8.toNat b % 256) &&& 127) % 256 % 18446744073709551616)) (Int.ofNat (7 * i % 18446744073709551616)) = Int.ofNat (s7S b i))⟩, ⟨(by exact or7_go (by omega) hn (by omega) : Int.ofNat (((n % 18446744073709551616) ||| (s7S b i % 18446744073709551616)) % 18446744073709551616) = Int.ofNat (n + s7S b i))⟩, ⟨nn i⟩, ⟨(by have q := (List.getElem?_eq_some_iff.1 hx).1; simp; omega : Int.ofNat i < Int.ofNat (List.length (List.map bR l)))⟩, ⟨gtm bR hx⟩, ⟨(by have q := (List.getElem?_eq_some_iff.1 hx).1; simp; omega : decide (Int.ofNat (UInt8.toNat b) < 128) = false)⟩, ⟨w64 (i + 1) (by omega)⟩]

theorem rg9 (l : List UInt8) (b : UInt8) (n i : Nat) (hx : l[i]? = some b) (hi : i = 9) (hs : l.length ≤ 70000000) (h9 : 1 < b.toNat)  : CodeC Try.prog 0 55 rgB (rgS l n i) .ret (rgS l n i) :=
 runS hmix [.reg 3 [(3, [], some true), (6, [], some true)], .reg 5 [(2, [], some true), (6, [.row (bR b)], none), (7, [], some true), (8, [], some true)]] ⟨[0, 2, 3, 4, 5, 6], [], []⟩ [⟨(by have q := (List.getElem?_eq_some_iff.1 hx).1; simp; omega : decide (Int.ofNat i < Int.ofNat (List.length (List.map bR l))) = true)⟩, ⟨(by have q := (List.getElem?_eq_some_iff.1 hx).1; simp; omega : decide (Int.ofNat i < 10) = true)⟩, ⟨(by have q := (List.getElem?_eq_some_iff.1 hx).1; simp; omega : (Int.ofNat i == 9) = true)⟩, ⟨nn i⟩, ⟨(by have q := (List.getElem?_eq_some_iff.1 hx).1; simp; omega : Int.ofNat i < Int.ofNat (List.length (List.map bR l)))⟩, ⟨gtm bR hx⟩, ⟨(by have q := (List.getElem?_eq_some_iff.1 hx).1; simp; omega : decide (Int.ofNat (UInt8.toNat b) > 1) = true)⟩, ⟨(by simp [hx] : true = true)⟩]

theorem rg0_0 (l : List UInt8) (b : UInt8) (n i : Nat) (hx : l[i]? = some b) (hi : i < 10) (hs : l.length ≤ 70000000) (hn : n < 128 ^ i) (h9 : i = 9 → b.toNat ≤ 1) (k9 : i = 9 → b.toNat % 128 ≤ 1) (hz : b.toNat = 0) (h0 : 0 < i) (tq0 : (Int.ofNat i == (9 : Int)) = true) : CodeC Try.prog 0 55 rgB (rgS l n i) .ret (rgS l (n + s7S b i) i) :=
 runS hmix [.reg 3 [(3, [], some true), (6, [], some true)], .reg 5 [(2, [], some true), (6, [.row (bR b)], none), (8, [], some false)], .reg 7 [(4, [.row (bR b)], none), (8, [.be (I ((7 * i : Nat) : Int))], none), (10, [.idx 0, .be (U ((s7S b i : Nat) : Int))], none), (11, [.be (U ((n + s7S b i : Nat) : Int))], none)], .reg 8 [(3, [.row (bR b)], none), (4, [], some true)], .reg 9 [(2, [], some true), (6, [.row (bR b)], none), (8, [], some true)]] ⟨[0, 2, 3, 4, 5, 6], [], []⟩ [⟨(by have q := (List.getElem?_eq_some_iff.1 hx).1; simp; omega : decide (Int.ofNat i < Int.ofNat (List.length (List.map bR l))) = true)⟩, ⟨(by have q := (List.getElem?_eq_some_iff.1 hx).1; simp; omega : decide (Int.ofNat i < 10) = true)⟩, ⟨tq0⟩, ⟨nn i⟩, ⟨(by have q := (List.getElem?_eq_some_iff.1 hx).1; simp; omega : Int.ofNat i < Int.ofNat (List.length (List.map bR l)))⟩, ⟨gtm bR hx⟩, ⟨(by have q := (List.getElem?_eq_some_iff.1 hx).1; simp; omega : decide (Int.ofNat (UInt8.toNat b) > 1) = false)⟩, ⟨nn i⟩, ⟨(by have q := (List.getElem?_eq_some_iff.1 hx).1; simp; omega : Int.ofNat i < Int.ofNat (List.length (List.map bR l)))⟩, ⟨gtm bR hx⟩, ⟨(by rw [i64_small (by simp only [Int.ofNat_eq_natCast]; omega)]; simp : IntKind.wrap IntKind.i64 (7 * Int.ofNat i) = Int.ofNat (7 * i))⟩, ⟨nn (7 * i % 18446744073709551616)⟩, ⟨sh7r (by omega) hn (by omega)⟩, ⟨or7_go (by omega) hn (by omega)⟩, ⟨nn i⟩, ⟨(by have q := (List.getElem?_eq_some_iff.1 hx).1; simp; omega : Int.ofNat i < Int.ofNat (List.length (List.map bR l)))⟩, ⟨gtm bR hx⟩, ⟨(by have q := (List.getElem?_eq_some_iff.1 hx).1; simp; omega : decide (Int.ofNat (UInt8.toNat b) < 128) = true)⟩, ⟨(by have q := (List.getElem?_eq_some_iff.1 hx).1; simp; omega : decide (Int.ofNat i > 0) = true)⟩, ⟨nn i⟩, ⟨(by have q := (List.getElem?_eq_some_iff.1 hx).1; simp; omega : Int.ofNat i < Int.ofNat (List.length (List.map bR l)))⟩, ⟨gtm bR hx⟩, ⟨(by have q := (List.getElem?_eq_some_iff.1 hx).1; simp; omega : (Int.ofNat (UInt8.toNat b) == 0) = true)⟩]

theorem rg0_1 (l : List UInt8) (b : UInt8) (n i : Nat) (hx : l[i]? = some b) (hi : i < 10) (hs : l.length ≤ 70000000) (hn : n < 128 ^ i) (h9 : i = 9 → b.toNat ≤ 1) (k9 : i = 9 → b.toNat % 128 ≤ 1) (hz : b.toNat = 0) (h0 : 0 < i) (tq0 : (Int.ofNat i == (9 : Int)) = false) : CodeC Try.prog 0 55 rgB (rgS l n i) .ret (rgS l (n + s7S b i) i) :=
 runS hmix [.reg 3 [(3, [], some true), (6, [], some true)], .reg 5 [(2, [], some false), (6, [.row (bR b)], none), (8, [], some false)], .reg 7 [(4, [.row (bR b)], none), (8, [.be (I ((7 * i : Nat) : Int))], none), (10, [.idx 0, .be (U ((s7S b i : Nat) : Int))], none), (11, [.be (U ((n + s7S b i : Nat) : Int))], none)], .reg 8 [(3, [.row (bR b)], none), (4, [], some true)], .reg 9 [(2, [], some true), (6, [.row (bR b)], none), (8, [], some true)]] ⟨[0, 2, 3, 4, 5, 6], [], []⟩ [⟨(by have q := (List.getElem?_eq_some_iff.1 hx).1; simp; omega : decide (Int.ofNat i < Int.ofNat (List.length (List.map bR l))) = true)⟩, ⟨(by have q := (List.getElem?_eq_some_iff.1 hx).1; simp; omega : decide (Int.ofNat i < 10) = true)⟩, ⟨tq0⟩, ⟨(by simp [hz] : false = false)⟩, ⟨nn i⟩, ⟨(by have q := (List.getElem?_eq_some_iff.1 hx).1; simp; omega : Int.ofNat i < Int.ofNat (List.length (List.map bR l)))⟩, ⟨gtm bR hx⟩, ⟨(by rw [i64_small (by simp only [Int.ofNat_eq_natCast]; omega)]; simp : IntKind.wrap IntKind.i64 (7 * Int.ofNat i) = Int.ofNat (7 * i))⟩, ⟨nn (7 * i % 18446744073709551616)⟩, ⟨sh7r (by omega) hn (by omega)⟩, ⟨or7_go (by omega) hn (by omega)⟩, ⟨nn i⟩, ⟨(by have q := (List.getElem?_eq_some_iff.1 hx).1; simp; omega : Int.ofNat i < Int.ofNat (List.length (List.map bR l)))⟩, ⟨gtm bR hx⟩, ⟨(by have q := (List.getElem?_eq_some_iff.1 hx).1; simp; omega : decide (Int.ofNat (UInt8.toNat b) < 128) = true)⟩, ⟨(by have q := (List.getElem?_eq_some_iff.1 hx).1; simp; omega : decide (Int.ofNat i > 0) = true)⟩, ⟨nn i⟩, ⟨(by have q := (List.getElem?_eq_some_iff.1 hx).1; simp; omega : Int.ofNat i < Int.ofNat (List.length (List.map bR l)))⟩, ⟨gtm bR hx⟩, ⟨(by have q := (List.getElem?_eq_some_iff.1 hx).1; simp; omega : (Int.ofNat (UInt8.toNat b) == 0) = true)⟩]

theorem rg0 (l : List UInt8) (b : UInt8) (n i : Nat) (hx : l[i]? = some b) (hi : i < 10) (hs : l.length ≤ 70000000) (hn : n < 128 ^ i) (h9 : i = 9 → b.toNat ≤ 1) (k9 : i = 9 → b.toNat % 128 ≤ 1) (hz : b.toNat = 0) (h0 : 0 < i)  : CodeC Try.prog 0 55 rgB (rgS l n i) .ret (rgS l (n + s7S b i) i) := by
  rcases tf (Int.ofNat i == (9 : Int)) with tq0 | tq0
  · exact rg0_0 l b n i hx hi hs hn h9 k9 hz h0 tq0
  · exact rg0_1 l b n i hx hi hs hn h9 k9 hz h0 tq0

theorem rgL_0 (l : List UInt8) (b : UInt8) (n i : Nat) (hx : l[i]? = some b) (hi : i < 10) (hs : l.length ≤ 70000000) (hn : n < 128 ^ i) (h9 : i = 9 → b.toNat ≤ 1) (k9 : i = 9 → b.toNat % 128 ≤ 1) (hb : b.toNat < 128) (hz : b.toNat = 0 → i = 0) (tq0 : (Int.ofNat i == (9 : Int)) = true) (tq1 : (decide (Int.ofNat i > (0 : Int))) = true) : CodeC Try.prog 0 55 rgB (rgS l n i) .ret (rgT l (n + s7S b i) i (i + 1)) :=
 runS hmix [.reg 3 [(3, [], some true), (6, [], some true)], .reg 5 [(2, [], some true), (6, [.row (bR b)], none), (8, [], some false)], .reg 7 [(4, [.row (bR b)], none), (8, [.be (I ((7 * i : Nat) : Int))], none), (10, [.idx 0, .be (U ((s7S b i : Nat) : Int))], none), (11, [.be (U ((n + s7S b i : Nat) : Int))], none)], .reg 8 [(3, [.row (bR b)], none), (4, [], some true)], .reg 9 [(2, [], some true), (6, [.row (bR b)], none), (8, [], some false)], .reg 11 [(2, [.be (I ((i + 1 : Nat) : Int))], none)]] ⟨[0, 2, 3, 4, 5, 6], [], []⟩ [⟨(by have q := (List.getElem?_eq_some_iff.1 hx).1; simp; omega : decide (Int.ofNat i < Int.ofNat (List.length (List.map bR l))) = true)⟩, ⟨(by have q := (List.getElem?_eq_some_iff.1 hx).1; simp; omega : decide (Int.ofNat i < 10) = true)⟩, ⟨tq0⟩, ⟨nn i⟩, ⟨(by have q := (List.getElem?_eq_some_iff.1 hx).1; simp; omega : Int.ofNat i < Int.ofNat (List.length (List.map bR l)))⟩, ⟨gtm bR hx⟩, ⟨(by have w := h9 (by simp at tq0; omega); simp; omega : decide (Int.ofNat (UInt8.toNat b) > 1) = false)⟩, ⟨nn i⟩, ⟨(by have q := (List.getElem?_eq_some_iff.1 hx).1; simp; omega : Int.ofNat i < Int.ofNat (List.length (List.map bR l)))⟩, ⟨gtm bR hx⟩, ⟨(by rw [i64_small (by simp only [Int.ofNat_eq_natCast]; omega)]; simp : IntKind.wrap IntKind.i64 (7 * Int.ofNat i) = Int.ofNat (7 * i))⟩, ⟨nn (7 * i % 18446744073709551616)⟩, ⟨sh7r (by omega) hn (by omega)⟩, ⟨or7_go (by omega) hn (by omega)⟩, ⟨nn i⟩, ⟨(by have q := (List.getElem?_eq_some_iff.1 hx).1; simp; omega : Int.ofNat i < Int.ofNat (List.length (List.map bR l)))⟩, ⟨gtm bR hx⟩, ⟨(by have q := (List.getElem?_eq_some_iff.1 hx).1; simp; omega : decide (Int.ofNat (UInt8.toNat b) < 128) = true)⟩, ⟨tq1⟩, ⟨nn i⟩, ⟨(by have q := (List.getElem?_eq_some_iff.1 hx).1; simp; omega : Int.ofNat i < Int.ofNat (List.length (List.map bR l)))⟩, ⟨gtm bR hx⟩, ⟨(by have d0 := tq0; have d1 := tq1; try simp only [Int.ofNat_eq_natCast, List.length_map, Bool.not_eq_true', Bool.not_eq_false', decide_eq_true_eq, decide_eq_false_iff_not] at d0 d1; have q := (List.getElem?_eq_some_iff.1 hx).1; simp; omega : (Int.ofNat (UInt8.toNat b) == (0 : Int)) = false)⟩, ⟨w64 (i + 1) (by omega)⟩]

theorem rgL_1 (l : List UInt8) (b : UInt8) (n i : Nat) (hx : l[i]? = some b) (hi : i < 10) (hs : l.length ≤ 70000000) (hn : n < 128 ^ i) (h9 : i = 9 → b.toNat ≤ 1) (k9 : i = 9 → b.toNat % 128 ≤ 1) (hb : b.toNat < 128) (hz : b.toNat = 0 → i = 0) (tq0 : (Int.ofNat i == (9 : Int)) = true) (tq1 : (decide (Int.ofNat i > (0 : Int))) = false) : CodeC Try.prog 0 55 rgB (rgS l n i) .ret (rgT l (n + s7S b i) i (i + 1)) :=
 runS hmix [.reg 3 [(3, [], some true), (6, [], some true)], .reg 5 [(2, [], some true), (6, [.row (bR b)], none), (8, [], some false)], .reg 7 [(4, [.row (bR b)], none), (8, [.be (I ((7 * i : Nat) : Int))], none), (10, [.idx 0, .be (U ((s7S b i : Nat) : Int))], none), (11, [.be (U ((n + s7S b i : Nat) : Int))], none)], .reg 8 [(3, [.row (bR b)], none), (4, [], some true)], .reg 9 [(2, [], some false), (6, [.row (bR b)], none), (8, [], some false)], .reg 11 [(2, [.be (I ((i + 1 : Nat) : Int))], none)]] ⟨[0, 2, 3, 4, 5, 6], [], []⟩ [⟨(by have q := (List.getElem?_eq_some_iff.1 hx).1; simp; omega : decide (Int.ofNat i < Int.ofNat (List.length (List.map bR l))) = true)⟩, ⟨(by have q := (List.getElem?_eq_some_iff.1 hx).1; simp; omega : decide (Int.ofNat i < 10) = true)⟩, ⟨tq0⟩, ⟨nn i⟩, ⟨(by have q := (List.getElem?_eq_some_iff.1 hx).1; simp; omega : Int.ofNat i < Int.ofNat (List.length (List.map bR l)))⟩, ⟨gtm bR hx⟩, ⟨(by have w := h9 (by simp at tq0; omega); simp; omega : decide (Int.ofNat (UInt8.toNat b) > 1) = false)⟩, ⟨nn i⟩, ⟨(by have q := (List.getElem?_eq_some_iff.1 hx).1; simp; omega : Int.ofNat i < Int.ofNat (List.length (List.map bR l)))⟩, ⟨gtm bR hx⟩, ⟨(by rw [i64_small (by simp only [Int.ofNat_eq_natCast]; omega)]; simp : IntKind.wrap IntKind.i64 (7 * Int.ofNat i) = Int.ofNat (7 * i))⟩, ⟨nn (7 * i % 18446744073709551616)⟩, ⟨sh7r (by omega) hn (by omega)⟩, ⟨or7_go (by omega) hn (by omega)⟩, ⟨nn i⟩, ⟨(by have q := (List.getElem?_eq_some_iff.1 hx).1; simp; omega : Int.ofNat i < Int.ofNat (List.length (List.map bR l)))⟩, ⟨gtm bR hx⟩, ⟨(by have q := (List.getElem?_eq_some_iff.1 hx).1; simp; omega : decide (Int.ofNat (UInt8.toNat b) < 128) = true)⟩, ⟨tq1⟩, ⟨(by simp [hx] : false = false)⟩, ⟨w64 (i + 1) (by omega)⟩]

theorem rgL_2 (l : List UInt8) (b : UInt8) (n i : Nat) (hx : l[i]? = some b) (hi : i < 10) (hs : l.length ≤ 70000000) (hn : n < 128 ^ i) (h9 : i = 9 → b.toNat ≤ 1) (k9 : i = 9 → b.toNat % 128 ≤ 1) (hb : b.toNat < 128) (hz : b.toNat = 0 → i = 0) (tq0 : (Int.ofNat i == (9 : Int)) = false) (tq1 : (decide (Int.ofNat i > (0 : Int))) = true) : CodeC Try.prog 0 55 rgB (rgS l n i) .ret (rgT l (n + s7S b i) i (i + 1)) :=
 runS hmix [.reg 3 [(3, [], some true), (6, [], some true)], .reg 5 [(2, [], some false), (6, [.row (bR b)], none), (8, [], some false)], .reg 7 [(4, [.row (bR b)], none), (8, [.be (I ((7 * i : Nat) : Int))], none), (10, [.idx 0, .be (U ((s7S b i : Nat) : Int))], none), (11, [.be (U ((n + s7S b i : Nat) : Int))], none)], .reg 8 [(3, [.row (bR b)], none), (4, [], some true)], .reg 9 [(2, [], some true), (6, [.row (bR b)], none), (8, [], some false)], .reg 11 [(2, [.be (I ((i + 1 : Nat) : Int))], none)]] ⟨[0, 2, 3, 4, 5, 6], [], []⟩ [⟨(by have q := (List.getElem?_eq_some_iff.1 hx).1; simp; omega : decide (Int.ofNat i < Int.ofNat (List.length (List.map bR l))) = true)⟩, ⟨(by have q := (List.getElem?_eq_some_iff.1 hx).1; simp; omega : decide (Int.ofNat i < 10) = true)⟩, ⟨tq0⟩, ⟨(by simp [hx] : false = false)⟩, ⟨nn i⟩, ⟨(by have q := (List.getElem?_eq_some_iff.1 hx).1; simp; omega : Int.ofNat i < Int.ofNat (List.length (List.map bR l)))⟩, ⟨gtm bR hx⟩, ⟨(by rw [i64_small (by simp only [Int.ofNat_eq_natCast]; omega)]; simp : IntKind.wrap IntKind.i64 (7 * Int.ofNat i) = Int.ofNat (7 * i))⟩, ⟨nn (7 * i % 18446744073709551616)⟩, ⟨sh7r (by omega) hn (by omega)⟩, ⟨or7_go (by omega) hn (by omega)⟩, ⟨nn i⟩, ⟨(by have q := (List.getElem?_eq_some_iff.1 hx).1; simp; omega : Int.ofNat i < Int.ofNat (List.length (List.map bR l)))⟩, ⟨gtm bR hx⟩, ⟨(by have q := (List.getElem?_eq_some_iff.1 hx).1; simp; omega : decide (Int.ofNat (UInt8.toNat b) < 128) = true)⟩, ⟨tq1⟩, ⟨nn i⟩, ⟨(by have q := (List.getElem?_eq_some_iff.1 hx).1; simp; omega : Int.ofNat i < Int.ofNat (List.length (List.map bR l)))⟩, ⟨gtm bR hx⟩, ⟨(by have d0 := tq0; have d1 := tq1; try simp only [Int.ofNat_eq_natCast, List.length_map, Bool.not_eq_true', Bool.not_eq_false', decide_eq_true_eq, decide_eq_false_iff_not] at d0 d1; have q := (List.getElem?_eq_some_iff.1 hx).1; simp; omega : (Int.ofNat (UInt8.toNat b) == (0 : Int)) = false)⟩, ⟨w64 (i + 1) (by omega)⟩]

theorem rgL_3 (l : List UInt8) (b : UInt8) (n i : Nat) (hx : l[i]? = some b) (hi : i < 10) (hs : l.length ≤ 70000000) (hn : n < 128 ^ i) (h9 : i = 9 → b.toNat ≤ 1) (k9 : i = 9 → b.toNat % 128 ≤ 1) (hb : b.toNat < 128) (hz : b.toNat = 0 → i = 0) (tq0 : (Int.ofNat i == (9 : Int)) = false) (tq1 : (decide (Int.ofNat i > (0 : Int))) = false) : CodeC Try.prog 0 55 rgB (rgS l n i) .ret (rgT l (n + s7S b i) i (i + 1)) :=
 runS hmix [.reg 3 [(3, [], some true), (6, [], some true)], .reg 5 [(2, [], some false), (6, [.row (bR b)], none), (8, [], some false)], .reg 7 [(4, [.row (bR b)], none), (8, [.be (I ((7 * i : Nat) : Int))], none), (10, [.idx 0, .be (U ((s7S b i : Nat) : Int))], none), (11, [.be (U ((n + s7S b i : Nat) : Int))], none)], .reg 8 [(3, [.row (bR b)], none), (4, [], some true)], .reg 9 [(2, [], some false), (6, [.row (bR b)], none), (8, [], some false)], .reg 11 [(2, [.be (I ((i + 1 : Nat) : Int))], none)]] ⟨[0, 2, 3, 4, 5, 6], [], []⟩ [⟨(by have q := (List.getElem?_eq_some_iff.1 hx).1; simp; omega : decide (Int.ofNat i < Int.ofNat (List.length (List.map bR l))) = true)⟩, ⟨(by have q := (List.getElem?_eq_some_iff.1 hx).1; simp; omega : decide (Int.ofNat i < 10) = true)⟩, ⟨tq0⟩, ⟨(by simp [hx] : false = false)⟩, ⟨nn i⟩, ⟨(by have q := (List.getElem?_eq_some_iff.1 hx).1; simp; omega : Int.ofNat i < Int.ofNat (List.length (List.map bR l)))⟩, ⟨gtm bR hx⟩, ⟨(by rw [i64_small (by simp only [Int.ofNat_eq_natCast]; omega)]; simp : IntKind.wrap IntKind.i64 (7 * Int.ofNat i) = Int.ofNat (7 * i))⟩, ⟨nn (7 * i % 18446744073709551616)⟩, ⟨sh7r (by omega) hn (by omega)⟩, ⟨or7_go (by omega) hn (by omega)⟩, ⟨nn i⟩, ⟨(by have q := (List.getElem?_eq_some_iff.1 hx).1; simp; omega : Int.ofNat i < Int.ofNat (List.length (List.map bR l)))⟩, ⟨gtm bR hx⟩, ⟨(by have q := (List.getElem?_eq_some_iff.1 hx).1; simp; omega : decide (Int.ofNat (UInt8.toNat b) < 128) = true)⟩, ⟨tq1⟩, ⟨(by simp [hx] : false = false)⟩, ⟨w64 (i + 1) (by omega)⟩]

theorem rgL (l : List UInt8) (b : UInt8) (n i : Nat) (hx : l[i]? = some b) (hi : i < 10) (hs : l.length ≤ 70000000) (hn : n < 128 ^ i) (h9 : i = 9 → b.toNat ≤ 1) (k9 : i = 9 → b.toNat % 128 ≤ 1) (hb : b.toNat < 128) (hz : b.toNat = 0 → i = 0)  : CodeC Try.prog 0 55 rgB (rgS l n i) .ret (rgT l (n + s7S b i) i (i + 1)) := by
  rcases tf (Int.ofNat i == (9 : Int)) with tq0 | tq0
  · rcases tf (decide (Int.ofNat i > (0 : Int))) with tq1 | tq1
    · exact rgL_0 l b n i hx hi hs hn h9 k9 hb hz tq0 tq1
    · exact rgL_1 l b n i hx hi hs hn h9 k9 hb hz tq0 tq1
  · rcases tf (decide (Int.ofNat i > (0 : Int))) with tq1 | tq1
    · exact rgL_2 l b n i hx hi hs hn h9 k9 hb hz tq0 tq1
    · exact rgL_3 l b n i hx hi hs hn h9 k9 hb hz tq0 tq1

theorem rgE_0 (l : List UInt8) (n i : Nat) (h : l.length ≤ i ∨ 10 ≤ i) (tq0 : (decide (Int.ofNat i < Int.ofNat (List.length (List.map bR l)))) = true) : CodeC Try.prog 0 55 rgB (rgS l n i) (.exit 0) (rgS l n i) :=
 runS hmix [.reg 3 [(4, [], some true), (6, [], some false), (7, [], some false)]] ⟨[0, 2, 3, 4, 5, 6], [], []⟩ [⟨tq0⟩, ⟨(by have d0 := tq0; try simp only [Int.ofNat_eq_natCast, List.length_map, Bool.not_eq_true', Bool.not_eq_false', decide_eq_true_eq, decide_eq_false_iff_not] at d0; simp; omega : decide (Int.ofNat i < (10 : Int)) = false)⟩, ⟨(by simp : false = false)⟩]

theorem rgE_1 (l : List UInt8) (n i : Nat) (h : l.length ≤ i ∨ 10 ≤ i) (tq0 : (decide (Int.ofNat i < Int.ofNat (List.length (List.map bR l)))) = false) : CodeC Try.prog 0 55 rgB (rgS l n i) (.exit 0) (rgS l n i) :=
 runS hmix [.reg 3 [(4, [], some false), (6, [], some false), (7, [], some false)]] ⟨[0, 2, 3, 4, 5, 6], [], []⟩ [⟨tq0⟩, ⟨(by simp : false = false)⟩]

theorem rgE (l : List UInt8) (n i : Nat) (h : l.length ≤ i ∨ 10 ≤ i)  : CodeC Try.prog 0 55 rgB (rgS l n i) (.exit 0) (rgS l n i) := by
  rcases tf (decide (Int.ofNat i < Int.ofNat (List.length (List.map bR l)))) with tq0 | tq0
  · exact rgE_0 l n i h tq0
  · exact rgE_1 l n i h tq0

theorem rgAll (l : List UInt8) (hs : l.length ≤ 70000000) : ∀ (m i n : Nat), i + m = 10 → n < 128 ^ i →
    (∃ n' i', vgA i n m (l.drop i) = none ∧ LoopC Try.prog 0 55 rgB (rgS l n i) .ret (rgS l n' i')) ∨
    (∃ n' i', vgA i n m (l.drop i) = none ∧ LoopC Try.prog 0 55 rgB (rgS l n i) (.exit 0) (rgS l n' i')) ∨
    (∃ n' k i', vgA i n m (l.drop i) = some (n', k) ∧ LoopC Try.prog 0 55 rgB (rgS l n i) .ret (rgT l n' i' k))
  | 0, i, n, h, hn => .inr (.inl ⟨n, i, rfl, LoopC.last (rgE l n i (by omega)) (by simp)⟩)
  | m + 1, i, n, h, hn => by
    by_cases hi : i < l.length
    · have hx : l[i]? = some l[i] := List.getElem?_eq_getElem hi
      generalize l[i] = b at hx
      rw [vgA_step hx]
      by_cases h9 : i = 9 ∧ 1 < b.toNat
      · have e : (bif i == 9 && decide (1 < b.toNat % 128) then none
    else bif b.toNat == 0 && decide (0 < i) then none
    else bif decide (b.toNat < 128) then some (n + s7S b i, i + 1)
    else vgA (i + 1) (n + s7S b i) m (l.drop (i + 1))) = none := by
          obtain ⟨rfl, h1⟩ := h9
          have hm : m = 0 := by omega
          subst hm
          by_cases h2 : 1 < b.toNat % 128
          · simp [h2]
          · have h3 : ¬ b.toNat < 128 := by omega
            have h4 : b.toNat ≠ 0 := by omega
            simp [h2, h3, h4, vgA]
        exact .inl ⟨n, i, e, LoopC.last (rg9 l b n i hx h9.1 hs h9.2) (by simp)⟩
      · have k9' : i = 9 → b.toNat ≤ 1 := fun e => by omega
        have k9 : i = 9 → b.toNat % 128 ≤ 1 := fun e => by omega
        rw [show (i == 9 && decide (1 < b.toNat % 128)) = false by simp; omega]
        simp only [cond_false]
        by_cases hz : b.toNat = 0 ∧ 0 < i
        · rw [show (b.toNat == 0 && decide (0 < i)) = true by simp [hz.1, hz.2]]
          exact .inl ⟨_, i, rfl, LoopC.last (rg0 l b n i hx (by omega) hs hn k9' k9 hz.1 hz.2) (by simp)⟩
        · rw [show (b.toNat == 0 && decide (0 < i)) = false by simp; omega]
          simp only [cond_false]
          by_cases hb : b.toNat < 128
          · rw [show decide (b.toNat < 128) = true by simpa using hb]
            exact .inr (.inr ⟨_, _, i, rfl, LoopC.last (rgL l b n i hx (by omega) hs hn k9' k9 hb (fun e => by omega)) (by simp)⟩)
          · rw [show decide (b.toNat < 128) = false by simpa using hb]
            have hlt : n + s7S b i < 128 ^ (i + 1) := by
              rw [s7S_eq, Nat.pow_succ]
              have : b.toNat % 128 * 128 ^ i ≤ 127 * 128 ^ i := Nat.mul_le_mul_right _ (by omega)
              omega
            have go := rgGo l b n i hx (by omega) hs hn (by omega)
            rcases rgAll l hs m (i + 1) (n + s7S b i) (by omega) hlt with ⟨n', i', e, hl⟩ | ⟨n', i', e, hl⟩ | ⟨n', k, i', e, hl⟩
            · exact .inl ⟨n', i', e, LoopC.next go hl⟩
            · exact .inr (.inl ⟨n', i', e, LoopC.next go hl⟩)
            · exact .inr (.inr ⟨n', k, i', e, LoopC.next go hl⟩)
    · exact .inr (.inl ⟨n, i, vgA_nil (by omega), LoopC.last (rgE l n i (by omega)) (by simp)⟩)
theorem rget_a (l : List UInt8) (n i : Nat) (hl : LoopC Try.prog 0 55 rgB (rgS l 0 0) .ret (rgS l n i)) : Contract Try.prog 50 [.sl 1 (l.map bR)] [] (.tup [U 0, I 0, Bo false]) [] :=
 vcS hmix [.cut ⟨[0, 2, 3, 4, 5, 6], [], []⟩ .ret (rgS l n i)] [] [⟨hl⟩]

theorem rget_b (l : List UInt8) (n i : Nat) (hl : LoopC Try.prog 0 55 rgB (rgS l 0 0) (.exit 0) (rgS l n i)) : Contract Try.prog 50 [.sl 1 (l.map bR)] [] (.tup [U 0, I 0, Bo false]) [] :=
 vcS hmix [.cut ⟨[0, 2, 3, 4, 5, 6], [], []⟩ (.exit 0) (rgS l n i)] [] [⟨hl⟩]

theorem rget_c (l : List UInt8) (n i k : Nat) (hl : LoopC Try.prog 0 55 rgB (rgS l 0 0) .ret (rgT l n i k)) : Contract Try.prog 50 [.sl 1 (l.map bR)] [] (.tup [U (n : Int), I (k : Int), Bo true]) [] :=
 vcS hmix [.cut ⟨[0, 2, 3, 4, 5, 6], [], []⟩ .ret (rgT l n i k)] [] [⟨hl⟩]

theorem cGetRf (l : List UInt8) (hs : l.length ≤ 70000000) : Contract Try.prog 50 [.sl 1 (l.map bR)] [] (.tup [U ((getN l : Nat) : Int), I ((getK l : Nat) : Int), Bo (getOk l)]) [] := by
  have key := rgAll l hs 10 0 0 rfl (by decide)
  rw [List.drop_zero] at key
  unfold getN getK getOk vget
  rcases key with ⟨n', i', e, hl⟩ | ⟨n', i', e, hl⟩ | ⟨n', k, i', e, hl⟩
  · rw [e]; exact rget_a l n' i' hl
  · rw [e]; exact rget_b l n' i' hl
  · rw [e]; exact rget_c l n' i' k hl
end Go.Proofs.Ytdomjccibhgbjaa

