/- merge: which two blocks. -/
import Derived.Test.YtfpdlamjlbpmkaaEpA
namespace Go.Proofs.Ytfpdlamjlbpmkaa
open E
set_option maxRecDepth 100000
set_option linter.unusedVariables false
set_option linter.unusedSimpArgs false


/-- A block. -/
structure Bk where
  num : Int
  born : Int
  tier : Int
  eps : List Ep
def Bk.row (b : Bk) : List V := [I b.num, I b.born, I b.tier, .sl 6 (b.eps.map Ep.row)]
def Bk.v (b : Bk) : V := .agg b.row
def pT (b y : Bk) : Bool := y.tier == b.tier
def pkS (l : List Bk) (f : Bool) (a b i : Nat) : SL := ⟨[(0, .sl 4 (l.map Bk.row)), (5, Bo f), (6, I (a : Int)), (7, I (b : Int)), (11, .sl 4 (l.map Bk.row)), (12, I (l.length : Int)), (13, I (i : Int))], [], []⟩
noncomputable def pkB : Code := codeAt Try.prog 9 [true, true, false, true, false, false]

theorem cPk1_0 (b x : Bk)  : Contract Try.prog 19 [x.v, .ptr 0 0 0 0] [.box b.row] (Bo (Bk.tier x == Bk.tier b)) ([some (Obj.box [I (Bk.num b), I (Bk.born b), I (Bk.tier b), V.sl (6 : Nat) (List.map Ep.row (Bk.eps b))])]) :=
  vcP hmix [] [] [
      ] (by kernel_rfl)
    trivial

theorem cPk1 (b x : Bk)  : Contract Try.prog 19 [x.v, .ptr 0 0 0 0] [.box b.row] (Bo (pT b x)) [some (.box b.row)] := by
  exact Contract.cast (by
    first
      | rfl) (by
    first
      | rfl) (cPk1_0 b x  )

def ixBS (l : List Bk) (b : Bk) (i : Nat) (r : Int) : SL := ⟨[(0, .sl 4 (l.map Bk.row)), (1, .clo (.func 19) [] [.ptr 0 0 0 0]), (4, I r), (7, I (l.length : Int)), (8, I (i : Int))], [(0, .box b.row)], [0, 0]⟩
noncomputable def ixBB : Code := codeAt Try.prog 18 [true, false, true, false, false]

theorem ixBNo (l : List Bk) (b : Bk) (x : Bk) (i : Nat) (h : i < l.length) (hx : l[i]? = some x) (hs : l.length ≤ 1000000000000000) (hp : (pT b) x = false) : CodeC Try.prog 1 19 ixBB (ixBS l b i 0) .normal (ixBS l b (i + 1) 0) :=
  runP hmix [.reg 2 [(0, [], some true)], .reg 4 [(4, [.row (Bk.row x)], none), (5, [.call [0] [] (Bo ((pT b) x)) [some (.box b.row)]], some false)], .reg 6 [(0, [.be (I ((i + 1 : Nat) : Int))], none)]] ⟨[0, 1, 4, 7, 8], [(0, 0)], []⟩ [
      decide (Int.ofNat i < Int.ofNat (List.length l)) = true,
      (0 : Int) ≤ Int.ofNat i,
      Int.ofNat i < Int.ofNat (List.length (List.map Bk.row l)),
      (List.map Bk.row l)[i]? = some (Bk.row x),
      Contract Try.prog (19 : Nat) [V.agg [I (Bk.num x), I (Bk.born x), I (Bk.tier x), V.sl (6 : Nat) (List.map Ep.row (Bk.eps x))], V.ptr (0 : Nat) (0 : Nat) (0 : Nat) (0 : Nat)] [Obj.box [I (Bk.num b), I (Bk.born b), I (Bk.tier b), V.sl (6 : Nat) (List.map Ep.row (Bk.eps b))]] (Bo (pT b x)) [some (Obj.box (Bk.row b))],
      pT b x = false,
      IntKind.wrap IntKind.i64 (Int.ofNat (i + (1 : Nat))) = Int.ofNat (i + (1 : Nat))] (by kernel_rfl)
    (by
      simp only [allP]
      and_intros <;> first
        | omega
        | exact cPk1 b x
        | (simp; omega)
        | (simp [hx]; done)
        | exact i64_small (by simp; omega))

theorem ixBYes (l : List Bk) (b : Bk) (x : Bk) (i : Nat) (h : i < l.length) (hx : l[i]? = some x) (hs : l.length ≤ 1000000000000000) (hp : (pT b) x = true) : CodeC Try.prog 1 19 ixBB (ixBS l b i 0) .ret (ixBS l b i (i : Int)) :=
  runP hmix [.reg 2 [(0, [], some true)], .reg 4 [(4, [.row (Bk.row x)], none), (5, [.call [0] [] (Bo ((pT b) x)) [some (.box b.row)]], some true)]] ⟨[0, 1, 4, 7, 8], [(0, 0)], []⟩ [
      decide (Int.ofNat i < Int.ofNat (List.length l)) = true,
      (0 : Int) ≤ Int.ofNat i,
      Int.ofNat i < Int.ofNat (List.length (List.map Bk.row l)),
      (List.map Bk.row l)[i]? = some (Bk.row x),
      Contract Try.prog (19 : Nat) [V.agg [I (Bk.num x), I (Bk.born x), I (Bk.tier x), V.sl (6 : Nat) (List.map Ep.row (Bk.eps x))], V.ptr (0 : Nat) (0 : Nat) (0 : Nat) (0 : Nat)] [Obj.box [I (Bk.num b), I (Bk.born b), I (Bk.tier b), V.sl (6 : Nat) (List.map Ep.row (Bk.eps b))]] (Bo (pT b x)) [some (Obj.box (Bk.row b))],
      pT b x = true] (by kernel_rfl)
    (by
      simp only [allP]
      and_intros <;> first
        | omega
        | exact cPk1 b x
        | (simp; omega)
        | (simp [hx]; done))

theorem ixBEnd (l : List Bk) (b : Bk) (i : Nat) (h : l.length ≤ i) : CodeC Try.prog 1 19 ixBB (ixBS l b i 0) (.exit 0) (ixBS l b i 0) :=
  runP hmix [.reg 2 [(0, [], some false)]] ⟨[0, 1, 4, 7, 8], [(0, 0)], []⟩ [
      decide (Int.ofNat i < Int.ofNat (List.length l)) = false] (by kernel_rfl)
    (by
      simp only [allP]
      and_intros <;> first
        | (simp; omega))

theorem ixBLoop (l : List Bk) (b : Bk) (hs : l.length ≤ 1000000000000000) : ∀ (n i : Nat), i + n = l.length →
    match (l.drop i).findIdx? (pT b) with
    | some j => LoopC Try.prog 1 19 ixBB (ixBS l b i 0) .ret (ixBS l b (i + j) ((i + j : Nat) : Int))
    | none => LoopC Try.prog 1 19 ixBB (ixBS l b i 0) (.exit 0) (ixBS l b l.length 0)
  | 0, i, hi => by
    rw [List.drop_of_length_le (by omega)]
    have : i = l.length := by omega
    subst this
    exact LoopC.last (ixBEnd l b _ (by omega)) (by simp)
  | n + 1, i, hi => by
    have hlt : i < l.length := by omega
    have hx : l[i]? = some l[i] := by simp [hlt]
    have ih := ixBLoop l b hs n (i + 1) (by omega)
    rw [List.drop_eq_getElem_cons hlt, List.findIdx?_cons]
    cases hp : (pT b) l[i] with
    | true =>
      simp only [if_true, Nat.add_zero]
      exact LoopC.last (ixBYes l b l[i] i hlt hx hs hp) (by simp)
    | false =>
      have r := ixBNo l b l[i] i hlt hx hs hp
      simp only [Bool.false_eq_true, if_false]
      cases hf : (l.drop (i + 1)).findIdx? (pT b) with
      | none => rw [hf] at ih; exact LoopC.next r ih
      | some j =>
        rw [hf] at ih
        simp only [Option.map_some]
        rw [show i + (j + 1) = i + 1 + j by omega]
        exact LoopC.next r ih

theorem ixBSome (l : List Bk) (b : Bk) (j : Nat) (hs : l.length ≤ 1000000000000000) (h : l.findIdx? (pT b) = some j) : Contract Try.prog 18 [.sl 4 (l.map Bk.row), .clo (.func 19) [] [.ptr 0 0 0 0]] [.box b.row] (I (j : Int)) [some (.box b.row)] :=
  have hl := ixBLoop l b hs l.length 0 (by omega)
  have hl : LoopC Try.prog 1 19 ixBB (ixBS l b 0 0) .ret (ixBS l b j ((j : Nat) : Int)) := by rw [List.drop_zero, h] at hl; simpa using hl
  vcP hmix [.reg 1 [(1, [.be (I (l.length : Int))], none)], .cut ⟨[0, 1, 4, 7, 8], [(0, 0)], []⟩ .ret (ixBS l b j (j : Int))] [] [(((l.map Bk.row).length : Nat) : Int) = (l.length : Int), LoopC Try.prog 1 19 ixBB (ixBS l b 0 0) .ret (ixBS l b j ((j : Nat) : Int))] (by kernel_rfl) ⟨by simp, hl⟩

theorem ixBNone (l : List Bk) (b : Bk) (hs : l.length ≤ 1000000000000000) (h : l.findIdx? (pT b) = none) : Contract Try.prog 18 [.sl 4 (l.map Bk.row), .clo (.func 19) [] [.ptr 0 0 0 0]] [.box b.row] (I (-1)) [some (.box b.row)] :=
  have hl := ixBLoop l b hs l.length 0 (by omega)
  have hl : LoopC Try.prog 1 19 ixBB (ixBS l b 0 0) (.exit 0) (ixBS l b l.length 0) := by rw [List.drop_zero, h] at hl; exact hl
  vcP hmix [.reg 1 [(1, [.be (I (l.length : Int))], none)], .cut ⟨[0, 1, 4, 7, 8], [(0, 0)], []⟩ (.exit 0) (ixBS l b l.length 0)] [] [(((l.map Bk.row).length : Nat) : Int) = (l.length : Int), LoopC Try.prog 1 19 ixBB (ixBS l b 0 0) (.exit 0) (ixBS l b l.length 0)] (by kernel_rfl) ⟨by simp, hl⟩

theorem ixB (l : List Bk) (b : Bk) (hs : l.length ≤ 1000000000000000) : Contract Try.prog 18 [.sl 4 (l.map Bk.row), .clo (.func 19) [] [.ptr 0 0 0 0]] [.box b.row] (I (idxI (pT b) l)) [some (.box b.row)] := by
  unfold idxI
  cases h : l.findIdx? (pT b) with
  | none => exact ixBNone l b hs h
  | some j => exact ixBSome l b j hs h

end Go.Proofs.Ytfpdlamjlbpmkaa
