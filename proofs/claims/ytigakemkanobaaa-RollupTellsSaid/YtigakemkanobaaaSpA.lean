/- spans: names, and what slices tells of attributes. -/
import Derived.Test.YtigakemkanobaaaLibS
namespace Go.Proofs.Ytigakemkanobaaa
open E
set_option maxRecDepth 100000
set_option linter.unusedVariables false
set_option linter.unusedSimpArgs false


/-- An attribute. -/
structure At where
  key : ByteArray
  val : ByteArray
def At.row (a : At) : List V := [Sg a.key, Sg a.val]
def At.v (a : At) : V := .agg a.row
/-- A span. -/
structure Sp where
  hi : Int
  lo : Int
  id : Int
  par : Int
  svc : ByteArray
  op : ByteArray
  start : Int
  dur : Int
  err : Bool
  attrs : List At
def Sp.row (s : Sp) : List V := [U s.hi, U s.lo, U s.id, U s.par, Sg s.svc, Sg s.op, I s.start, I s.dur, Bo s.err, .sl 2 (s.attrs.map At.row)]
def Sp.v (s : Sp) : V := .agg s.row
def withinB (n lo hi : Int) : Bool := decide (n ≥ lo) && decide (n ≤ hi)
def nameB (s : ByteArray) : Bool := withinB (s.size : Int) 1 16
def pKey (a y : At) : Bool := y.key.toList == a.key.toList
def FName : List V → Option V
  | [.val (.string s)] => some (Bo (nameB s))
  | _ => none
/-- What is wrong with an attribute. -/
def badA (l : List At) (i : Nat) (a : At) : Bool := !nameB a.key || decide ((a.val.size : Int) > 16) || decide (0 ≤ idxI (pKey a) (l.take i))
def attrsB (l : List At) : Bool := (List.range l.length).all (fun i => match l[i]? with
  | some a => !badA l i a
  | none => true) && decide ((l.length : Int) ≤ 4)
def rightS (s : Sp) : Bool := nameB s.svc && nameB s.op && withinB s.start 0 1099511627776 && withinB s.dur 0 1073741824 && decide ((s.attrs.length : Int) ≤ 4) && attrsB s.attrs
theorem all_of_idx {α : Type} {p : α → Bool} {l : List α} (h : ∀ (i : Nat) (x : α), l[i]? = some x → p x = false) : l.all (fun a => !p a) = true := by
  rw [List.all_eq_true]
  intro x hx
  obtain ⟨i, hi⟩ := List.mem_iff_getElem?.1 hx
  rw [h i x hi]; rfl
theorem all_not {α : Type} {p : α → Bool} {l : List α} {i : Nat} {x : α} (h : l[i]? = some x) (hp : p x = true) : l.all (fun a => !p a) = false := by
  rw [List.all_eq_false]
  exact ⟨x, List.mem_of_getElem? h, by rw [hp]; simp⟩
theorem attrs_bad {l : List At} {i : Nat} {a : At} (h : l[i]? = some a) (hb : badA l i a = true) : attrsB l = false := by
  unfold attrsB
  rw [Bool.and_eq_false_iff]
  left
  rw [List.all_eq_false]
  exact ⟨i, List.mem_range.2 (List.getElem?_eq_some_iff.1 h).1, by rw [h]; simp [hb]⟩
theorem attrs_good {l : List At} (h : ∀ (i : Nat) (a : At), l[i]? = some a → badA l i a = false) : attrsB l = decide ((l.length : Int) ≤ 4) := by
  unfold attrsB
  have : ((List.range l.length).all fun i => match l[i]? with
    | some a => !badA l i a
    | none => true) = true := by
    rw [List.all_eq_true]
    intro i hi
    cases hx : l[i]? with
    | none => rfl
    | some a => simp [h i a hx]
  rw [this, Bool.true_and]
theorem cName_0 (s : ByteArray)  (tq0 : (decide (Int.ofNat (ByteArray.size s) ≥ (1 : Int))) = true) : Contract Try.prog 40 [Sg s] [] (Bo (decide (Int.ofNat (ByteArray.size s) ≤ (16 : Int)))) ([]) :=
  vcP hmix [.reg 1 [(3, [], some true)]] [] [
      decide (Int.ofNat (ByteArray.size s) ≥ (1 : Int)) = true] (by kernel_rfl)
    (by
      have d0 := tq0
      try simp only [Int.ofNat_eq_natCast, List.length_map, Bool.not_eq_true', Bool.not_eq_false', decide_eq_true_eq, decide_eq_false_iff_not] at d0
      simp only [allP]
      and_intros <;> first
        | omega)

theorem cName_1 (s : ByteArray)  (tq0 : (decide (Int.ofNat (ByteArray.size s) ≥ (1 : Int))) = false) : Contract Try.prog 40 [Sg s] [] (Bo false) ([]) :=
  vcP hmix [.reg 1 [(3, [], some false)]] [] [
      decide (Int.ofNat (ByteArray.size s) ≥ (1 : Int)) = false] (by kernel_rfl)
    (by
      have d0 := tq0
      try simp only [Int.ofNat_eq_natCast, List.length_map, Bool.not_eq_true', Bool.not_eq_false', decide_eq_true_eq, decide_eq_false_iff_not] at d0
      simp only [allP]
      and_intros <;> first
        | omega)

theorem cName (s : ByteArray)  : Contract Try.prog 40 [Sg s] [] (Bo (nameB s)) [] := by
  rcases tf (decide (Int.ofNat (ByteArray.size s) ≥ (1 : Int))) with tq0 | tq0
  · exact Contract.cast (by
      first
        | ((try simp only [Int.ofNat_eq_natCast, List.length_map, Bool.not_eq_true', Bool.not_eq_false', decide_eq_true_eq, decide_eq_false_iff_not] at tq0); simp [nameB, withinB, tq0]; done)) (by
      first
        | rfl) (cName_0 s  tq0)
  · exact Contract.cast (by
      first
        | ((try simp only [Int.ofNat_eq_natCast, List.length_map, Bool.not_eq_true', Bool.not_eq_false', decide_eq_true_eq, decide_eq_false_iff_not] at tq0); simp [nameB, withinB, tq0]; done)) (by
      first
        | rfl) (cName_1 s  tq0)

theorem cKey1_0 (x a : At)  : Contract Try.prog 53 [x.v, .ptr 0 0 0 0] [.box a.row] (Bo (ByteArray.toList (At.key x) == ByteArray.toList (At.key a))) ([some (Obj.box [Sg (At.key a), Sg (At.val a)])]) :=
  vcP hmix [] [] [
      ] (by kernel_rfl)
    trivial

theorem cKey1 (x a : At)  : Contract Try.prog 53 [x.v, .ptr 0 0 0 0] [.box a.row] (Bo (pKey a x)) [some (.box a.row)] := by
  exact Contract.cast (by
    first
      | rfl) (by
    first
      | rfl) (cKey1_0 x a  )

def ixKS (l : List At) (a : At) (i : Nat) (r : Int) : SL := ⟨[(0, .sl 2 (l.map At.row)), (1, .clo (.func 53) [] [.ptr 0 0 0 0]), (4, I r), (7, I (l.length : Int)), (8, I (i : Int))], [(0, .box a.row)], [0, 0]⟩
noncomputable def ixKB : Code := codeAt Try.prog 62 [true, false, true, false, false]

theorem ixKNo (l : List At) (a : At) (x : At) (i : Nat) (h : i < l.length) (hx : l[i]? = some x) (hs : l.length ≤ 1000000000000000) (hp : (pKey a) x = false) : CodeC Try.prog 1 19 ixKB (ixKS l a i 0) .normal (ixKS l a (i + 1) 0) :=
  runP hmix [.reg 2 [(0, [], some true)], .reg 4 [(4, [.row (At.row x)], none), (5, [.call [0] [] (Bo ((pKey a) x)) [some (.box a.row)]], some false)], .reg 6 [(0, [.be (I ((i + 1 : Nat) : Int))], none)]] ⟨[0, 1, 4, 7, 8], [(0, 0)], []⟩ [
      decide (Int.ofNat i < Int.ofNat (List.length l)) = true,
      (0 : Int) ≤ Int.ofNat i,
      Int.ofNat i < Int.ofNat (List.length (List.map At.row l)),
      (List.map At.row l)[i]? = some (At.row x),
      Contract Try.prog (53 : Nat) [V.agg [Sg (At.key x), Sg (At.val x)], V.ptr (0 : Nat) (0 : Nat) (0 : Nat) (0 : Nat)] [Obj.box [Sg (At.key a), Sg (At.val a)]] (Bo (pKey a x)) [some (Obj.box (At.row a))],
      pKey a x = false,
      IntKind.wrap IntKind.i64 (Int.ofNat (i + (1 : Nat))) = Int.ofNat (i + (1 : Nat))] (by kernel_rfl)
    (by
      simp only [allP]
      and_intros <;> first
        | omega
        | exact cKey1 x a
        | (simp; omega)
        | (simp [hx]; done)
        | exact i64_small (by simp; omega))

theorem ixKYes (l : List At) (a : At) (x : At) (i : Nat) (h : i < l.length) (hx : l[i]? = some x) (hs : l.length ≤ 1000000000000000) (hp : (pKey a) x = true) : CodeC Try.prog 1 19 ixKB (ixKS l a i 0) .ret (ixKS l a i (i : Int)) :=
  runP hmix [.reg 2 [(0, [], some true)], .reg 4 [(4, [.row (At.row x)], none), (5, [.call [0] [] (Bo ((pKey a) x)) [some (.box a.row)]], some true)]] ⟨[0, 1, 4, 7, 8], [(0, 0)], []⟩ [
      decide (Int.ofNat i < Int.ofNat (List.length l)) = true,
      (0 : Int) ≤ Int.ofNat i,
      Int.ofNat i < Int.ofNat (List.length (List.map At.row l)),
      (List.map At.row l)[i]? = some (At.row x),
      Contract Try.prog (53 : Nat) [V.agg [Sg (At.key x), Sg (At.val x)], V.ptr (0 : Nat) (0 : Nat) (0 : Nat) (0 : Nat)] [Obj.box [Sg (At.key a), Sg (At.val a)]] (Bo (pKey a x)) [some (Obj.box (At.row a))],
      pKey a x = true] (by kernel_rfl)
    (by
      simp only [allP]
      and_intros <;> first
        | omega
        | exact cKey1 x a
        | (simp; omega)
        | (simp [hx]; done))

theorem ixKEnd (l : List At) (a : At) (i : Nat) (h : l.length ≤ i) : CodeC Try.prog 1 19 ixKB (ixKS l a i 0) (.exit 0) (ixKS l a i 0) :=
  runP hmix [.reg 2 [(0, [], some false)]] ⟨[0, 1, 4, 7, 8], [(0, 0)], []⟩ [
      decide (Int.ofNat i < Int.ofNat (List.length l)) = false] (by kernel_rfl)
    (by
      simp only [allP]
      and_intros <;> first
        | (simp; omega))

theorem ixKLoop (l : List At) (a : At) (hs : l.length ≤ 1000000000000000) : ∀ (n i : Nat), i + n = l.length →
    match (l.drop i).findIdx? (pKey a) with
    | some j => LoopC Try.prog 1 19 ixKB (ixKS l a i 0) .ret (ixKS l a (i + j) ((i + j : Nat) : Int))
    | none => LoopC Try.prog 1 19 ixKB (ixKS l a i 0) (.exit 0) (ixKS l a l.length 0)
  | 0, i, hi => by
    rw [List.drop_of_length_le (by omega)]
    have : i = l.length := by omega
    subst this
    exact LoopC.last (ixKEnd l a _ (by omega)) (by simp)
  | n + 1, i, hi => by
    have hlt : i < l.length := by omega
    have hx : l[i]? = some l[i] := by simp [hlt]
    have ih := ixKLoop l a hs n (i + 1) (by omega)
    rw [List.drop_eq_getElem_cons hlt, List.findIdx?_cons]
    cases hp : (pKey a) l[i] with
    | true =>
      simp only [if_true, Nat.add_zero]
      exact LoopC.last (ixKYes l a l[i] i hlt hx hs hp) (by simp)
    | false =>
      have r := ixKNo l a l[i] i hlt hx hs hp
      simp only [Bool.false_eq_true, if_false]
      cases hf : (l.drop (i + 1)).findIdx? (pKey a) with
      | none => rw [hf] at ih; exact LoopC.next r ih
      | some j =>
        rw [hf] at ih
        simp only [Option.map_some]
        rw [show i + (j + 1) = i + 1 + j by omega]
        exact LoopC.next r ih

theorem ixKSome (l : List At) (a : At) (j : Nat) (hs : l.length ≤ 1000000000000000) (h : l.findIdx? (pKey a) = some j) : Contract Try.prog 62 [.sl 2 (l.map At.row), .clo (.func 53) [] [.ptr 0 0 0 0]] [.box a.row] (I (j : Int)) [some (.box a.row)] :=
  have hl := ixKLoop l a hs l.length 0 (by omega)
  have hl : LoopC Try.prog 1 19 ixKB (ixKS l a 0 0) .ret (ixKS l a j ((j : Nat) : Int)) := by rw [List.drop_zero, h] at hl; simpa using hl
  vcP hmix [.reg 1 [(1, [.be (I (l.length : Int))], none)], .cut ⟨[0, 1, 4, 7, 8], [(0, 0)], []⟩ .ret (ixKS l a j (j : Int))] [] [(((l.map At.row).length : Nat) : Int) = (l.length : Int), LoopC Try.prog 1 19 ixKB (ixKS l a 0 0) .ret (ixKS l a j ((j : Nat) : Int))] (by kernel_rfl) ⟨by simp, hl⟩

theorem ixKNone (l : List At) (a : At) (hs : l.length ≤ 1000000000000000) (h : l.findIdx? (pKey a) = none) : Contract Try.prog 62 [.sl 2 (l.map At.row), .clo (.func 53) [] [.ptr 0 0 0 0]] [.box a.row] (I (-1)) [some (.box a.row)] :=
  have hl := ixKLoop l a hs l.length 0 (by omega)
  have hl : LoopC Try.prog 1 19 ixKB (ixKS l a 0 0) (.exit 0) (ixKS l a l.length 0) := by rw [List.drop_zero, h] at hl; exact hl
  vcP hmix [.reg 1 [(1, [.be (I (l.length : Int))], none)], .cut ⟨[0, 1, 4, 7, 8], [(0, 0)], []⟩ (.exit 0) (ixKS l a l.length 0)] [] [(((l.map At.row).length : Nat) : Int) = (l.length : Int), LoopC Try.prog 1 19 ixKB (ixKS l a 0 0) (.exit 0) (ixKS l a l.length 0)] (by kernel_rfl) ⟨by simp, hl⟩

theorem ixK (l : List At) (a : At) (hs : l.length ≤ 1000000000000000) : Contract Try.prog 62 [.sl 2 (l.map At.row), .clo (.func 53) [] [.ptr 0 0 0 0]] [.box a.row] (I (idxI (pKey a) l)) [some (.box a.row)] := by
  unfold idxI
  cases h : l.findIdx? (pKey a) with
  | none => exact ixKNone l a hs h
  | some j => exact ixKSome l a j hs h

end Go.Proofs.Ytigakemkanobaaa
