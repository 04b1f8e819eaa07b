/- spans. -/
import Derived.Test.YtfpdlamjlbpmkaaLibS
namespace Go.Proofs.Ytfpdlamjlbpmkaa
open E
set_option maxRecDepth 100000
set_option linter.unusedVariables false
set_option linter.unusedSimpArgs false


/-- An attribute. -/
structure At where
  key : ByteArray
  val : ByteArray
def At.row (a : At) : List V := [Sg a.key, Sg a.val]
def At.v (a : At) : V := .agg a.row
/-- A span. -/
structure Sp where
  hi : Int
  lo : Int
  id : Int
  par : Int
  svc : ByteArray
  op : ByteArray
  start : Int
  dur : Int
  err : Bool
  attrs : List At
def Sp.row (s : Sp) : List V := [U s.hi, U s.lo, U s.id, U s.par, Sg s.svc, Sg s.op, I s.start, I s.dur, Bo s.err, .sl 2 (s.attrs.map At.row)]
def Sp.v (s : Sp) : V := .agg s.row
def withinB (n lo hi : Int) : Bool := decide (n ≥ lo) && decide (n ≤ hi)
def nameB (s : ByteArray) : Bool := withinB (s.size : Int) 1 16
def pKey (a y : At) : Bool := y.key.toList == a.key.toList
def FName : List V → Option V
  | [.val (.string s)] => some (Bo (nameB s))
  | _ => none
/-- What is wrong with an attribute. -/
def badA (l : List At) (i : Nat) (a : At) : Bool := !nameB a.key || decide ((a.val.size : Int) > 16) || decide (0 ≤ idxI (pKey a) (l.take i))
def attrsB (l : List At) : Bool := (List.range l.length).all (fun i => match l[i]? with
  | some a => !badA l i a
  | none => true) && decide ((l.length : Int) ≤ 4)
def rightS (s : Sp) : Bool := nameB s.svc && nameB s.op && withinB s.start 0 1099511627776 && withinB s.dur 0 1073741824 && decide ((s.attrs.length : Int) ≤ 4) && attrsB s.attrs
theorem all_of_idx {α : Type} {p : α → Bool} {l : List α} (h : ∀ (i : Nat) (x : α), l[i]? = some x → p x = false) : l.all (fun a => !p a) = true := by
  rw [List.all_eq_true]
  intro x hx
  obtain ⟨i, hi⟩ := List.mem_iff_getElem?.1 hx
  rw [h i x hi]; rfl
theorem all_not {α : Type} {p : α → Bool} {l : List α} {i : Nat} {x : α} (h : l[i]? = some x) (hp : p x = true) : l.all (fun a => !p a) = false := by
  rw [List.all_eq_false]
  exact ⟨x, List.mem_of_getElem? h, by rw [hp]; simp⟩
theorem attrs_bad {l : List At} {i : Nat} {a : At} (h : l[i]? = some a) (hb : badA l i a = true) : attrsB l = false := by
  unfold attrsB
  rw [Bool.and_eq_false_iff]
  left
  rw [List.all_eq_false]
  exact ⟨i, List.mem_range.2 (List.getElem?_eq_some_iff.1 h).1, by rw [h]; simp [hb]⟩
theorem attrs_good {l : List At} (h : ∀ (i : Nat) (a : At), l[i]? = some a → badA l i a = false) : attrsB l = decide ((l.length : Int) ≤ 4) := by
  unfold attrsB
  have : ((List.range l.length).all fun i => match l[i]? with
    | some a => !badA l i a
    | none => true) = true := by
    rw [List.all_eq_true]
    intro i hi
    cases hx : l[i]? with
    | none => rfl
    | some a => simp [h i a hx]
  rw [this, Bool.true_and]
end Go.Proofs.Ytfpdlamjlbpmkaa
