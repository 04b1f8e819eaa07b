/- edges: what compares, and what adds. -/
import Derived.Test.YtieffigehkjifaaLibS
namespace Go.Proofs.Ytieffigehkjifaa
open E
set_option maxRecDepth 100000
set_option linter.unusedVariables false
set_option linter.unusedSimpArgs false


/-- An edge. -/
structure Ed where
  fr : ByteArray
  to : ByteArray
  cnt : Int
  errs : Int
def Ed.row (e : Ed) : List V := [Sg e.fr, Sg e.to, I e.cnt, I e.errs]
def Ed.v (e : Ed) : V := .agg e.row
/-- How two edges stand to one another. -/
def cmpD (a b : Ed) : Int := orI (cmpS a.fr b.fr) (cmpS a.to b.to)
/-- An attribute. -/
structure At where
  key : ByteArray
  val : ByteArray
def At.row (a : At) : List V := [Sg a.key, Sg a.val]
def At.v (a : At) : V := .agg a.row
/-- A span. -/
structure Sp where
  hi : Int
  lo : Int
  id : Int
  par : Int
  svc : ByteArray
  op : ByteArray
  start : Int
  dur : Int
  err : Bool
  attrs : List At
def Sp.row (s : Sp) : List V := [U s.hi, U s.lo, U s.id, U s.par, Sg s.svc, Sg s.op, I s.start, I s.dur, Bo s.err, .sl 2 (s.attrs.map At.row)]
def Sp.v (s : Sp) : V := .agg s.row
def nameB (s : ByteArray) : Bool := bif decide (1 ≤ (s.size : Int)) then decide ((s.size : Int) ≤ 16) else false
def mn (a b : Int) : Int := if b < a then b else a
def mx (a b : Int) : Int := if a < b then b else a
def plusR (a b most : Int) : Int :=
  let m := mx 0 most
  let a := mx 0 (mn a m)
  let b := mx 0 (mn b m)
  IntKind.i64.wrap (a + mn b (IntKind.i64.wrap (m - a)))
def pEq (e y : Ed) : Bool := cmpD y e == 0
def pGt (e y : Ed) : Bool := decide (0 < cmpD y e)
def pKey (a y : At) : Bool := y.key.toList == a.key.toList
theorem cNaN (s : ByteArray) : Contract Try.prog 31 [Sg s] [] (Bo false) [] :=
  vcP hmix [.reg 1 [(2, [], some false)]] [] [
      (!ByteArray.toList s == ByteArray.toList s) = false] (by kernel_rfl)
    (by simp [allP])

theorem cCmp (s t : ByteArray) : Contract Try.prog 27 [Sg s, Sg t] [] (I (cmpS s t)) [] := by
  unfold cmpS
  cases h1 : ltS s t with
  | true => exact vcP hmix [.reg 9 [(2, [], some true)], .tab [(31, FNaN)]] [] [
      Contract Try.prog (31 : Nat) [Sg s] [] (Bo false) [],
      Contract Try.prog (31 : Nat) [Sg t] [] (Bo false) [],
      Op.bytesLess (ByteArray.toList s) (ByteArray.toList t) = true] (by kernel_rfl) ⟨cNaN s, cNaN t, h1⟩
  | false =>
    cases h2 : (!(ltS s t || s.toList == t.toList)) with
    | true => rw [h1] at h2; simp only [h2]; exact vcP hmix [.reg 9 [(2, [], some false)], .reg 11 [(2, [], some true)], .tab [(31, FNaN)]] [] [
      Contract Try.prog (31 : Nat) [Sg s] [] (Bo false) [],
      Contract Try.prog (31 : Nat) [Sg t] [] (Bo false) [],
      Op.bytesLess (ByteArray.toList s) (ByteArray.toList t) = false,
      (!(Op.bytesLess (ByteArray.toList s) (ByteArray.toList t) || ByteArray.toList s == ByteArray.toList t)) = true] (by kernel_rfl) ⟨cNaN s, cNaN t, h1, (by unfold ltS at h1; simp only [allP, h1]; exact h2)⟩
    | false => rw [h1] at h2; simp only [h2]; exact vcP hmix [.reg 9 [(2, [], some false)], .reg 11 [(2, [], some false)], .tab [(31, FNaN)]] [] [
      Contract Try.prog (31 : Nat) [Sg s] [] (Bo false) [],
      Contract Try.prog (31 : Nat) [Sg t] [] (Bo false) [],
      Op.bytesLess (ByteArray.toList s) (ByteArray.toList t) = false,
      (!(Op.bytesLess (ByteArray.toList s) (ByteArray.toList t) || ByteArray.toList s == ByteArray.toList t)) = false] (by kernel_rfl) ⟨cNaN s, cNaN t, h1, (by unfold ltS at h1; simp only [allP, h1]; exact h2)⟩

theorem cOr (a b : Int) : Contract Try.prog 26 [.sl 1 [[I a], [I b]]] [] (I (orI a b)) [] := by
  unfold orI
  cases h1 : a != 0 with
  | true => exact vcP hmix [.unroll 3, .reg 5 [(2, [], some true)]] [] [
      (0 : Int) ≤ (0 : Int),
      (0 : Int) < (2 : Int),
      (a != (0 : Int)) = true] (by kernel_rfl) (by
      simp only [allP]
      and_intros <;> first
        | omega
        | with_reducible assumption
        | exact h1
        | (simp; done)
        | decide)
  | false =>
    cases h2 : b != 0 with
    | true => exact vcP hmix [.unroll 3, .reg 5 [(2, [], some false)], .reg 5 [(2, [], some true)]] [] [
      (0 : Int) ≤ (0 : Int),
      (0 : Int) < (2 : Int),
      (a != (0 : Int)) = false,
      (0 : Int) ≤ (1 : Int),
      (1 : Int) < (2 : Int),
      (b != (0 : Int)) = true] (by kernel_rfl) (by
      simp only [allP]
      and_intros <;> first
        | omega
        | with_reducible assumption
        | exact h1
        | (simp; done)
        | decide)
    | false =>
      have hb : b = 0 := by simpa using h2
      subst hb
      exact vcP hmix [.unroll 3, .reg 5 [(2, [], some false)]] [] [
      (0 : Int) ≤ (0 : Int),
      (0 : Int) < (2 : Int),
      (a != (0 : Int)) = false,
      (0 : Int) ≤ (1 : Int),
      (1 : Int) < (2 : Int)] (by kernel_rfl) (by
      simp only [allP]
      and_intros <;> first
        | omega
        | with_reducible assumption
        | exact h1
        | (simp; done)
        | decide)

theorem cCompare (a b : Ed) : Contract Try.prog 20 [a.v, b.v] [] (I (cmpD a b)) [] :=
  vcP hmix [.tab [(31, FNaN), (27, FCmp), (26, FOr)]] [] [
      Contract Try.prog (27 : Nat) [Sg (Ed.fr a), Sg (Ed.fr b)] [] (I (cmpS (Ed.fr a) (Ed.fr b))) [],
      Contract Try.prog (27 : Nat) [Sg (Ed.to a), Sg (Ed.to b)] [] (I (cmpS (Ed.to a) (Ed.to b))) [],
      Contract Try.prog (26 : Nat) [V.sl (1 : Nat) [[I (cmpS (Ed.fr a) (Ed.fr b))], [I (cmpS (Ed.to a) (Ed.to b))]]] [] (I (orI (cmpS (Ed.fr a) (Ed.fr b)) (cmpS (Ed.to a) (Ed.to b)))) [],
      true = true] (by kernel_rfl)
    ⟨cCmp _ _, cCmp _ _, cOr _ _, rfl⟩

theorem cEq1 (x e : Ed) : Contract Try.prog 19 [x.v, .ptr 0 0 0 0] [.box e.row] (Bo (pEq e x)) [some (.box e.row)] :=
  vcP hmix [.tab [(20, fun _ => some (I (cmpD x e)))]] [] [
      Contract Try.prog (20 : Nat) [V.agg [Sg (Ed.fr x), Sg (Ed.to x), I (Ed.cnt x), I (Ed.errs x)], V.agg [Sg (Ed.fr e), Sg (Ed.to e), I (Ed.cnt e), I (Ed.errs e)]] [] (I (cmpD x e)) []] (by kernel_rfl)
    (cCompare x e)

theorem cGt1 (x e : Ed) : Contract Try.prog 21 [x.v, .ptr 0 0 0 0] [.box e.row] (Bo (pGt e x)) [some (.box e.row)] :=
  vcP hmix [.tab [(20, fun _ => some (I (cmpD x e)))]] [] [
      Contract Try.prog (20 : Nat) [V.agg [Sg (Ed.fr x), Sg (Ed.to x), I (Ed.cnt x), I (Ed.errs x)], V.agg [Sg (Ed.fr e), Sg (Ed.to e), I (Ed.cnt e), I (Ed.errs e)]] [] (I (cmpD x e)) []] (by kernel_rfl)
    (cCompare x e)

theorem cKey1 (x a : At) : Contract Try.prog 25 [x.v, .ptr 0 0 0 0] [.box a.row] (Bo (pKey a x)) [some (.box a.row)] :=
  vcP hmix [] [] [
      ] (by kernel_rfl)
    trivial

theorem cPlus (a b m : Int) : Contract Try.prog 23 [I a, I b, I m] [] (I (plusR a b m)) [] :=
  vcP hmix [] [] [
      ] (by kernel_rfl)
    trivial

theorem cNameT (s : ByteArray) (h : decide (1 ≤ (s.size : Int)) = true) : Contract Try.prog 16 [Sg s] [] (Bo (nameB s)) [] := by
  unfold nameB
  rw [h]
  exact vcP hmix [.reg 1 [(2, [], some true)]] [] [
      decide (Int.ofNat (ByteArray.size s) ≥ (1 : Int)) = true] (by kernel_rfl) (by
      simp only [allP]
      and_intros <;> first
        | omega
        | with_reducible assumption
        | exact h
        | (simp; done)
        | decide)

theorem cNameF (s : ByteArray) (h : decide (1 ≤ (s.size : Int)) = false) : Contract Try.prog 16 [Sg s] [] (Bo (nameB s)) [] := by
  unfold nameB
  rw [h]
  exact vcP hmix [.reg 1 [(2, [], some false)]] [] [
      decide (Int.ofNat (ByteArray.size s) ≥ (1 : Int)) = false] (by kernel_rfl) (by
      simp only [allP]
      and_intros <;> first
        | omega
        | with_reducible assumption
        | exact h
        | (simp; done)
        | decide)

theorem cName (s : ByteArray) : Contract Try.prog 16 [Sg s] [] (Bo (nameB s)) [] := by
  cases h : decide (1 ≤ (s.size : Int)) with
  | true => exact cNameT s h
  | false => exact cNameF s h
theorem flatEd (l : List Ed) : FlatRows (l.map Ed.row) := by
  intro r hr
  obtain ⟨e, _, rfl⟩ := List.mem_map.1 hr
  rfl
end Go.Proofs.Ytieffigehkjifaa
