/- slots: what compares exemplars. -/
import Derived.Test.YtemjhlmdiicdcaaLibS
namespace Go.Proofs.Ytemjhlmdiicdcaa
open E
set_option maxRecDepth 100000
set_option linter.unusedVariables false
set_option linter.unusedSimpArgs false

structure Em where
  svc : ByteArray
  op : ByteArray
  hi : Int
  lo : Int
  id : Int
  block : Int
def Em.row (e : Em) : List V := [Sg e.svc, Sg e.op, U e.hi, U e.lo, U e.id, I e.block]
def Em.v (e : Em) : V := .agg e.row
/-- How two exemplars stand to one another, by service and operation. -/
def cmpE (a b : Em) : Int := orI (cmpS a.svc b.svc) (cmpS a.op b.op)

theorem cNaN (s : ByteArray) : Contract Try.prog 30 [Sg s] [] (Bo false) [] :=
  vcP hmix [.reg 1 [(2, [], some false)]] [] [
      (!ByteArray.toList s == ByteArray.toList s) = false] (by kernel_rfl)
    (by simp [allP])

theorem cCmp (s t : ByteArray) : Contract Try.prog 27 [Sg s, Sg t] [] (I (cmpS s t)) [] := by
  unfold cmpS
  cases h1 : ltS s t with
  | true => exact vcP hmix [.reg 9 [(2, [], some true)], .tab [(30, FNaN)]] [] [
      Contract Try.prog (30 : Nat) [Sg s] [] (Bo false) [],
      Contract Try.prog (30 : Nat) [Sg t] [] (Bo false) [],
      Op.bytesLess (ByteArray.toList s) (ByteArray.toList t) = true] (by kernel_rfl) ⟨cNaN s, cNaN t, h1⟩
  | false =>
    cases h2 : (!(ltS s t || s.toList == t.toList)) with
    | true => rw [h1] at h2; simp only [h2]; exact vcP hmix [.reg 9 [(2, [], some false)], .reg 11 [(2, [], some true)], .tab [(30, FNaN)]] [] [
      Contract Try.prog (30 : Nat) [Sg s] [] (Bo false) [],
      Contract Try.prog (30 : Nat) [Sg t] [] (Bo false) [],
      Op.bytesLess (ByteArray.toList s) (ByteArray.toList t) = false,
      (!(Op.bytesLess (ByteArray.toList s) (ByteArray.toList t) || ByteArray.toList s == ByteArray.toList t)) = true] (by kernel_rfl) ⟨cNaN s, cNaN t, h1, (by unfold ltS at h1; simp only [allP, h1]; exact h2)⟩
    | false => rw [h1] at h2; simp only [h2]; exact vcP hmix [.reg 9 [(2, [], some false)], .reg 11 [(2, [], some false)], .tab [(30, FNaN)]] [] [
      Contract Try.prog (30 : Nat) [Sg s] [] (Bo false) [],
      Contract Try.prog (30 : Nat) [Sg t] [] (Bo false) [],
      Op.bytesLess (ByteArray.toList s) (ByteArray.toList t) = false,
      (!(Op.bytesLess (ByteArray.toList s) (ByteArray.toList t) || ByteArray.toList s == ByteArray.toList t)) = false] (by kernel_rfl) ⟨cNaN s, cNaN t, h1, (by unfold ltS at h1; simp only [allP, h1]; exact h2)⟩

theorem cOr (a b : Int) : Contract Try.prog 26 [.sl 1 [[I a], [I b]]] [] (I (orI a b)) [] := by
  unfold orI
  cases h1 : a != 0 with
  | true => exact vcP hmix [.unroll 3, .reg 5 [(2, [], some true)]] [] [
      (0 : Int) ≤ (0 : Int),
      (0 : Int) < (2 : Int),
      (a != (0 : Int)) = true] (by kernel_rfl) (by
      simp only [allP]
      and_intros <;> first
        | omega
        | with_reducible assumption
        | exact h1
        | (simp; done)
        | decide)
  | false =>
    cases h2 : b != 0 with
    | true => exact vcP hmix [.unroll 3, .reg 5 [(2, [], some false)], .reg 5 [(2, [], some true)]] [] [
      (0 : Int) ≤ (0 : Int),
      (0 : Int) < (2 : Int),
      (a != (0 : Int)) = false,
      (0 : Int) ≤ (1 : Int),
      (1 : Int) < (2 : Int),
      (b != (0 : Int)) = true] (by kernel_rfl) (by
      simp only [allP]
      and_intros <;> first
        | omega
        | with_reducible assumption
        | exact h1
        | (simp; done)
        | decide)
    | false =>
      have hb : b = 0 := by simpa using h2
      subst hb
      exact vcP hmix [.unroll 3, .reg 5 [(2, [], some false)]] [] [
      (0 : Int) ≤ (0 : Int),
      (0 : Int) < (2 : Int),
      (a != (0 : Int)) = false,
      (0 : Int) ≤ (1 : Int),
      (1 : Int) < (2 : Int)] (by kernel_rfl) (by
      simp only [allP]
      and_intros <;> first
        | omega
        | with_reducible assumption
        | exact h1
        | (simp; done)
        | decide)

theorem cCompare (a b : Em) : Contract Try.prog 23 [a.v, b.v] [] (I (cmpE a b)) [] :=
  vcP hmix [.tab [(30, FNaN), (27, FCmp), (26, FOr)]] [] [
      Contract Try.prog (27 : Nat) [Sg (Em.svc a), Sg (Em.svc b)] [] (I (cmpS (Em.svc a) (Em.svc b))) [],
      Contract Try.prog (27 : Nat) [Sg (Em.op a), Sg (Em.op b)] [] (I (cmpS (Em.op a) (Em.op b))) [],
      Contract Try.prog (26 : Nat) [V.sl (1 : Nat) [[I (cmpS (Em.svc a) (Em.svc b))], [I (cmpS (Em.op a) (Em.op b))]]] [] (I (orI (cmpS (Em.svc a) (Em.svc b)) (cmpS (Em.op a) (Em.op b)))) [],
      true = true] (by kernel_rfl)
    ⟨cCmp _ _, cCmp _ _, cOr _ _, rfl⟩

theorem flatRow (l : List Em) : FlatRows (l.map Em.row) := by
  intro r hr
  obtain ⟨e, _, rfl⟩ := List.mem_map.1 hr
  rfl

def FCompare : List V → Option V
  | [.agg [.val (.string a), .val (.string b), _, _, _, _], .agg [.val (.string c), .val (.string d), _, _, _, _]] => some (I (orI (cmpS a c) (cmpS b d)))
  | _ => none

theorem cPut1 (x e : Em) : Contract Try.prog 22 [x.v, .ptr 0 0 0 0] [.box e.row] (Bo (decide (0 ≤ cmpE x e))) [some (.box e.row)] :=
  vcP hmix [.tab [(23, fun _ => some (I (cmpE x e)))]] [] [
      Contract Try.prog (23 : Nat) [V.agg [Sg (Em.svc x), Sg (Em.op x), V.val (Value.int IntKind.u64 (Em.hi x)), V.val (Value.int IntKind.u64 (Em.lo x)), V.val (Value.int IntKind.u64 (Em.id x)), I (Em.block x)], V.agg [Sg (Em.svc e), Sg (Em.op e), V.val (Value.int IntKind.u64 (Em.hi e)), V.val (Value.int IntKind.u64 (Em.lo e)), V.val (Value.int IntKind.u64 (Em.id e)), I (Em.block e)]] [] (I (cmpE x e)) []] (by kernel_rfl)
    (cCompare x e)

theorem cDrop1 (x : Em) (b : Int) : Contract Try.prog 20 [x.v, .ptr 0 0 0 0] [.box [I b]] (Bo (x.block == b)) [some (.box [I b])] :=
  vcP hmix [] [] [
      ] (by kernel_rfl)
    trivial

def aheadE (a b : Em) : Bool := bif ltS a.svc b.svc then true else bif a.svc.toList == b.svc.toList then ltS a.op b.op else false

theorem cAhead1 (a b : Em) (h : ltS a.svc b.svc = true) : Contract Try.prog 18 [a.v, b.v] [] (Bo (aheadE a b)) [] := by
  unfold aheadE
  rw [h]
  exact vcP hmix [.reg 1 [(4, [], some true)]] [] [
      Op.bytesLess (ByteArray.toList (Em.svc a)) (ByteArray.toList (Em.svc b)) = true] (by kernel_rfl) h

theorem cAhead2 (a b : Em) (h : ltS a.svc b.svc = false) (h2 : (a.svc.toList == b.svc.toList) = true) : Contract Try.prog 18 [a.v, b.v] [] (Bo (aheadE a b)) [] := by
  unfold aheadE
  rw [h, h2]
  exact vcP hmix [.reg 1 [(4, [], some false), (10, [], some true)]] [] [
      Op.bytesLess (ByteArray.toList (Em.svc a)) (ByteArray.toList (Em.svc b)) = false,
      (ByteArray.toList (Em.svc a) == ByteArray.toList (Em.svc b)) = true] (by kernel_rfl) ⟨h, h2⟩

theorem cAhead3 (a b : Em) (h : ltS a.svc b.svc = false) (h2 : (a.svc.toList == b.svc.toList) = false) : Contract Try.prog 18 [a.v, b.v] [] (Bo (aheadE a b)) [] := by
  unfold aheadE
  rw [h, h2]
  exact vcP hmix [.reg 1 [(4, [], some false), (10, [], some false)]] [] [
      Op.bytesLess (ByteArray.toList (Em.svc a)) (ByteArray.toList (Em.svc b)) = false,
      (ByteArray.toList (Em.svc a) == ByteArray.toList (Em.svc b)) = false] (by kernel_rfl) ⟨h, h2⟩

theorem cAhead (a b : Em) : Contract Try.prog 18 [a.v, b.v] [] (Bo (aheadE a b)) [] := by
  cases h : ltS a.svc b.svc with
  | true => exact cAhead1 a b h
  | false =>
    cases h2 : a.svc.toList == b.svc.toList with
    | true => exact cAhead2 a b h h2
    | false => exact cAhead3 a b h h2

end Go.Proofs.Ytemjhlmdiicdcaa
