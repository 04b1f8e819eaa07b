/- merge: two blocks become one; which two. -/
import Derived.Test.YtfpdlamjlbpmkaaCpB
import Derived.Test.YtfpdlamjlbpmkaaMgJ
namespace Go.Proofs.Ytfpdlamjlbpmkaa
open E
set_option maxRecDepth 100000
set_option linter.unusedVariables false
set_option linter.unusedSimpArgs false


/-- Two blocks are one. -/
def joinM (a b : Bk) (n : Int) : Bk := ⟨n, maxI a.born b.born, IntKind.i64.wrap (maxI a.tier b.tier + 1), srt soLt (a.eps ++ b.eps)⟩
theorem cJoin_0 (a b : Bk) (n : Int) (hA : a.eps.length ≤ 250000) (hB : b.eps.length ≤ 250000) (hm : ∀ e ∈ a.eps ++ b.eps, smE e) : Contract Try.prog 12 [a.v, b.v, I n] [] (V.agg [I n, I (maxI (Bk.born a) (Bk.born b)), I (IntKind.wrap IntKind.i64 (maxI (Bk.tier a) (Bk.tier b) + (1 : Int))), V.sl (6 : Nat) (List.map Ep.row (srt soLt (Bk.eps a ++ Bk.eps b)))]) ([]) :=
  vcP hmix [.reg 1 [(5, [.be (I (maxI a.born b.born))], none), (10, [.be (I (maxI a.tier b.tier))], none), (17, [.call [] [217000] (.sl 6 ((a.eps ++ b.eps).map Ep.row)) []], none), (18, [.call [] [] (Bk.v (joinM a b n)) []], none)]] [] [
      (if Bk.born b > Bk.born a then Bk.born b else Bk.born a) = maxI (Bk.born a) (Bk.born b),
      (if Bk.tier b > Bk.tier a then Bk.tier b else Bk.tier a) = maxI (Bk.tier a) (Bk.tier b),
      Contract Try.prog (21 : Nat) [V.sl (1 : Nat) [[V.sl (6 : Nat) (List.map Ep.row (Bk.eps a))], [V.sl (6 : Nat) (List.map Ep.row (Bk.eps b))]]] [] (V.sl (6 : Nat) (List.map Ep.row (Bk.eps a ++ Bk.eps b))) [],
      Contract Try.prog (20 : Nat) [I n, I (maxI (Bk.born a) (Bk.born b)), I (IntKind.wrap IntKind.i64 (maxI (Bk.tier a) (Bk.tier b) + (1 : Int))), V.sl (6 : Nat) (List.map Ep.row (Bk.eps a ++ Bk.eps b))] [] (V.agg (Bk.row { num := n, born := maxI (Bk.born a) (Bk.born b), tier := IntKind.wrap IntKind.i64 (maxI (Bk.tier a) (Bk.tier b) + (1 : Int)), eps := srt soLt (Bk.eps a ++ Bk.eps b) })) []] (by kernel_rfl)
    (by
      simp only [allP]
      and_intros <;> first
        | exact cConcat _ _ hA hB
        | exact mk0 _ _ _ _ (by simp; omega) hm
        | (unfold maxI; simp only [Bool.cond_eq_ite]; (repeat' split) <;> simp_all <;> omega))

theorem cJoin (a b : Bk) (n : Int) (hA : a.eps.length ≤ 250000) (hB : b.eps.length ≤ 250000) (hm : ∀ e ∈ a.eps ++ b.eps, smE e) : Contract Try.prog 12 [a.v, b.v, I n] [] (Bk.v (joinM a b n)) [] := by
  exact Contract.cast (by
    first
      | rfl) (by
    first
      | rfl) (cJoin_0 a b n hA hB hm )


/-- Which two blocks, up to one. -/
def pickStep (l : List Bk) (i : Nat) (s : Bool × Nat × Nat) : Bool × Nat × Nat := match l[i]? with
  | none => s
  | some x => match (l.drop (i + 1)).findIdx? (pT x) with
    | none => s
    | some j => match s.1, l[s.2.1]? with
      | true, some y => bif decide (x.tier < y.tier) then (true, i, i + 1 + j) else s
      | _, _ => (true, i, i + 1 + j)
def pickM (l : List Bk) : Bool × Nat × Nat := (List.range l.length).foldl (fun s i => pickStep l i s) (false, 0, 0)
theorem pick_in {l : List Bk} {s : Bool × Nat × Nat} {i : Nat} (h : s.1 = true → s.2.1 < s.2.2 ∧ s.2.2 < l.length ∧ ∃ x y, l[s.2.1]? = some x ∧ l[s.2.2]? = some y ∧ x.tier = y.tier) :
    (pickStep l i s).1 = true → (pickStep l i s).2.1 < (pickStep l i s).2.2 ∧ (pickStep l i s).2.2 < l.length ∧ ∃ x y, l[(pickStep l i s).2.1]? = some x ∧ l[(pickStep l i s).2.2]? = some y ∧ x.tier = y.tier := by
  unfold pickStep
  cases hx : l[i]? with
  | none => exact h
  | some x =>
    dsimp only
    cases hk : (l.drop (i + 1)).findIdx? (pT x) with
    | none => exact h
    | some j =>
      dsimp only
      obtain ⟨h1, h2, _⟩ := List.findIdx?_eq_some_iff_getElem.1 hk
      simp only [List.length_drop] at h1
      simp only [List.getElem_drop, pT, beq_iff_eq] at h2
      have new : i < i + 1 + j ∧ i + 1 + j < l.length ∧ ∃ u y, l[i]? = some u ∧ l[i + 1 + j]? = some y ∧ u.tier = y.tier :=
        ⟨by omega, by omega, x, l[i + 1 + j], hx, List.getElem?_eq_getElem (by omega), h2.symm⟩
      obtain ⟨f, a, b⟩ := s
      cases f with
      | false => intro _; exact new
      | true =>
        obtain ⟨g1, g2, u, y, g3, g4, g5⟩ := h rfl
        simp only [g3]
        cases hd : decide (x.tier < u.tier) with
        | true => intro _; exact new
        | false => intro _; exact ⟨g1, g2, u, y, g3, g4, g5⟩
theorem pick_inv (l : List Bk) (n : Nat) : let s := (List.range n).foldl (fun s i => pickStep l i s) (false, 0, 0); s.1 = true → s.2.1 < s.2.2 ∧ s.2.2 < l.length ∧ ∃ x y, l[s.2.1]? = some x ∧ l[s.2.2]? = some y ∧ x.tier = y.tier := by
  induction n with
  | zero => intro s h; simp [s] at h
  | succ n ih =>
    intro s
    simp only [s, List.range_succ, List.foldl_append, List.foldl_cons, List.foldl_nil]
    exact pick_in ih

end Go.Proofs.Ytfpdlamjlbpmkaa
