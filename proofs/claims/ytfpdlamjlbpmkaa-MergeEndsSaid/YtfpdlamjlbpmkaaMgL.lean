/- merge: which two blocks, the law. -/
import Derived.Test.YtfpdlamjlbpmkaaMgK
namespace Go.Proofs.Ytfpdlamjlbpmkaa
open E
set_option maxRecDepth 100000
set_option linter.unusedVariables false
set_option linter.unusedSimpArgs false
def pickTo (l : List Bk) (n : Nat) : Bool × Nat × Nat := (List.range n).foldl (fun s i => pickStep l i s) (false, 0, 0)
theorem pickTo_succ (l : List Bk) (n : Nat) : pickTo l (n + 1) = pickStep l n (pickTo l n) := by
  unfold pickTo
  rw [List.range_succ, List.foldl_append]
  rfl
theorem pkRound {l : List Bk} {x : Bk} {i : Nat} {s : Bool × Nat × Nat} (hx : l[i]? = some x) (hs : l.length ≤ 1000000)
    (h : s.1 = true → s.2.1 < s.2.2 ∧ s.2.2 < l.length ∧ ∃ x y, l[s.2.1]? = some x ∧ l[s.2.2]? = some y ∧ x.tier = y.tier) :
    CodeC Try.prog 0 49 pkB (pkS l s.1 s.2.1 s.2.2 i) .normal (pkS l (pickStep l i s).1 (pickStep l i s).2.1 (pickStep l i s).2.2 (i + 1)) := by
  unfold pickStep
  rw [hx]
  dsimp only
  cases hk : (l.drop (i + 1)).findIdx? (pT x) with
  | none => exact pkNo l x x s.1 s.2.1 s.2.2 i 0 hx hs (by unfold idxI; rw [hk])
  | some j =>
    have hj : idxI (pT x) (l.drop (i + 1)) = (j : Int) := by unfold idxI; rw [hk]
    obtain ⟨f, a, b⟩ := s
    cases f with
    | false => exact pkFst l x x false a b i j hx rfl hs hj
    | true =>
      obtain ⟨g1, g2, u, y, g3, g4, g5⟩ := h rfl
      dsimp only at g3 ⊢
      rw [g3]
      dsimp only
      cases hd : decide (x.tier < u.tier) with
      | true => exact pkLess l x u true a b i j hx rfl g3 (by simpa using hd) hs hj
      | false => exact pkGe l x u true a b i j hx rfl g3 (by simpa using hd) hs hj
theorem pkAll (l : List Bk) (hs : l.length ≤ 1000000) : ∀ n i : Nat, i + n = l.length →
    LoopC Try.prog 0 49 pkB (pkS l (pickTo l i).1 (pickTo l i).2.1 (pickTo l i).2.2 i) (.exit 0) (pkS l (pickM l).1 (pickM l).2.1 (pickM l).2.2 l.length)
  | 0, i, h => by
    have : i = l.length := by omega
    subst this
    exact LoopC.last (pkEnd l _ _ _ _ (Nat.le_refl _)) (by simp)
  | n + 1, i, h => by
    have hr := pkRound (l := l) (i := i) (s := pickTo l i) (List.getElem?_eq_getElem (by omega)) hs (pick_inv l i)
    rw [← pickTo_succ] at hr
    exact LoopC.next hr (pkAll l hs n (i + 1) (by omega))
theorem cPick (l : List Bk) (hs : l.length ≤ 1000000) : Contract Try.prog 9 [.sl 4 (l.map Bk.row)] [] (.tup [I ((pickM l).2.1 : Int), I ((pickM l).2.2 : Int), Bo (pickM l).1]) [] :=
  pkF l _ _ _ _ (pkAll l hs l.length 0 (by omega))
end Go.Proofs.Ytfpdlamjlbpmkaa
