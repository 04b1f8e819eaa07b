/- A loop that looks by halves; swapping in lists. -/
import Derived.Test.YtfpdlamjlbpmkaaLibT
import Derived.Test.YtfpdlamjlbpmkaaLibC
namespace Go.Proofs.Ytfpdlamjlbpmkaa.E
open Go
set_option linter.unusedSimpArgs false

/-- A loop that looks, by halves, for the place where a test turns. -/
theorem LoopC.half {P : Program} {k n : Nat} {c : Code} (pr : Nat → Bool) (S : Nat → Nat → SL) {e : Ex} (he : e ≠ .normal) (lo hi : Nat) (hmono : ∀ i j, lo ≤ i → i ≤ j → j < hi → pr j = true → pr i = true)
    (hgo : ∀ i j, lo ≤ i → i < j → j ≤ hi → pr ((i + j) / 2) = true → CodeC P k n c (S i j) .normal (S ((i + j) / 2 + 1) j))
    (hback : ∀ i j, lo ≤ i → i < j → j ≤ hi → pr ((i + j) / 2) = false → CodeC P k n c (S i j) .normal (S i ((i + j) / 2)))
    (hend : ∀ i, lo ≤ i → i ≤ hi → CodeC P k n c (S i i) e (S i i)) (hl : lo ≤ hi) :
    ∃ r, lo ≤ r ∧ r ≤ hi ∧ (∀ q, lo ≤ q → q < r → pr q = true) ∧ (∀ q, r ≤ q → q < hi → pr q = false) ∧ LoopC P k n c (S lo hi) e (S r r) := by
  have key : ∀ (d i j : Nat), j - i ≤ d → lo ≤ i → i ≤ j → j ≤ hi → (∀ q, lo ≤ q → q < i → pr q = true) → (∀ q, j ≤ q → q < hi → pr q = false) →
      ∃ r, lo ≤ r ∧ r ≤ hi ∧ (∀ q, lo ≤ q → q < r → pr q = true) ∧ (∀ q, r ≤ q → q < hi → pr q = false) ∧ LoopC P k n c (S i j) e (S r r) := by
    intro d
    induction d with
    | zero =>
      intro i j hd h1 h2 h3 ht hf
      have : i = j := by omega
      subst this
      exact ⟨i, h1, h3, ht, hf, LoopC.last (hend i h1 h3) he⟩
    | succ d ih =>
      intro i j hd h1 h2 h3 ht hf
      by_cases hij : i = j
      · subst hij
        exact ⟨i, h1, h3, ht, hf, LoopC.last (hend i h1 h3) he⟩
      · have hm : i ≤ (i + j) / 2 ∧ (i + j) / 2 < j := by omega
        cases hp : pr ((i + j) / 2) with
        | true =>
          obtain ⟨r, r1, r2, r3, r4, r5⟩ := ih ((i + j) / 2 + 1) j (by omega) (by omega) (by omega) h3
            (fun q q1 q2 => hmono q ((i + j) / 2) q1 (by omega) (by omega) hp) hf
          exact ⟨r, r1, r2, r3, r4, LoopC.next (hgo i j h1 (by omega) h3 hp) r5⟩
        | false =>
          obtain ⟨r, r1, r2, r3, r4, r5⟩ := ih i ((i + j) / 2) (by omega) h1 (by omega) (by omega) ht
            (fun q q1 q2 => by
              cases hq : pr q with
              | false => rfl
              | true => have := hmono ((i + j) / 2) q (by omega) q1 q2 hq; rw [this] at hp; cases hp)
          exact ⟨r, r1, r2, r3, r4, LoopC.next (hback i j h1 (by omega) h3 hp) r5⟩
  exact key (hi - lo) lo hi (Nat.le_refl _) (Nat.le_refl _) hl (Nat.le_refl _) (fun q q1 q2 => by omega) (fun q q1 q2 => by omega)

/-! ### what stands where in a list that is written out -/
section
variable {α : Type} {f : α → List V}
theorem at1 {A B : List α} {x : α} {j : Nat} (h : j = A.length) : ((A ++ x :: B).map f)[j]? = some (f x) := by subst h; simp
theorem at2 {A B : List α} {y x : α} {j : Nat} (h : j = A.length + 1) : ((A ++ y :: x :: B).map f)[j]? = some (f x) := by
  subst h
  rw [List.map_append, List.getElem?_append_right (by simp)]
  simp
theorem at3 {A M B : List α} {x y : α} {j : Nat} (h : j = A.length + 1 + M.length) : ((A ++ x :: (M ++ y :: B)).map f)[j]? = some (f y) := by
  subst h
  rw [List.map_append, List.getElem?_append_right (by simp; omega)]
  simp only [List.length_map, List.map_cons]
  rw [show A.length + 1 + M.length - A.length = M.length + 1 by omega, List.getElem?_cons_succ, List.map_append, List.getElem?_append_right (by simp)]
  simp
theorem set1 {A B : List α} {x z : α} {j : Nat} (h : j = A.length) : ((A ++ x :: B).map f).set j (f z) = (A ++ z :: B).map f := by
  subst h
  rw [← List.map_set]
  congr 1
  rw [List.set_append_right _ _ (by first | omega | (simp; omega))]
  simp
theorem set2 {A B : List α} {y x z : α} {j : Nat} (h : j = A.length + 1) : ((A ++ y :: x :: B).map f).set j (f z) = (A ++ y :: z :: B).map f := by
  subst h
  rw [← List.map_set]
  congr 1
  rw [List.set_append_right _ _ (by first | omega | (simp; omega))]
  simp
theorem set3 {A M B : List α} {x y z : α} {j : Nat} (h : j = A.length + 1 + M.length) : ((A ++ x :: (M ++ y :: B)).map f).set j (f z) = (A ++ x :: (M ++ z :: B)).map f := by
  subst h
  rw [← List.map_set]
  congr 1
  rw [List.set_append_right _ _ (by first | omega | (simp; omega)), show A.length + 1 + M.length - A.length = M.length + 1 by omega, List.set_cons_succ, List.set_append_right _ _ (by first | omega | (simp; omega))]
  simp
end
end Go.Proofs.Ytfpdlamjlbpmkaa.E
namespace Go.Proofs.Ytfpdlamjlbpmkaa.E
open Go
theorem halfW {i j : Nat} (h : i + j ≤ 4000000) : IntKind.i64.wrap (Int.fdiv (IntKind.u64.wrap (IntKind.i64.wrap (Int.ofNat (i + j)))) 2) = Int.ofNat ((i + j) / 2) := by
  rw [i64_small (n := Int.ofNat (i + j)) (by simp only [Int.ofNat_eq_natCast]; omega), u64_small (by simp only [Int.ofNat_eq_natCast]; omega), Int.fdiv_eq_ediv_of_nonneg _ (by omega)]
  simp only [Int.ofNat_eq_natCast]
  rw [i64_small (by omega)]
  omega
end Go.Proofs.Ytfpdlamjlbpmkaa.E
