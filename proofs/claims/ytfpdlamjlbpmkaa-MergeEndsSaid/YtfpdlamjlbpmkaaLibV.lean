/- Parts of lists in order. -/
import Derived.Test.YtfpdlamjlbpmkaaLibT
namespace Go.Proofs.Ytfpdlamjlbpmkaa
open Go
theorem all_take {α : Type} {B : List α} {r : Nat} {p : α → Prop} (h : ∀ k z, k < r → B[k]? = some z → p z) : ∀ y ∈ B.take r, p y := by
  intro y hy
  obtain ⟨k, hk⟩ := List.mem_iff_getElem?.1 hy
  rw [List.getElem?_take] at hk
  split at hk
  · exact h k y ‹_› hk
  · cases hk
theorem all_drop {α : Type} {B : List α} {r : Nat} {p : α → Prop} (h : ∀ k z, r ≤ k → B[k]? = some z → p z) : ∀ y ∈ B.drop r, p y := by
  intro y hy
  obtain ⟨k, hk⟩ := List.mem_iff_getElem?.1 hy
  rw [List.getElem?_drop] at hk
  exact h _ y (by omega) hk
theorem Swo.irrefl {α : Type} {lt : α → α → Bool} (ho : Swo lt) (a : α) : lt a a = false := by
  cases h : lt a a with
  | false => rfl
  | true => rw [ho.asymm h] at h; cases h
theorem Srt.le {α : Type} {lt : α → α → Bool} (ho : Swo lt) {B : List α} (h : Srt lt B) {i j : Nat} {x y : α} (hij : i ≤ j) (hi : B[i]? = some x) (hj : B[j]? = some y) : lt y x = false := by
  obtain ⟨i1, i2⟩ := List.getElem?_eq_some_iff.1 hi
  obtain ⟨j1, j2⟩ := List.getElem?_eq_some_iff.1 hj
  by_cases e : i = j
  · subst e
    rw [hi] at hj
    cases hj
    exact ho.irrefl _
  · have := List.pairwise_iff_getElem.1 h i j i1 j1 (by omega)
    rw [i2, j2] at this
    exact this
theorem Srt.take {α : Type} {lt : α → α → Bool} {B : List α} (h : Srt lt B) (n : Nat) : Srt lt (B.take n) := List.Pairwise.sublist (List.take_sublist _ _) h
theorem Srt.drop {α : Type} {lt : α → α → Bool} {B : List α} (h : Srt lt B) (n : Nat) : Srt lt (B.drop n) := List.Pairwise.sublist (List.drop_sublist _ _) h
/-- What stands in the first, and in the second, of two parts. -/
theorem at_fst {α : Type} {P A B Q : List α} {h : Nat} (h1 : P.length ≤ h) (h2 : h < P.length + A.length) : ∃ z, (P ++ A ++ B ++ Q)[h]? = some z ∧ A[h - P.length]? = some z := by
  refine ⟨A[h - P.length]'(by omega), ?_, List.getElem?_eq_getElem (by omega)⟩
  rw [List.append_assoc, List.append_assoc, List.getElem?_append_right h1, List.getElem?_append_left (by omega)]
  exact List.getElem?_eq_getElem (by omega)
theorem at_snd {α : Type} {P A B Q : List α} {h : Nat} (h1 : P.length + A.length ≤ h) (h2 : h < P.length + A.length + B.length) : ∃ z, (P ++ A ++ B ++ Q)[h]? = some z ∧ B[h - (P.length + A.length)]? = some z := by
  refine ⟨B[h - (P.length + A.length)]'(by omega), ?_, List.getElem?_eq_getElem (by omega)⟩
  rw [List.append_assoc, List.getElem?_append_right (by simp; omega), List.getElem?_append_left (by simp; omega)]
  simp only [List.length_append]
  exact List.getElem?_eq_getElem (by omega)
/-- The second list is the first one with every `bs` of it put in order. -/
inductive Chk {α : Type} (lt : α → α → Bool) (bs : Nat) : List α → List α → Prop
  | last (l : List α) : l.length < bs → Chk lt bs l (srt lt l)
  | cons (c l r : List α) : c.length = bs → Chk lt bs l r → Chk lt bs (c ++ l) (srt lt c ++ r)
theorem Chk.len {α : Type} {lt : α → α → Bool} {bs : Nat} {l r : List α} (h : Chk lt bs l r) : r.length = l.length := by
  induction h with
  | last l h => exact srt_len l
  | cons c l r hc h ih => simp [srt_len, ih]
theorem Chk.done {α : Type} {lt : α → α → Bool} {bs : Nat} {l r : List α} (h : Chk lt bs l r) (hl : l.length ≤ bs) : r = srt lt l := by
  cases h with
  | last l h => rfl
  | cons c l r hc h =>
    simp only [List.length_append] at hl
    have : l = [] := List.eq_nil_of_length_eq_zero (by omega)
    subst this
    have : r = [] := List.eq_nil_of_length_eq_zero h.len
    subst this
    simp
theorem Chk.two {α : Type} {lt : α → α → Bool} {bs : Nat} {l r : List α} (h : Chk lt bs l r) (hl : bs < l.length) : ∃ c l' r', l = c ++ l' ∧ r = srt lt c ++ r' ∧ c.length = bs ∧ Chk lt bs l' r' := by
  cases h with
  | last l h => omega
  | cons c l r hc h => exact ⟨c, l, r, rfl, rfl, hc, h⟩
end Go.Proofs.Ytfpdlamjlbpmkaa
