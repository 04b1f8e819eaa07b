/- An order in which all of n places come: by had, and what is probed. Plain lists. -/
import Derived.Test.YtigakemkanobaaaLibD
namespace Go.Proofs.Ytigakemkanobaaa
set_option linter.unusedVariables false
set_option linter.unusedSimpArgs false

/-- The next place that is free. -/
def freeK (had : List Bool) (n k : Nat) : Nat → Nat
  | 0 => k
  | q + 1 => bif (had[k]?).getD false then freeK had n ((k + 1) % n) q else k

/-- After so many places there is one that is free. -/
theorem free_in {had : List Bool} {n : Nat} (hn : had.length = n) (hf : ∃ j, j < n ∧ had[j]? = some false) {k : Nat} (hk : k < n) : ∃ q, q < n ∧ had[(k + q) % n]? = some false ∧ ∀ p, p < q → had[(k + p) % n]? = some true := by
  obtain ⟨j, hj, hjf⟩ := hf
  have hex : ∃ q, q < n ∧ had[(k + q) % n]? = some false := by
    by_cases h : k ≤ j
    · exact ⟨j - k, by omega, by rw [show k + (j - k) = j by omega, Nat.mod_eq_of_lt hj]; exact hjf⟩
    · refine ⟨n - k + j, by omega, ?_⟩
      rw [show k + (n - k + j) = j + n by omega, Nat.add_mod_right, Nat.mod_eq_of_lt hj]; exact hjf
  have least : ∀ m, (∃ q, q < m ∧ q < n ∧ had[(k + q) % n]? = some false) → ∃ q, q < n ∧ had[(k + q) % n]? = some false ∧ ∀ p, p < q → had[(k + p) % n]? ≠ some false := by
    intro m
    induction m with
    | zero => rintro ⟨q, h, _⟩; omega
    | succ m ih =>
      rintro ⟨q, h1, h2, h3⟩
      by_cases h : ∃ q, q < m ∧ q < n ∧ had[(k + q) % n]? = some false
      · exact ih h
      · refine ⟨q, h2, h3, fun p hp hpf => h ⟨p, by omega, by omega, hpf⟩⟩
  obtain ⟨q, h1, h2⟩ := hex
  obtain ⟨q, h1, h2, h3⟩ := least (q + 1) ⟨q, by omega, h1, h2⟩
  refine ⟨q, h1, h2, fun p hp => ?_⟩
  have hlt : (k + p) % n < had.length := by rw [hn]; exact Nat.mod_lt _ (by omega)
  have := h3 p hp
  rw [List.getElem?_eq_getElem hlt] at this ⊢
  cases h : had[(k + p) % n] with
  | true => rfl
  | false => rw [h] at this; exact absurd rfl this

/-- The places that came, and those that had. -/
structure Came (n : Nat) (ks : List Nat) (had : List Bool) : Prop where
  len : had.length = n
  lt : ∀ k ∈ ks, k < n
  nodup : ks.Nodup
  had : ∀ k, k < n → had[k]? = some (decide (k ∈ ks))
theorem Came.nil (n : Nat) : Came n [] (List.replicate n false) :=
  ⟨by simp, by simp, List.nodup_nil, fun k hk => by simp [List.getElem?_replicate, hk]⟩
theorem nodup_perm : ∀ {ks l : List Nat}, ks.Nodup → (∀ k ∈ ks, k ∈ l) → ∃ r, l.Perm (ks ++ r)
  | [], l, _, _ => ⟨l, by simp⟩
  | k :: ks, l, h, hs => by
    have h' := List.nodup_cons.1 h
    have hk := List.perm_cons_erase (hs k (by simp))
    obtain ⟨r, hr⟩ := nodup_perm (l := l.erase k) h'.2 (fun j hj => (List.mem_erase_of_ne (fun (e : j = k) => h'.1 (e ▸ hj))).2 (hs j (by simp [hj])))
    exact ⟨r, hk.trans (hr.cons k)⟩
theorem nodup_le {ks : List Nat} {n : Nat} (h : ks.Nodup) (hlt : ∀ k ∈ ks, k < n) : ks.length ≤ n := by
  obtain ⟨r, hr⟩ := nodup_perm h (fun k hk => List.mem_range.2 (hlt k hk))
  have := hr.length_eq
  simp at this; omega
theorem Came.free {n : Nat} {ks : List Nat} {had : List Bool} (h : Came n ks had) (hk : ks.length < n) : ∃ j, j < n ∧ had[j]? = some false := by
  have : ∃ j, j < n ∧ j ∉ ks := by
    refine Classical.byContradiction fun hn => ?_
    have hall : ∀ j, j ∈ List.range n → j ∈ ks := fun j hj => Classical.byContradiction fun hc => hn ⟨j, List.mem_range.1 hj, hc⟩
    obtain ⟨r, hr⟩ := nodup_perm List.nodup_range hall
    have := hr.length_eq
    simp at this; omega
  obtain ⟨j, h1, h2⟩ := this
  exact ⟨j, h1, by rw [h.had j h1]; simp [h2]⟩
theorem Came.next {n : Nat} {ks : List Nat} {had : List Bool} (h : Came n ks had) {k : Nat} (hk : k < n) (hf : had[k]? = some false) : Came n (ks ++ [k]) (had.set k true) := by
  have hni : k ∉ ks := by
    intro hm
    rw [h.had k hk] at hf
    simp [hm] at hf
  refine ⟨by simpa using h.len, fun j hj => ?_, ?_, fun j hj => ?_⟩
  · rcases List.mem_append.1 hj with hj | hj
    · exact h.lt j hj
    · simp at hj; omega
  · rw [List.nodup_append]
    exact ⟨h.nodup, by simp, fun a ha b hb => by simp at hb; subst hb; exact fun e => hni (e ▸ ha)⟩
  · by_cases e : k = j
    · subst e
      rw [List.getElem?_set_self (by rw [h.len]; exact hk)]
      simp
    · rw [List.getElem?_set_ne e, h.had j hj]
      simp [Ne.symm e]
/-- When all have come they are the places in another order. -/
theorem Came.perm {n : Nat} {ks : List Nat} {had : List Bool} (h : Came n ks had) (hl : ks.length = n) : ks.Perm (List.range n) := by
  obtain ⟨r, hr⟩ := nodup_perm h.nodup (fun k hk => List.mem_range.2 (h.lt k hk))
  have hn := hr.length_eq
  have : r = [] := List.eq_nil_of_length_eq_zero (by simp at hn; omega)
  subst this
  simpa using hr.symm
/-- The things at the places. -/
def atAll {α : Type} (l : List α) (ks : List Nat) : List α := ks.filterMap fun k => l[k]?
theorem atAll_range {α : Type} (l : List α) : atAll l (List.range l.length) = l := by
  unfold atAll
  induction l with
  | nil => rfl
  | cons a l ih =>
    rw [List.length_cons, List.range_succ_eq_map, List.filterMap_cons]
    simp only [List.getElem?_cons_zero, List.filterMap_map]
    congr 1
theorem atAll_perm {α : Type} {l : List α} {ks : List Nat} {had : List Bool} (h : Came l.length ks had) (hl : ks.length = l.length) : (atAll l ks).Perm l := by
  have := (h.perm hl).filterMap fun k => l[k]?
  have e := atAll_range l
  unfold atAll at e ⊢
  rw [e] at this
  exact this
theorem atAll_snoc {α : Type} {l : List α} {ks : List Nat} {k : Nat} {x : α} (h : l[k]? = some x) : atAll l (ks ++ [k]) = atAll l ks ++ [x] := by
  unfold atAll
  rw [List.filterMap_append]
  simp [h]
theorem atAll_len {α : Type} {l : List α} {ks : List Nat} (h : ∀ k ∈ ks, k < l.length) : (atAll l ks).length = ks.length := by
  induction ks with
  | nil => rfl
  | cons k ks ih =>
    have hk := h k (by simp)
    unfold atAll at ih ⊢
    rw [List.filterMap_cons, List.getElem?_eq_getElem hk]
    simp only [List.length_cons]
    rw [ih fun j hj => h j (by simp [hj])]

end Go.Proofs.Ytigakemkanobaaa
