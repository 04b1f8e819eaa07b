/- Sorting that keeps the order of equals: plain lists. -/
import Derived.Test.YtfpdlamjlbpmkaaLibD
namespace Go.Proofs.Ytfpdlamjlbpmkaa
set_option linter.unusedVariables false
set_option linter.unusedSimpArgs false

section
variable {α : Type} (lt : α → α → Bool)
/-- Two lists, merged: the first one's is ahead but where the second one's is less. -/
def mrg : List α → List α → List α
  | [], B => B
  | A, [] => A
  | a :: A, b :: B => bif lt b a then b :: mrg (a :: A) B else a :: mrg A (b :: B)
termination_by A B => A.length + B.length
variable {lt}
theorem mrg_nil_l (B : List α) : mrg lt [] B = B := by rw [mrg]
theorem mrg_nil_r : ∀ A : List α, mrg lt A [] = A
  | [] => by rw [mrg]
  | a :: A => by rw [mrg]; simp
theorem mrg_cons (a b : α) (A B : List α) : mrg lt (a :: A) (b :: B) = bif lt b a then b :: mrg lt (a :: A) B else a :: mrg lt A (b :: B) := by rw [mrg]

/-- A strict weak order. -/
structure Swo (lt : α → α → Bool) : Prop where
  asymm : ∀ {a b}, lt a b = true → lt b a = false
  trans : ∀ {a b c}, lt b a = false → lt c b = false → lt c a = false       -- a ≤ b ≤ c
variable (lt) in
/-- In order. -/
def Srt (l : List α) : Prop := l.Pairwise (fun a b => lt b a = false)

theorem Swo.lt_of_lt_le {lt : α → α → Bool} (h : Swo lt) {a b c : α} (h1 : lt a b = true) (h2 : lt c b = false) : lt a c = true := by
  -- a < b ≤ c
  cases h3 : lt a c with
  | true => rfl
  | false =>
    have := h.trans (a := b) (b := c) (c := a) h2 h3
    rw [this] at h1; cases h1
theorem Swo.lt_of_le_lt {lt : α → α → Bool} (h : Swo lt) {a b c : α} (h1 : lt b a = false) (h2 : lt b c = true) : lt a c = true := by
  -- a ≤ b < c
  cases h3 : lt a c with
  | true => rfl
  | false =>
    have := h.trans (a := c) (b := a) (c := b) h3 h1
    rw [this] at h2; cases h2

theorem mrg_len : ∀ A B : List α, (mrg lt A B).length = A.length + B.length
  | [], B => by rw [mrg_nil_l]; simp
  | a :: A, [] => by rw [mrg_nil_r]; simp
  | a :: A, b :: B => by
    rw [mrg_cons]
    cases lt b a with
    | true => simp only [cond_true, List.length_cons, mrg_len (a :: A) B]; omega
    | false => simp only [cond_false, List.length_cons, mrg_len A (b :: B)]; omega
termination_by A B => A.length + B.length

theorem mrg_mem : ∀ (A B : List α) (z : α), z ∈ mrg lt A B → z ∈ A ∨ z ∈ B
  | [], B, z, h => by rw [mrg_nil_l] at h; exact .inr h
  | a :: A, [], z, h => by rw [mrg_nil_r] at h; exact .inl h
  | a :: A, b :: B, z, h => by
    rw [mrg_cons] at h
    cases hb : lt b a with
    | true =>
      rw [hb] at h
      simp only [cond_true, List.mem_cons] at h
      rcases h with rfl | h
      · exact .inr (by simp)
      · rcases mrg_mem (a :: A) B z h with h | h
        · exact .inl h
        · exact .inr (by simp [h])
    | false =>
      rw [hb] at h
      simp only [cond_false, List.mem_cons] at h
      rcases h with rfl | h
      · exact .inl (by simp)
      · rcases mrg_mem A (b :: B) z h with h | h
        · exact .inl (by simp [h])
        · exact .inr h
termination_by A B => A.length + B.length

theorem mrg_srt (ho : Swo lt) : ∀ {A B : List α}, Srt lt A → Srt lt B → Srt lt (mrg lt A B)
  | [], B, _, h => by rw [mrg_nil_l]; exact h
  | a :: A, [], h, _ => by rw [mrg_nil_r]; exact h
  | a :: A, b :: B, hA, hB => by
    have hA' := List.pairwise_cons.1 hA
    have hB' := List.pairwise_cons.1 hB
    rw [mrg_cons]
    cases hb : lt b a with
    | true =>
      simp only [cond_true]
      refine List.pairwise_cons.2 ⟨fun z hz => ?_, mrg_srt ho hA hB'.2⟩
      rcases mrg_mem (a :: A) B z hz with h | h
      · have hba := ho.asymm hb
        rcases List.mem_cons.1 h with rfl | h
        · exact hba
        · exact ho.trans hba (hA'.1 z h)
      · exact hB'.1 z h
    | false =>
      simp only [cond_false]
      refine List.pairwise_cons.2 ⟨fun z hz => ?_, mrg_srt ho hA'.2 hB⟩
      rcases mrg_mem A (b :: B) z hz with h | h
      · exact hA'.1 z h
      · rcases List.mem_cons.1 h with rfl | h
        · exact hb
        · exact ho.trans hb (hB'.1 z h)
termination_by A B => A.length + B.length

/-- Cut at places that fit. -/
theorem mrg_append (ho : Swo lt) : ∀ (A1 B1 A2 B2 : List α), (∀ x ∈ A1, ∀ y ∈ B2, lt y x = false) → (∀ y ∈ B1, ∀ x ∈ A2, lt y x = true) → mrg lt (A1 ++ A2) (B1 ++ B2) = mrg lt A1 B1 ++ mrg lt A2 B2
  | [], [], A2, B2, _, _ => by rw [mrg_nil_l]; rfl
  | [], b :: B1, A2, B2, h1, h2 => by
    rw [mrg_nil_l]
    have ih := mrg_append ho [] B1 A2 B2 h1 (fun y hy => h2 y (by simp [hy]))
    rw [mrg_nil_l] at ih
    cases A2 with
    | nil => simp only [List.append_nil, List.nil_append, mrg_nil_l]
    | cons a A2 =>
      have := h2 b (by simp) a (by simp)
      simp only [List.nil_append, List.cons_append] at ih ⊢
      rw [mrg_cons, this]
      simp only [cond_true]
      rw [ih]
  | a :: A1, [], A2, B2, h1, h2 => by
    rw [mrg_nil_r]
    have ih := mrg_append ho A1 [] A2 B2 (fun x hx => h1 x (by simp [hx])) h2
    rw [mrg_nil_r] at ih
    cases B2 with
    | nil => simp only [List.append_nil, mrg_nil_r]
    | cons b B2 =>
      have := h1 a (by simp) b (by simp)
      simp only [List.nil_append, List.cons_append] at ih ⊢
      rw [mrg_cons, this]
      simp only [cond_false]
      rw [ih]
  | a :: A1, b :: B1, A2, B2, h1, h2 => by
    simp only [List.cons_append]
    rw [mrg_cons, mrg_cons]
    cases hb : lt b a with
    | true =>
      simp only [cond_true, List.cons_append]
      have ih := mrg_append ho (a :: A1) B1 A2 B2 h1 (fun y hy => h2 y (by simp [hy]))
      simp only [List.cons_append] at ih
      rw [ih]
    | false =>
      simp only [cond_false, List.cons_append]
      have ih := mrg_append ho A1 (b :: B1) A2 B2 (fun x hx => h1 x (by simp [hx])) h2
      simp only [List.cons_append] at ih
      rw [ih]
termination_by A1 B1 => A1.length + B1.length

theorem mrg_assoc (ho : Swo lt) : ∀ (A B C : List α), mrg lt (mrg lt A B) C = mrg lt A (mrg lt B C)
  | [], B, C => by rw [mrg_nil_l, mrg_nil_l]
  | a :: A, [], C => by rw [mrg_nil_r, mrg_nil_l]
  | a :: A, b :: B, [] => by rw [mrg_nil_r, mrg_nil_r]
  | a :: A, b :: B, c :: C => by
    rw [mrg_cons a b A B, mrg_cons b c B C]
    cases h1 : lt b a with
    | true =>
      cases h2 : lt c b with
      | true =>
        simp only [cond_true]
        rw [mrg_cons, h2]
        have h3 : lt c a = true := by
          have := ho.asymm h1
          exact ho.lt_of_lt_le h2 this
        rw [mrg_cons, h3]
        simp only [cond_true]
        have ih := mrg_assoc ho (a :: A) (b :: B) C
        rw [mrg_cons a b A B, h1] at ih
        simp only [cond_true] at ih
        rw [ih]
      | false =>
        simp only [cond_true, cond_false]
        rw [mrg_cons, h2]
        rw [mrg_cons, h1]
        simp only [cond_true, cond_false]
        rw [mrg_assoc ho (a :: A) B (c :: C)]
    | false =>
      cases h2 : lt c b with
      | true =>
        simp only [cond_true, cond_false]
        cases h3 : lt c a with
        | true =>
          rw [mrg_cons, h3, mrg_cons, h3]
          simp only [cond_true]
          have ih := mrg_assoc ho (a :: A) (b :: B) C
          rw [mrg_cons a b A B, h1] at ih
          simp only [cond_false] at ih
          rw [ih]
        | false =>
          rw [mrg_cons, h3, mrg_cons, h3]
          simp only [cond_false]
          have ih := mrg_assoc ho A (b :: B) (c :: C)
          rw [mrg_cons b c B C, h2] at ih
          simp only [cond_true] at ih
          rw [ih]
      | false =>
        simp only [cond_false]
        have h3 : lt c a = false := ho.trans h1 h2
        rw [mrg_cons, h3, mrg_cons, h1]
        simp only [cond_false]
        have ih := mrg_assoc ho A (b :: B) (c :: C)
        rw [mrg_cons b c B C, h2] at ih
        simp only [cond_false] at ih
        rw [ih]
termination_by A B C => A.length + B.length + C.length

variable (lt) in
/-- Sorted, equals in their order. -/
def srt (l : List α) : List α := l.foldl (fun L x => mrg lt L [x]) []
theorem srt_snoc (l : List α) (x : α) : srt lt (l ++ [x]) = mrg lt (srt lt l) [x] := by
  unfold srt; rw [List.foldl_append]; rfl
theorem srt_nil : srt lt ([] : List α) = [] := rfl
theorem snoc_ind {P : List α → Prop} (h0 : P []) (h1 : ∀ l a, P l → P (l ++ [a])) (l : List α) : P l := by
  have : ∀ l : List α, P l.reverse := by
    intro l
    induction l with
    | nil => exact h0
    | cons a l ih => rw [List.reverse_cons]; exact h1 _ _ ih
  have h := this l.reverse
  rwa [List.reverse_reverse] at h
theorem srt_len (l : List α) : (srt lt l).length = l.length := by
  refine snoc_ind (P := fun l => (srt lt l).length = l.length) rfl (fun l a ih => ?_) l
  rw [srt_snoc, mrg_len, ih]; simp
theorem srt_srt (ho : Swo lt) (l : List α) : Srt lt (srt lt l) := by
  refine snoc_ind (P := fun l => Srt lt (srt lt l)) List.Pairwise.nil (fun l a ih => ?_) l
  rw [srt_snoc]
  exact mrg_srt ho ih (List.pairwise_singleton _ _)
theorem srt_mem (l : List α) (z : α) : z ∈ srt lt l → z ∈ l := by
  refine snoc_ind (P := fun l => z ∈ srt lt l → z ∈ l) (fun h => h) (fun l a ih h => ?_) l
  rw [srt_snoc] at h
  rcases mrg_mem _ _ z h with h | h
  · simp [ih h]
  · simp at h; simp [h]
theorem srt_append (ho : Swo lt) (l1 l2 : List α) : srt lt (l1 ++ l2) = mrg lt (srt lt l1) (srt lt l2) := by
  refine snoc_ind (P := fun l2 => srt lt (l1 ++ l2) = mrg lt (srt lt l1) (srt lt l2)) ?_ (fun l a ih => ?_) l2
  · rw [List.append_nil, srt_nil, mrg_nil_r]
  · rw [← List.append_assoc, srt_snoc, ih, srt_snoc, mrg_assoc ho]
/-- One put into a list that is in order. -/
theorem mrg_one (ho : Swo lt) : ∀ (A1 : List α) (x : α) (A2 : List α), (∀ y ∈ A1, lt x y = false) → (∀ y ∈ A2, lt x y = true) → mrg lt (A1 ++ A2) [x] = A1 ++ x :: A2 := by
  intro A1 x A2 h1 h2
  have := mrg_append ho A1 [] A2 [x] (fun y hy z hz => by simp at hz; subst hz; exact h1 y hy) (by simp)
  rw [List.nil_append, mrg_nil_r] at this
  rw [this]
  congr 1
  cases A2 with
  | nil => rw [mrg_nil_l]
  | cons a A2 =>
    rw [mrg_cons, h2 a (by simp)]
    simp only [cond_true]
    rw [mrg_nil_r]
theorem mrg_one_l (ho : Swo lt) : ∀ (B1 : List α) (x : α) (B2 : List α), (∀ y ∈ B1, lt y x = true) → (∀ y ∈ B2, lt y x = false) → mrg lt [x] (B1 ++ B2) = B1 ++ x :: B2 := by
  intro B1 x B2 h1 h2
  have := mrg_append ho [] B1 [x] B2 (by simp) (fun y hy z hz => by simp at hz; subst hz; exact h1 y hy)
  rw [List.nil_append, mrg_nil_l] at this
  rw [this]
  congr 1
  cases B2 with
  | nil => rw [mrg_nil_r]
  | cons b B2 =>
    rw [mrg_cons, h2 b (by simp)]
    simp only [cond_false]
    rw [mrg_nil_l]
theorem srt_of_sorted (ho : Swo lt) {l : List α} (h : Srt lt l) : srt lt l = l := by
  refine snoc_ind (P := fun l => Srt lt l → srt lt l = l) (fun _ => rfl) (fun l a ih h => ?_) l h
  have h' := List.pairwise_append.1 h
  rw [srt_snoc, ih h'.1]
  have := mrg_one ho l a [] (fun y hy => h'.2.2 y hy a (by simp)) (by simp)
  simpa using this
end

/-- A place where a test turns, looked for by halves. -/
theorem half_lt {i j : Nat} (h : i < j) : i ≤ (i + j) / 2 ∧ (i + j) / 2 < j := by omega

end Go.Proofs.Ytfpdlamjlbpmkaa
