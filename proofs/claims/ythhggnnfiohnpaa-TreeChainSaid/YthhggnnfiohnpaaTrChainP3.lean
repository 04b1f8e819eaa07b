/- What all texts of a seat use. -/
import Derived.Test.YthhggnnfiohnpaaChecked
import Derived.Laws.Strings
import Derived.Test.YthhggnnfiohnpaaTrChainP2
namespace Go.Proofs.Ythhggnnfiohnpaa
open E
set_option maxRecDepth 100000

theorem hmix : Try.prog.follows .mixedOrders = true := by kernel_rfl

def U (n : Int) : V := .val (.int .u64 n)
end Go.Proofs.Ythhggnnfiohnpaa

/- Strings in their order, and what is compared by several parts. -/
namespace Go.Proofs.Ythhggnnfiohnpaa
open E
set_option maxRecDepth 100000

theorem bytesLess_lt : ∀ (x y : List UInt8), Op.bytesLess x y = true ↔ x < y
  | x, [] => by cases x <;> simp [Op.bytesLess]
  | [], _ :: _ => by simp [Op.bytesLess]
  | a :: x, b :: y => by simp [Op.bytesLess, List.cons_lt_cons_iff, bytesLess_lt x y]

def ltS (s t : ByteArray) : Bool := Op.bytesLess s.toList t.toList
/-- How two texts stand to one another: -1, 0, 1. -/
def cmpS (s t : ByteArray) : Int := bif ltS s t then -1 else bif (!(ltS s t || s.toList == t.toList)) then 1 else 0
def orI (a b : Int) : Int := bif a != 0 then a else b

theorem toList_inj {s t : ByteArray} (h : s.toList = t.toList) : s = t := by
  rw [ByteArray.toList_eq, ByteArray.toList_eq] at h
  have : s.data = t.data := Array.toList_inj.1 h
  cases s; cases t; simp_all

theorem ltS_iff (s t : ByteArray) : ltS s t = true ↔ s.toList < t.toList := bytesLess_lt _ _
theorem ltS_irrefl (s : ByteArray) : ltS s s = false := by
  rw [Bool.eq_false_iff, ne_eq, ltS_iff]; exact List.lt_irrefl _
theorem ltS_trans {s t u : ByteArray} (h : ltS s t = true) (k : ltS t u = true) : ltS s u = true := by
  rw [ltS_iff] at h k ⊢; exact List.lt_trans h k
theorem ltS_total {s t : ByteArray} (h : ltS s t = false) (k : ltS t s = false) : s = t := by
  rw [Bool.eq_false_iff, ne_eq, ltS_iff] at h k
  exact toList_inj (List.le_antisymm (List.not_lt.1 k) (List.not_lt.1 h))
theorem ltS_asymm {s t : ByteArray} (h : ltS s t = true) : ltS t s = false := by
  cases k : ltS t s with
  | false => rfl
  | true => have := ltS_trans h k; rw [ltS_irrefl] at this; cases this

theorem cmpS_cases (s t : ByteArray) : (cmpS s t = -1 ∧ ltS s t = true) ∨ (cmpS s t = 0 ∧ s = t) ∨ (cmpS s t = 1 ∧ ltS t s = true) := by
  unfold cmpS
  cases h : ltS s t with
  | true => left; simp
  | false =>
    right
    by_cases e : s = t
    · left; subst e; simp
    · right
      have hne : (s.toList == t.toList) = false := by
        rw [beq_eq_false_iff_ne]; exact fun h => e (toList_inj h)
      refine ⟨by simp [hne], ?_⟩
      cases k : ltS t s with
      | true => rfl
      | false => exact absurd (ltS_total h k) e

theorem cmpS_self (s : ByteArray) : cmpS s s = 0 := by
  rcases cmpS_cases s s with ⟨_, h⟩ | ⟨h, _⟩ | ⟨_, h⟩
  · rw [ltS_irrefl] at h; cases h
  · exact h
  · rw [ltS_irrefl] at h; cases h
theorem cmpS_zero {s t : ByteArray} : cmpS s t = 0 ↔ s = t := by
  constructor
  · intro h
    rcases cmpS_cases s t with ⟨k, _⟩ | ⟨_, e⟩ | ⟨k, _⟩
    · omega
    · exact e
    · omega
  · rintro rfl; exact cmpS_self s
theorem cmpS_neg {s t : ByteArray} : cmpS s t < 0 ↔ ltS s t = true := by
  constructor
  · intro h
    rcases cmpS_cases s t with ⟨_, e⟩ | ⟨k, _⟩ | ⟨k, _⟩
    · exact e
    · omega
    · omega
  · intro h
    rcases cmpS_cases s t with ⟨k, _⟩ | ⟨_, e⟩ | ⟨_, k⟩
    · omega
    · subst e; rw [ltS_irrefl] at h; cases h
    · rw [ltS_asymm h] at k; cases k
theorem cmpS_flip (s t : ByteArray) : cmpS t s = - cmpS s t := by
  rcases cmpS_cases s t with ⟨k, e⟩ | ⟨k, e⟩ | ⟨k, e⟩
  · rcases cmpS_cases t s with ⟨k2, e2⟩ | ⟨k2, e2⟩ | ⟨k2, e2⟩
    · rw [ltS_asymm e] at e2; cases e2
    · subst e2; rw [ltS_irrefl] at e; cases e
    · omega
  · subst e; rw [k]; rfl
  · rcases cmpS_cases t s with ⟨k2, e2⟩ | ⟨k2, e2⟩ | ⟨k2, e2⟩
    · omega
    · subst e2; rw [ltS_irrefl] at e; cases e
    · rw [ltS_asymm e] at e2; cases e2

theorem ba_beq (s t : ByteArray) : (s == t) = true ↔ s = t := by
  cases s with | mk a => cases t with | mk b =>
  show (a == b) = true ↔ _
  simp
theorem ba_refl (s : ByteArray) : (s == s) = true := (ba_beq s s).2 rfl

def FNaN : List V → Option V := fun _ => some (Bo false)
def FCmp : List V → Option V
  | [.val (.string a), .val (.string b)] => some (I (cmpS a b))
  | _ => none
def FOr : List V → Option V
  | [.sl _ [[.val (.int _ a)], [.val (.int _ b)]]] => some (I (orI a b))
  | [.sl _ [[.val (.int _ a)], [.val (.int _ b)], [.val (.int _ c)]]] => some (I (orI a (orI b c)))
  | [.sl _ [[.val (.int _ a)], [.val (.int _ b)], [.val (.int _ c)], [.val (.int _ d)]]] => some (I (orI a (orI b (orI c d))))
  | _ => none
end Go.Proofs.Ythhggnnfiohnpaa

/- Sorting that keeps the order of equals: plain lists. -/
namespace Go.Proofs.Ythhggnnfiohnpaa
set_option linter.unusedVariables false
set_option linter.unusedSimpArgs false

section
variable {α : Type} (lt : α → α → Bool)
/-- Two lists, merged: the first one's is ahead but where the second one's is less. -/
def mrg : List α → List α → List α
  | [], B => B
  | A, [] => A
  | a :: A, b :: B => bif lt b a then b :: mrg (a :: A) B else a :: mrg A (b :: B)
termination_by A B => A.length + B.length
variable {lt}
theorem mrg_nil_l (B : List α) : mrg lt [] B = B := by rw [mrg]
theorem mrg_nil_r : ∀ A : List α, mrg lt A [] = A
  | [] => by rw [mrg]
  | a :: A => by rw [mrg]; simp
theorem mrg_cons (a b : α) (A B : List α) : mrg lt (a :: A) (b :: B) = bif lt b a then b :: mrg lt (a :: A) B else a :: mrg lt A (b :: B) := by rw [mrg]

/-- A strict weak order. -/
structure Swo (lt : α → α → Bool) : Prop where
  asymm : ∀ {a b}, lt a b = true → lt b a = false
  trans : ∀ {a b c}, lt b a = false → lt c b = false → lt c a = false       -- a ≤ b ≤ c
variable (lt) in
/-- In order. -/
def Srt (l : List α) : Prop := l.Pairwise (fun a b => lt b a = false)

theorem Swo.lt_of_lt_le {lt : α → α → Bool} (h : Swo lt) {a b c : α} (h1 : lt a b = true) (h2 : lt c b = false) : lt a c = true := by
  -- a < b ≤ c
  cases h3 : lt a c with
  | true => rfl
  | false =>
    have := h.trans (a := b) (b := c) (c := a) h2 h3
    rw [this] at h1; cases h1
theorem Swo.lt_of_le_lt {lt : α → α → Bool} (h : Swo lt) {a b c : α} (h1 : lt b a = false) (h2 : lt b c = true) : lt a c = true := by
  -- a ≤ b < c
  cases h3 : lt a c with
  | true => rfl
  | false =>
    have := h.trans (a := c) (b := a) (c := b) h3 h1
    rw [this] at h2; cases h2

theorem mrg_len : ∀ A B : List α, (mrg lt A B).length = A.length + B.length
  | [], B => by rw [mrg_nil_l]; simp
  | a :: A, [] => by rw [mrg_nil_r]; simp
  | a :: A, b :: B => by
    rw [mrg_cons]
    cases lt b a with
    | true => simp only [cond_true, List.length_cons, mrg_len (a :: A) B]; omega
    | false => simp only [cond_false, List.length_cons, mrg_len A (b :: B)]; omega
termination_by A B => A.length + B.length

theorem mrg_mem : ∀ (A B : List α) (z : α), z ∈ mrg lt A B → z ∈ A ∨ z ∈ B
  | [], B, z, h => by rw [mrg_nil_l] at h; exact .inr h
  | a :: A, [], z, h => by rw [mrg_nil_r] at h; exact .inl h
  | a :: A, b :: B, z, h => by
    rw [mrg_cons] at h
    cases hb : lt b a with
    | true =>
      rw [hb] at h
      simp only [cond_true, List.mem_cons] at h
      rcases h with rfl | h
      · exact .inr (by simp)
      · rcases mrg_mem (a :: A) B z h with h | h
        · exact .inl h
        · exact .inr (by simp [h])
    | false =>
      rw [hb] at h
      simp only [cond_false, List.mem_cons] at h
      rcases h with rfl | h
      · exact .inl (by simp)
      · rcases mrg_mem A (b :: B) z h with h | h
        · exact .inl (by simp [h])
        · exact .inr h
termination_by A B => A.length + B.length

theorem mrg_srt (ho : Swo lt) : ∀ {A B : List α}, Srt lt A → Srt lt B → Srt lt (mrg lt A B)
  | [], B, _, h => by rw [mrg_nil_l]; exact h
  | a :: A, [], h, _ => by rw [mrg_nil_r]; exact h
  | a :: A, b :: B, hA, hB => by
    have hA' := List.pairwise_cons.1 hA
    have hB' := List.pairwise_cons.1 hB
    rw [mrg_cons]
    cases hb : lt b a with
    | true =>
      simp only [cond_true]
      refine List.pairwise_cons.2 ⟨fun z hz => ?_, mrg_srt ho hA hB'.2⟩
      rcases mrg_mem (a :: A) B z hz with h | h
      · have hba := ho.asymm hb
        rcases List.mem_cons.1 h with rfl | h
        · exact hba
        · exact ho.trans hba (hA'.1 z h)
      · exact hB'.1 z h
    | false =>
      simp only [cond_false]
      refine List.pairwise_cons.2 ⟨fun z hz => ?_, mrg_srt ho hA'.2 hB⟩
      rcases mrg_mem A (b :: B) z hz with h | h
      · exact hA'.1 z h
      · rcases List.mem_cons.1 h with rfl | h
        · exact hb
        · exact ho.trans hb (hB'.1 z h)
termination_by A B => A.length + B.length

/-- Cut at places that fit. -/
theorem mrg_append (ho : Swo lt) : ∀ (A1 B1 A2 B2 : List α), (∀ x ∈ A1, ∀ y ∈ B2, lt y x = false) → (∀ y ∈ B1, ∀ x ∈ A2, lt y x = true) → mrg lt (A1 ++ A2) (B1 ++ B2) = mrg lt A1 B1 ++ mrg lt A2 B2
  | [], [], A2, B2, _, _ => by rw [mrg_nil_l]; rfl
  | [], b :: B1, A2, B2, h1, h2 => by
    rw [mrg_nil_l]
    have ih := mrg_append ho [] B1 A2 B2 h1 (fun y hy => h2 y (by simp [hy]))
    rw [mrg_nil_l] at ih
    cases A2 with
    | nil => simp only [List.append_nil, List.nil_append, mrg_nil_l]
    | cons a A2 =>
      have := h2 b (by simp) a (by simp)
      simp only [List.nil_append, List.cons_append] at ih ⊢
      rw [mrg_cons, this]
      simp only [cond_true]
      rw [ih]
  | a :: A1, [], A2, B2, h1, h2 => by
    rw [mrg_nil_r]
    have ih := mrg_append ho A1 [] A2 B2 (fun x hx => h1 x (by simp [hx])) h2
    rw [mrg_nil_r] at ih
    cases B2 with
    | nil => simp only [List.append_nil, mrg_nil_r]
    | cons b B2 =>
      have := h1 a (by simp) b (by simp)
      simp only [List.nil_append, List.cons_append] at ih ⊢
      rw [mrg_cons, this]
      simp only [cond_false]
      rw [ih]
  | a :: A1, b :: B1, A2, B2, h1, h2 => by
    simp only [List.cons_append]
    rw [mrg_cons, mrg_cons]
    cases hb : lt b a with
    | true =>
      simp only [cond_true, List.cons_append]
      have ih := mrg_append ho (a :: A1) B1 A2 B2 h1 (fun y hy => h2 y (by simp [hy]))
      simp only [List.cons_append] at ih
      rw [ih]
    | false =>
      simp only [cond_false, List.cons_append]
      have ih := mrg_append ho A1 (b :: B1) A2 B2 (fun x hx => h1 x (by simp [hx])) h2
      simp only [List.cons_append] at ih
      rw [ih]
termination_by A1 B1 => A1.length + B1.length

theorem mrg_assoc (ho : Swo lt) : ∀ (A B C : List α), mrg lt (mrg lt A B) C = mrg lt A (mrg lt B C)
  | [], B, C => by rw [mrg_nil_l, mrg_nil_l]
  | a :: A, [], C => by rw [mrg_nil_r, mrg_nil_l]
  | a :: A, b :: B, [] => by rw [mrg_nil_r, mrg_nil_r]
  | a :: A, b :: B, c :: C => by
    rw [mrg_cons a b A B, mrg_cons b c B C]
    cases h1 : lt b a with
    | true =>
      cases h2 : lt c b with
      | true =>
        simp only [cond_true]
        rw [mrg_cons, h2]
        have h3 : lt c a = true := by
          have := ho.asymm h1
          exact ho.lt_of_lt_le h2 this
        rw [mrg_cons, h3]
        simp only [cond_true]
        have ih := mrg_assoc ho (a :: A) (b :: B) C
        rw [mrg_cons a b A B, h1] at ih
        simp only [cond_true] at ih
        rw [ih]
      | false =>
        simp only [cond_true, cond_false]
        rw [mrg_cons, h2]
        rw [mrg_cons, h1]
        simp only [cond_true, cond_false]
        rw [mrg_assoc ho (a :: A) B (c :: C)]
    | false =>
      cases h2 : lt c b with
      | true =>
        simp only [cond_true, cond_false]
        cases h3 : lt c a with
        | true =>
          rw [mrg_cons, h3, mrg_cons, h3]
          simp only [cond_true]
          have ih := mrg_assoc ho (a :: A) (b :: B) C
          rw [mrg_cons a b A B, h1] at ih
          simp only [cond_false] at ih
          rw [ih]
        | false =>
          rw [mrg_cons, h3, mrg_cons, h3]
          simp only [cond_false]
          have ih := mrg_assoc ho A (b :: B) (c :: C)
          rw [mrg_cons b c B C, h2] at ih
          simp only [cond_true] at ih
          rw [ih]
      | false =>
        simp only [cond_false]
        have h3 : lt c a = false := ho.trans h1 h2
        rw [mrg_cons, h3, mrg_cons, h1]
        simp only [cond_false]
        have ih := mrg_assoc ho A (b :: B) (c :: C)
        rw [mrg_cons b c B C, h2] at ih
        simp only [cond_false] at ih
        rw [ih]
termination_by A B C => A.length + B.length + C.length

variable (lt) in
/-- Sorted, equals in their order. -/
def srt (l : List α) : List α := l.foldl (fun L x => mrg lt L [x]) []
theorem srt_snoc (l : List α) (x : α) : srt lt (l ++ [x]) = mrg lt (srt lt l) [x] := by
  unfold srt; rw [List.foldl_append]; rfl
theorem srt_nil : srt lt ([] : List α) = [] := rfl
theorem snoc_ind {P : List α → Prop} (h0 : P []) (h1 : ∀ l a, P l → P (l ++ [a])) (l : List α) : P l := by
  have : ∀ l : List α, P l.reverse := by
    intro l
    induction l with
    | nil => exact h0
    | cons a l ih => rw [List.reverse_cons]; exact h1 _ _ ih
  have h := this l.reverse
  rwa [List.reverse_reverse] at h
theorem srt_len (l : List α) : (srt lt l).length = l.length := by
  refine snoc_ind (P := fun l => (srt lt l).length = l.length) rfl (fun l a ih => ?_) l
  rw [srt_snoc, mrg_len, ih]; simp
theorem srt_srt (ho : Swo lt) (l : List α) : Srt lt (srt lt l) := by
  refine snoc_ind (P := fun l => Srt lt (srt lt l)) List.Pairwise.nil (fun l a ih => ?_) l
  rw [srt_snoc]
  exact mrg_srt ho ih (List.pairwise_singleton _ _)
theorem srt_mem (l : List α) (z : α) : z ∈ srt lt l → z ∈ l := by
  refine snoc_ind (P := fun l => z ∈ srt lt l → z ∈ l) (fun h => h) (fun l a ih h => ?_) l
  rw [srt_snoc] at h
  rcases mrg_mem _ _ z h with h | h
  · simp [ih h]
  · simp at h; simp [h]
theorem srt_append (ho : Swo lt) (l1 l2 : List α) : srt lt (l1 ++ l2) = mrg lt (srt lt l1) (srt lt l2) := by
  refine snoc_ind (P := fun l2 => srt lt (l1 ++ l2) = mrg lt (srt lt l1) (srt lt l2)) ?_ (fun l a ih => ?_) l2
  · rw [List.append_nil, srt_nil, mrg_nil_r]
  · rw [← List.append_assoc, srt_snoc, ih, srt_snoc, mrg_assoc ho]
/-- One put into a list that is in order. -/
theorem mrg_one (ho : Swo lt) : ∀ (A1 : List α) (x : α) (A2 : List α), (∀ y ∈ A1, lt x y = false) → (∀ y ∈ A2, lt x y = true) → mrg lt (A1 ++ A2) [x] = A1 ++ x :: A2 := by
  intro A1 x A2 h1 h2
  have := mrg_append ho A1 [] A2 [x] (fun y hy z hz => by simp at hz; subst hz; exact h1 y hy) (by simp)
  rw [List.nil_append, mrg_nil_r] at this
  rw [this]
  congr 1
  cases A2 with
  | nil => rw [mrg_nil_l]
  | cons a A2 =>
    rw [mrg_cons, h2 a (by simp)]
    simp only [cond_true]
    rw [mrg_nil_r]
theorem mrg_one_l (ho : Swo lt) : ∀ (B1 : List α) (x : α) (B2 : List α), (∀ y ∈ B1, lt y x = true) → (∀ y ∈ B2, lt y x = false) → mrg lt [x] (B1 ++ B2) = B1 ++ x :: B2 := by
  intro B1 x B2 h1 h2
  have := mrg_append ho [] B1 [x] B2 (by simp) (fun y hy z hz => by simp at hz; subst hz; exact h1 y hy)
  rw [List.nil_append, mrg_nil_l] at this
  rw [this]
  congr 1
  cases B2 with
  | nil => rw [mrg_nil_r]
  | cons b B2 =>
    rw [mrg_cons, h2 b (by simp)]
    simp only [cond_false]
    rw [mrg_nil_l]
theorem srt_of_sorted (ho : Swo lt) {l : List α} (h : Srt lt l) : srt lt l = l := by
  refine snoc_ind (P := fun l => Srt lt l → srt lt l = l) (fun _ => rfl) (fun l a ih h => ?_) l h
  have h' := List.pairwise_append.1 h
  rw [srt_snoc, ih h'.1]
  have := mrg_one ho l a [] (fun y hy => h'.2.2 y hy a (by simp)) (by simp)
  simpa using this
end

/-- A place where a test turns, looked for by halves. -/
theorem half_lt {i j : Nat} (h : i < j) : i ≤ (i + j) / 2 ∧ (i + j) / 2 < j := by omega

end Go.Proofs.Ythhggnnfiohnpaa

/- A loop that looks by halves; swapping in lists. -/
namespace Go.Proofs.Ythhggnnfiohnpaa.E
open Go
set_option linter.unusedSimpArgs false

/-- A loop that looks, by halves, for the place where a test turns. -/
theorem LoopC.half {P : Program} {k n : Nat} {c : Code} (pr : Nat → Bool) (S : Nat → Nat → SL) {e : Ex} (he : e ≠ .normal) (lo hi : Nat) (hmono : ∀ i j, lo ≤ i → i ≤ j → j < hi → pr j = true → pr i = true)
    (hgo : ∀ i j, lo ≤ i → i < j → j ≤ hi → pr ((i + j) / 2) = true → CodeC P k n c (S i j) .normal (S ((i + j) / 2 + 1) j))
    (hback : ∀ i j, lo ≤ i → i < j → j ≤ hi → pr ((i + j) / 2) = false → CodeC P k n c (S i j) .normal (S i ((i + j) / 2)))
    (hend : ∀ i, lo ≤ i → i ≤ hi → CodeC P k n c (S i i) e (S i i)) (hl : lo ≤ hi) :
    ∃ r, lo ≤ r ∧ r ≤ hi ∧ (∀ q, lo ≤ q → q < r → pr q = true) ∧ (∀ q, r ≤ q → q < hi → pr q = false) ∧ LoopC P k n c (S lo hi) e (S r r) := by
  have key : ∀ (d i j : Nat), j - i ≤ d → lo ≤ i → i ≤ j → j ≤ hi → (∀ q, lo ≤ q → q < i → pr q = true) → (∀ q, j ≤ q → q < hi → pr q = false) →
      ∃ r, lo ≤ r ∧ r ≤ hi ∧ (∀ q, lo ≤ q → q < r → pr q = true) ∧ (∀ q, r ≤ q → q < hi → pr q = false) ∧ LoopC P k n c (S i j) e (S r r) := by
    intro d
    induction d with
    | zero =>
      intro i j hd h1 h2 h3 ht hf
      have : i = j := by omega
      subst this
      exact ⟨i, h1, h3, ht, hf, LoopC.last (hend i h1 h3) he⟩
    | succ d ih =>
      intro i j hd h1 h2 h3 ht hf
      by_cases hij : i = j
      · subst hij
        exact ⟨i, h1, h3, ht, hf, LoopC.last (hend i h1 h3) he⟩
      · have hm : i ≤ (i + j) / 2 ∧ (i + j) / 2 < j := by omega
        cases hp : pr ((i + j) / 2) with
        | true =>
          obtain ⟨r, r1, r2, r3, r4, r5⟩ := ih ((i + j) / 2 + 1) j (by omega) (by omega) (by omega) h3
            (fun q q1 q2 => hmono q ((i + j) / 2) q1 (by omega) (by omega) hp) hf
          exact ⟨r, r1, r2, r3, r4, LoopC.next (hgo i j h1 (by omega) h3 hp) r5⟩
        | false =>
          obtain ⟨r, r1, r2, r3, r4, r5⟩ := ih i ((i + j) / 2) (by omega) h1 (by omega) (by omega) ht
            (fun q q1 q2 => by
              cases hq : pr q with
              | false => rfl
              | true => have := hmono ((i + j) / 2) q (by omega) q1 q2 hq; rw [this] at hp; cases hp)
          exact ⟨r, r1, r2, r3, r4, LoopC.next (hback i j h1 (by omega) h3 hp) r5⟩
  exact key (hi - lo) lo hi (Nat.le_refl _) (Nat.le_refl _) hl (Nat.le_refl _) (fun q q1 q2 => by omega) (fun q q1 q2 => by omega)

/-! ### what stands where in a list that is written out -/
section
variable {α : Type} {f : α → List V}
theorem at1 {A B : List α} {x : α} {j : Nat} (h : j = A.length) : ((A ++ x :: B).map f)[j]? = some (f x) := by subst h; simp
theorem at2 {A B : List α} {y x : α} {j : Nat} (h : j = A.length + 1) : ((A ++ y :: x :: B).map f)[j]? = some (f x) := by
  subst h
  rw [List.map_append, List.getElem?_append_right (by simp)]
  simp
theorem at3 {A M B : List α} {x y : α} {j : Nat} (h : j = A.length + 1 + M.length) : ((A ++ x :: (M ++ y :: B)).map f)[j]? = some (f y) := by
  subst h
  rw [List.map_append, List.getElem?_append_right (by simp; omega)]
  simp only [List.length_map, List.map_cons]
  rw [show A.length + 1 + M.length - A.length = M.length + 1 by omega, List.getElem?_cons_succ, List.map_append, List.getElem?_append_right (by simp)]
  simp
theorem set1 {A B : List α} {x z : α} {j : Nat} (h : j = A.length) : ((A ++ x :: B).map f).set j (f z) = (A ++ z :: B).map f := by
  subst h
  rw [← List.map_set]
  congr 1
  rw [List.set_append_right _ _ (by first | omega | (simp; omega))]
  simp
theorem set2 {A B : List α} {y x z : α} {j : Nat} (h : j = A.length + 1) : ((A ++ y :: x :: B).map f).set j (f z) = (A ++ y :: z :: B).map f := by
  subst h
  rw [← List.map_set]
  congr 1
  rw [List.set_append_right _ _ (by first | omega | (simp; omega))]
  simp
theorem set3 {A M B : List α} {x y z : α} {j : Nat} (h : j = A.length + 1 + M.length) : ((A ++ x :: (M ++ y :: B)).map f).set j (f z) = (A ++ x :: (M ++ z :: B)).map f := by
  subst h
  rw [← List.map_set]
  congr 1
  rw [List.set_append_right _ _ (by first | omega | (simp; omega)), show A.length + 1 + M.length - A.length = M.length + 1 by omega, List.set_cons_succ, List.set_append_right _ _ (by first | omega | (simp; omega))]
  simp
end
end Go.Proofs.Ythhggnnfiohnpaa.E
namespace Go.Proofs.Ythhggnnfiohnpaa.E
open Go
theorem halfW {i j : Nat} (h : i + j ≤ 4000000) : IntKind.i64.wrap (Int.fdiv (IntKind.u64.wrap (IntKind.i64.wrap (Int.ofNat (i + j)))) 2) = Int.ofNat ((i + j) / 2) := by
  rw [i64_small (n := Int.ofNat (i + j)) (by simp only [Int.ofNat_eq_natCast]; omega), u64_small (by simp only [Int.ofNat_eq_natCast]; omega), Int.fdiv_eq_ediv_of_nonneg _ (by omega)]
  simp only [Int.ofNat_eq_natCast]
  rw [i64_small (by omega)]
  omega
end Go.Proofs.Ythhggnnfiohnpaa.E

/- spans. -/
namespace Go.Proofs.Ythhggnnfiohnpaa
open E
set_option maxRecDepth 100000
set_option linter.unusedVariables false
set_option linter.unusedSimpArgs false


/-- An attribute. -/
structure At where
  key : ByteArray
  val : ByteArray
def At.row (a : At) : List V := [Sg a.key, Sg a.val]
def At.v (a : At) : V := .agg a.row
/-- A span. -/
structure Sp where
  hi : Int
  lo : Int
  id : Int
  par : Int
  svc : ByteArray
  op : ByteArray
  start : Int
  dur : Int
  err : Bool
  attrs : List At
def Sp.row (s : Sp) : List V := [U s.hi, U s.lo, U s.id, U s.par, Sg s.svc, Sg s.op, I s.start, I s.dur, Bo s.err, .sl 2 (s.attrs.map At.row)]
def Sp.v (s : Sp) : V := .agg s.row
def withinB (n lo hi : Int) : Bool := decide (n ≥ lo) && decide (n ≤ hi)
def nameB (s : ByteArray) : Bool := withinB (s.size : Int) 1 16
def pKey (a y : At) : Bool := y.key.toList == a.key.toList
def FName : List V → Option V
  | [.val (.string s)] => some (Bo (nameB s))
  | _ => none
/-- What is wrong with an attribute. -/
def badA (l : List At) (i : Nat) (a : At) : Bool := !nameB a.key || decide ((a.val.size : Int) > 16) || decide (0 ≤ idxI (pKey a) (l.take i))
def attrsB (l : List At) : Bool := (List.range l.length).all (fun i => match l[i]? with
  | some a => !badA l i a
  | none => true) && decide ((l.length : Int) ≤ 4)
def rightS (s : Sp) : Bool := nameB s.svc && nameB s.op && withinB s.start 0 1099511627776 && withinB s.dur 0 1073741824 && decide ((s.attrs.length : Int) ≤ 4) && attrsB s.attrs
theorem all_of_idx {α : Type} {p : α → Bool} {l : List α} (h : ∀ (i : Nat) (x : α), l[i]? = some x → p x = false) : l.all (fun a => !p a) = true := by
  rw [List.all_eq_true]
  intro x hx
  obtain ⟨i, hi⟩ := List.mem_iff_getElem?.1 hx
  rw [h i x hi]; rfl
theorem all_not {α : Type} {p : α → Bool} {l : List α} {i : Nat} {x : α} (h : l[i]? = some x) (hp : p x = true) : l.all (fun a => !p a) = false := by
  rw [List.all_eq_false]
  exact ⟨x, List.mem_of_getElem? h, by rw [hp]; simp⟩
theorem attrs_bad {l : List At} {i : Nat} {a : At} (h : l[i]? = some a) (hb : badA l i a = true) : attrsB l = false := by
  unfold attrsB
  rw [Bool.and_eq_false_iff]
  left
  rw [List.all_eq_false]
  exact ⟨i, List.mem_range.2 (List.getElem?_eq_some_iff.1 h).1, by rw [h]; simp [hb]⟩
theorem attrs_good {l : List At} (h : ∀ (i : Nat) (a : At), l[i]? = some a → badA l i a = false) : attrsB l = decide ((l.length : Int) ≤ 4) := by
  unfold attrsB
  have : ((List.range l.length).all fun i => match l[i]? with
    | some a => !badA l i a
    | none => true) = true := by
    rw [List.all_eq_true]
    intro i hi
    cases hx : l[i]? with
    | none => rfl
    | some a => simp [h i a hx]
  rw [this, Bool.true_and]
end Go.Proofs.Ythhggnnfiohnpaa

/- places in a list of spans: what compares them. -/
namespace Go.Proofs.Ythhggnnfiohnpaa
open E
set_option maxRecDepth 100000
set_option linter.unusedVariables false
set_option linter.unusedSimpArgs false

def cmpI (a b : Int) : Int := bif decide (a < b) then -1 else bif decide (a > b) then 1 else 0
def FNaI : List V → Option V := fun _ => some (Bo false)
def FCmpI : List V → Option V
  | [.val (.int _ a), .val (.int _ b)] => some (I (cmpI a b))
  | _ => none
/-- A place in a list of spans. -/
structure Ix (sp : List Sp) where
  i : Nat
  h : i < sp.length
def Ix.get {sp : List Sp} (x : Ix sp) : Sp := sp[x.i]'x.h
def Ix.n {sp : List Sp} (x : Ix sp) : Nat := x.i
theorem Ix.lt {sp : List Sp} (x : Ix sp) : x.n < sp.length := x.h
def Ix.row {sp : List Sp} (x : Ix sp) : List V := [I (x.n : Int)]
def cmpX {sp : List Sp} (x y : Ix sp) : Int := cmpI x.get.start y.get.start
theorem Ix.at {sp : List Sp} (x : Ix sp) : (sp.map Sp.row)[Int.toNat (x.n : Int)]? = some (Sp.row x.get) := by
  have := x.h
  simp [Ix.get, Ix.n, this]
theorem cNaI_0 (n : Int)  : Contract Try.prog 31 [I n] [] (Bo false) ([]) :=
  vcP hmix [.reg 1 [(2, [], some false)]] [] [
      (n != n) = false] (by kernel_rfl)
    (by
      simp only [allP]
      and_intros <;> first
        | (simp; done))

theorem cNaI (n : Int)  : Contract Try.prog 31 [I n] [] (Bo false) [] := by
  exact Contract.cast (by
    first
      | rfl) (by
    first
      | rfl) (cNaI_0 n  )

theorem cCmpI_0 (a b : Int)  (tq0 : (decide (a < b)) = true) : Contract Try.prog 29 [I a, I b] [] (I (-1 : Int)) ([]) :=
  vcP hmix [.reg 9 [(2, [], some true)], .tab [(31, FNaI)]] [] [
      Contract Try.prog (31 : Nat) [I a] [] (Bo false) [],
      Contract Try.prog (31 : Nat) [I b] [] (Bo false) [],
      decide (a < b) = true] (by kernel_rfl)
    (by
      have d0 := tq0
      try simp only [Int.ofNat_eq_natCast, List.length_map, Bool.not_eq_true', Bool.not_eq_false', decide_eq_true_eq, decide_eq_false_iff_not] at d0
      simp only [allP]
      and_intros <;> first
        | omega
        | exact cNaI _)

theorem cCmpI_1 (a b : Int)  (tq0 : (decide (a < b)) = false) (tq1 : (decide (a > b)) = true) : Contract Try.prog 29 [I a, I b] [] (I (1 : Int)) ([]) :=
  vcP hmix [.reg 9 [(2, [], some false)], .reg 11 [(2, [], some true)], .tab [(31, FNaI)]] [] [
      Contract Try.prog (31 : Nat) [I a] [] (Bo false) [],
      Contract Try.prog (31 : Nat) [I b] [] (Bo false) [],
      decide (a < b) = false,
      decide (a > b) = true] (by kernel_rfl)
    (by
      have d0 := tq0
      have d1 := tq1
      try simp only [Int.ofNat_eq_natCast, List.length_map, Bool.not_eq_true', Bool.not_eq_false', decide_eq_true_eq, decide_eq_false_iff_not] at d0 d1
      simp only [allP]
      and_intros <;> first
        | omega
        | exact cNaI _)

theorem cCmpI_2 (a b : Int)  (tq0 : (decide (a < b)) = false) (tq1 : (decide (a > b)) = false) : Contract Try.prog 29 [I a, I b] [] (I (0 : Int)) ([]) :=
  vcP hmix [.reg 9 [(2, [], some false)], .reg 11 [(2, [], some false)], .tab [(31, FNaI)]] [] [
      Contract Try.prog (31 : Nat) [I a] [] (Bo false) [],
      Contract Try.prog (31 : Nat) [I b] [] (Bo false) [],
      decide (a < b) = false,
      decide (a > b) = false] (by kernel_rfl)
    (by
      have d0 := tq0
      have d1 := tq1
      try simp only [Int.ofNat_eq_natCast, List.length_map, Bool.not_eq_true', Bool.not_eq_false', decide_eq_true_eq, decide_eq_false_iff_not] at d0 d1
      simp only [allP]
      and_intros <;> first
        | omega
        | exact cNaI _)

theorem cCmpI (a b : Int)  : Contract Try.prog 29 [I a, I b] [] (I (cmpI a b)) [] := by
  rcases tf (decide (a < b)) with tq0 | tq0
  · exact Contract.cast (by
      first
        | (simp only [cmpI, tq0, cond_true, cond_false]; done)) (by
      first
        | rfl) (cCmpI_0 a b  tq0)
  · rcases tf (decide (a > b)) with tq1 | tq1
    · exact Contract.cast (by
        first
          | (simp only [cmpI, tq0, tq1, cond_true, cond_false]; done)) (by
        first
          | rfl) (cCmpI_1 a b  tq0 tq1)
    · exact Contract.cast (by
        first
          | (simp only [cmpI, tq0, tq1, cond_true, cond_false]; done)) (by
        first
          | rfl) (cCmpI_2 a b  tq0 tq1)

theorem cK1_0 {sp : List Sp} (x y : Ix sp)  : Contract Try.prog 28 [I (x.n : Int), I (y.n : Int), .ptr 0 0 0 0] [.box [.sl 10 (sp.map Sp.row)]] (I (cmpX x y)) ([some (Obj.box [V.sl (10 : Nat) (List.map Sp.row sp)])]) :=
  vcP hmix [.reg 1 [(4, [.row (Sp.row x.get)], none), (9, [.row (Sp.row y.get)], none), (10, [.call [] [] (I (cmpX x y)) []], none)]] [] [
      (0 : Int) ≤ Int.ofNat (Ix.n x),
      Int.ofNat (Ix.n x) < Int.ofNat (List.length (List.map Sp.row sp)),
      (List.map Sp.row sp)[Ix.n x]? = some (Sp.row (Ix.get x)),
      (0 : Int) ≤ Int.ofNat (Ix.n y),
      Int.ofNat (Ix.n y) < Int.ofNat (List.length (List.map Sp.row sp)),
      (List.map Sp.row sp)[Ix.n y]? = some (Sp.row (Ix.get y)),
      Contract Try.prog (29 : Nat) [I (Sp.start (Ix.get x)), I (Sp.start (Ix.get y))] [] (I (cmpX x y)) []] (by kernel_rfl)
    (by
      simp only [allP]
      and_intros <;> first
        | exact cCmpI _ _
        | exact Ix.at _
        | (have := x.lt; simp; omega)
        | (have := y.lt; simp; omega)
        | (simp; done))

theorem cK1 {sp : List Sp} (x y : Ix sp)  : Contract Try.prog 28 [I (x.n : Int), I (y.n : Int), .ptr 0 0 0 0] [.box [.sl 10 (sp.map Sp.row)]] (I (cmpX x y)) [some (.box [.sl 10 (sp.map Sp.row)])] := by
  exact Contract.cast (by
    first
      | rfl) (by
    first
      | rfl) (cK1_0 x y  )

end Go.Proofs.Ythhggnnfiohnpaa

/- Lists whose elements are all right, by their places. -/
namespace Go.Proofs.Ythhggnnfiohnpaa
open E
/-- No element is bad at its place. -/
def allI {α : Type} (bad : Nat → α → Bool) (l : List α) : Bool := (List.range l.length).all fun i => match l[i]? with
  | some a => !bad i a
  | none => true
theorem allI_bad {α : Type} {bad : Nat → α → Bool} {l : List α} {i : Nat} {x : α} (h : l[i]? = some x) (hb : bad i x = true) : allI bad l = false := by
  unfold allI
  rw [List.all_eq_false]
  exact ⟨i, List.mem_range.2 (List.getElem?_eq_some_iff.1 h).1, by rw [h]; simp [hb]⟩
theorem allI_good {α : Type} {bad : Nat → α → Bool} {l : List α} (h : ∀ (i : Nat) (x : α), l[i]? = some x → bad i x = false) : allI bad l = true := by
  unfold allI
  rw [List.all_eq_true]
  intro i hi
  cases hx : l[i]? with
  | none => rfl
  | some a => simp [h i a hx]
theorem allI_iff {α : Type} {bad : Nat → α → Bool} {l : List α} : allI bad l = true ↔ ∀ (i : Nat) (x : α), l[i]? = some x → bad i x = false := by
  constructor
  · intro h i x hx
    cases hb : bad i x with
    | false => rfl
    | true => rw [allI_bad hx hb] at h; cases h
  · exact allI_good
/-- A search that ends one way or the other, as a Bool. -/
theorem allI_all {α : Type} {p : α → Bool} {l : List α} : allI (fun _ x => !p x) l = l.all p := by
  cases h : l.all p with
  | true =>
    rw [List.all_eq_true] at h
    exact allI_good fun i x hx => by rw [h x (List.mem_of_getElem? hx)]; rfl
  | false =>
    rw [List.all_eq_false] at h
    obtain ⟨x, hx, hp⟩ := h
    obtain ⟨i, hi⟩ := List.getElem?_of_mem hx
    exact allI_bad hi (by simpa using hp)
/-- A loop that goes through a list and keeps its frame. -/
theorem LoopC.pass {P : Program} {k n : Nat} {c : Code} {α : Type} (l : List α) (S : Nat → SL) {e : Ex} (he : e ≠ .normal)
    (hround : ∀ (i : Nat) (x : α), l[i]? = some x → i < l.length → CodeC P k n c (S i) .normal (S (i + 1)))
    (hend : CodeC P k n c (S l.length) e (S l.length)) : LoopC P k n c (S 0) e (S l.length) := by
  have key : ∀ m i, i + m = l.length → LoopC P k n c (S i) e (S l.length) := by
    intro m
    induction m with
    | zero => intro i h; have : i = l.length := by omega
              subst this; exact LoopC.last hend he
    | succ m ih => intro i h; exact LoopC.next (hround i l[i] (List.getElem?_eq_getElem (by omega)) (by omega)) (ih (i + 1) (by omega))
  exact key l.length 0 (by omega)
theorem baBeq (a b : ByteArray) : (a == b) = (a.data == b.data) := rfl
instance : LawfulBEq ByteArray where
  rfl {a} := by rw [baBeq]; simp
  eq_of_beq {a b} h := by
    rw [baBeq] at h
    cases a; cases b
    simp at h
    rw [h]
end Go.Proofs.Ythhggnnfiohnpaa

/- who is named as parent; rings. -/
namespace Go.Proofs.Ythhggnnfiohnpaa
open E
set_option maxRecDepth 100000
set_option linter.unusedVariables false
set_option linter.unusedSimpArgs false

/-- The first place at which something is so. -/
def firstI {α : Type} (bad : Nat → α → Bool) : Nat → List α → Int
  | _, [] => -1
  | i, x :: l => bif bad i x then (i : Int) else firstI bad (i + 1) l
theorem firstI_stop {α : Type} {bad : Nat → α → Bool} : ∀ {l : List α} {i : Nat} {x : α} (o : Nat), l[i]? = some x → bad (o + i) x = true → (∀ j y, j < i → l[j]? = some y → bad (o + j) y = false) → firstI bad o l = ((o + i : Nat) : Int)
  | [], i, x, o, h, _, _ => by simp at h
  | y :: l, 0, x, o, h, hb, _ => by
    simp only [List.getElem?_cons_zero, Option.some.injEq] at h
    subst h
    have : bad o y = true := hb
    simp [firstI, this]
  | y :: l, i + 1, x, o, h, hb, hn => by
    have h0 : bad o y = false := hn 0 y (by omega) rfl
    simp only [firstI, h0, cond_false]
    rw [firstI_stop (i := i) (x := x) (o + 1) (by simpa using h) (by rwa [show o + 1 + i = o + (i + 1) by omega]) (fun j z hj hz => by rw [show o + 1 + j = o + (j + 1) by omega]; exact hn (j + 1) z (by omega) (by simpa using hz))]
    congr 1; omega
theorem firstI_none {α : Type} {bad : Nat → α → Bool} : ∀ {l : List α} (o : Nat), (∀ j y, l[j]? = some y → bad (o + j) y = false) → firstI bad o l = -1
  | [], _, _ => rfl
  | y :: l, o, hn => by
    have h0 : bad o y = false := hn 0 y rfl
    simp only [firstI, h0, cond_false]
    exact firstI_none (o + 1) fun j z hz => by rw [show o + 1 + j = o + (j + 1) by omega]; exact hn (j + 1) z (by simpa using hz)
theorem firstI_range {α : Type} {bad : Nat → α → Bool} : ∀ (l : List α) (o : Nat), firstI bad o l = -1 ∨ ∃ i, i < l.length ∧ firstI bad o l = ((o + i : Nat) : Int)
  | [], _ => .inl rfl
  | y :: l, o => by
    cases hb : bad o y with
    | true => exact .inr ⟨0, by simp, by simp [firstI, hb]⟩
    | false =>
      simp only [firstI, hb, cond_false]
      rcases firstI_range l (o + 1) with h | ⟨i, h1, h2⟩
      · exact .inl h
      · exact .inr ⟨i + 1, by simpa using h1, by rw [h2]; congr 1; omega⟩
def bI (v : Int) : List V := [I v]
/-- Is the k-th span the one that the j-th names as its parent? -/
def nmH (j : Nat) (p : Int) (k : Nat) (x : Sp) : Bool := !(decide ((k : Int) = (j : Int))) && x.id == p
def nmF (l : List Sp) (j : Nat) (p : Int) : Int := firstI (nmH j p) 0 l
def parOf (l : List Sp) (i : Nat) : Int := match l[i]? with
  | some y => y.par
  | none => 0
def nmP (l : List Sp) (i : Nat) : Int := nmF l i (parOf l i)
theorem nmP_at {l : List Sp} {i : Nat} {y : Sp} (h : l[i]? = some y) : nmP l i = nmF l i y.par := by simp [nmP, parOf, h]
def upF (l : List Sp) : List Int := (List.range l.length).map (nmP l)
theorem upF_len (l : List Sp) : (upF l).length = l.length := by simp [upF]
theorem nmP_range (l : List Sp) (i : Nat) : nmP l i = -1 ∨ ∃ j, j < l.length ∧ nmP l i = (j : Int) := by
  rcases firstI_range (bad := nmH i (parOf l i)) l 0 with h | ⟨j, h1, h2⟩
  · exact .inl h
  · exact .inr ⟨j, h1, by unfold nmP nmF; rw [h2, Nat.zero_add]⟩
def mn (a b : Int) : Int := if b < a then b else a
/-- Round and round from k: the least place, where it comes back to i. -/
def ringG (U : List Int) (i : Nat) : Nat → Int → Int → Int
  | 0, _, _ => -1
  | f + 1, k, m => bif k == -1 then -1 else bif k == (i : Int) then m else ringG U i f (U.getD k.toNat 0) (mn m k)
def ringF (U : List Int) (i : Nat) : Int := ringG U i U.length (U.getD i 0) i
def parF (l : List Sp) : List Int := (List.range l.length).map fun i => bif ringF (upF l) i == (i : Int) then -1 else nmP l i
def naS (l : List Sp) (j : Nat) (r : Int) (i : Nat) : SL := ⟨[(0, .sl 10 (l.map Sp.row)), (1, I (j : Int)), (4, I r), (7, .sl 10 (l.map Sp.row)), (8, I (l.length : Int)), (9, I (i : Int))], [], []⟩
def rgS (U : List Int) (i : Nat) (r m k : Int) (n : Nat) : SL := ⟨[(0, .sl 1 (U.map bI)), (1, I (i : Int)), (4, I r), (5, I m), (6, I k), (7, I (n : Int))], [], []⟩
noncomputable def naB : Code := codeAt Try.prog 18 [true, false, true, false, false]

noncomputable def rgB : Code := codeAt Try.prog 20 [true, true, false, true, false, false]

theorem na_0 (l : List Sp) (y : Sp) (j : Nat) (x : Sp) (i : Nat) (hx : l[i]? = some x) (hi : i < l.length) (hy : l[j]? = some y) (hj : j < l.length) (hs : l.length ≤ 1000000) (tq0 : (Int.ofNat i != Int.ofNat j) = true) (tq1 : (Sp.id x == Sp.par y) = true) : CodeC Try.prog 0 29 naB (naS l j 0 (i)) (Ex.ret) ({ env := [((0 : Nat), V.sl (10 : Nat) (List.map Sp.row l)), ((1 : Nat), I (Int.ofNat j)), ((4 : Nat), I (Int.ofNat i)), ((7 : Nat), V.sl (10 : Nat) (List.map Sp.row l)), ((8 : Nat), I (Int.ofNat (List.length l))), ((9 : Nat), I (Int.ofNat i))], st := [], ids := [] }) :=
  runP hmix [.reg 2 [(0, [], some true)], .reg 3 [(2, [.row (Sp.row x)], none)], .reg 4 [(3, [], some true), (10, [.row (Sp.row y)], none), (12, [], some true)]] ⟨[0, 1, 4, 7, 8, 9], [], []⟩ [
      decide (Int.ofNat i < Int.ofNat (List.length l)) = true,
      (0 : Int) ≤ Int.ofNat i,
      Int.ofNat i < Int.ofNat (List.length (List.map Sp.row l)),
      (List.map Sp.row l)[i]? = some (Sp.row x),
      (Int.ofNat i != Int.ofNat j) = true,
      (0 : Int) ≤ Int.ofNat j,
      Int.ofNat j < Int.ofNat (List.length (List.map Sp.row l)),
      (List.map Sp.row l)[j]? = some (Sp.row y),
      (Sp.id x == Sp.par y) = true] (by kernel_rfl)
    (by
      have d0 := tq0
      have d1 := tq1
      try simp only [Int.ofNat_eq_natCast, List.length_map, Bool.not_eq_true', Bool.not_eq_false', decide_eq_true_eq, decide_eq_false_iff_not] at d0 d1
      simp only [allP]
      and_intros <;> first
        | omega
        | (simp; omega)
        | (simp [hx]; done)
        | (simp [hy]; done))

theorem na_1 (l : List Sp) (y : Sp) (j : Nat) (x : Sp) (i : Nat) (hx : l[i]? = some x) (hi : i < l.length) (hy : l[j]? = some y) (hj : j < l.length) (hs : l.length ≤ 1000000) (tq0 : (Int.ofNat i != Int.ofNat j) = true) (tq1 : (Sp.id x == Sp.par y) = false) : CodeC Try.prog 0 29 naB (naS l j 0 (i)) (Ex.normal) ({ env := [((0 : Nat), V.sl (10 : Nat) (List.map Sp.row l)), ((1 : Nat), I (Int.ofNat j)), ((4 : Nat), I (0 : Int)), ((7 : Nat), V.sl (10 : Nat) (List.map Sp.row l)), ((8 : Nat), I (Int.ofNat (List.length l))), ((9 : Nat), I (Int.ofNat (i + (1 : Nat))))], st := [], ids := [] }) :=
  runP hmix [.reg 2 [(0, [], some true)], .reg 3 [(2, [.row (Sp.row x)], none)], .reg 4 [(3, [], some true), (10, [.row (Sp.row y)], none), (12, [], some false)], .reg 6 [(0, [.be (I ((i + 1 : Nat) : Int))], none)]] ⟨[0, 1, 4, 7, 8, 9], [], []⟩ [
      decide (Int.ofNat i < Int.ofNat (List.length l)) = true,
      (0 : Int) ≤ Int.ofNat i,
      Int.ofNat i < Int.ofNat (List.length (List.map Sp.row l)),
      (List.map Sp.row l)[i]? = some (Sp.row x),
      (Int.ofNat i != Int.ofNat j) = true,
      (0 : Int) ≤ Int.ofNat j,
      Int.ofNat j < Int.ofNat (List.length (List.map Sp.row l)),
      (List.map Sp.row l)[j]? = some (Sp.row y),
      (Sp.id x == Sp.par y) = false,
      IntKind.wrap IntKind.i64 (Int.ofNat (i + (1 : Nat))) = Int.ofNat (i + (1 : Nat))] (by kernel_rfl)
    (by
      have d0 := tq0
      have d1 := tq1
      try simp only [Int.ofNat_eq_natCast, List.length_map, Bool.not_eq_true', Bool.not_eq_false', decide_eq_true_eq, decide_eq_false_iff_not] at d0 d1
      simp only [allP]
      and_intros <;> first
        | omega
        | (simp; omega)
        | (simp [hx]; done)
        | exact i64_small (by simp; omega)
        | (simp [hy]; done))

theorem na_2 (l : List Sp) (y : Sp) (j : Nat) (x : Sp) (i : Nat) (hx : l[i]? = some x) (hi : i < l.length) (hy : l[j]? = some y) (hj : j < l.length) (hs : l.length ≤ 1000000) (tq0 : (Int.ofNat i != Int.ofNat j) = false) : CodeC Try.prog 0 29 naB (naS l j 0 (i)) (Ex.normal) ({ env := [((0 : Nat), V.sl (10 : Nat) (List.map Sp.row l)), ((1 : Nat), I (Int.ofNat j)), ((4 : Nat), I (0 : Int)), ((7 : Nat), V.sl (10 : Nat) (List.map Sp.row l)), ((8 : Nat), I (Int.ofNat (List.length l))), ((9 : Nat), I (Int.ofNat (i + (1 : Nat))))], st := [], ids := [] }) :=
  runP hmix [.reg 2 [(0, [], some true)], .reg 3 [(2, [.row (Sp.row x)], none)], .reg 4 [(3, [], some false), (10, [.row (Sp.row y)], none)], .reg 6 [(0, [.be (I ((i + 1 : Nat) : Int))], none)]] ⟨[0, 1, 4, 7, 8, 9], [], []⟩ [
      decide (Int.ofNat i < Int.ofNat (List.length l)) = true,
      (0 : Int) ≤ Int.ofNat i,
      Int.ofNat i < Int.ofNat (List.length (List.map Sp.row l)),
      (List.map Sp.row l)[i]? = some (Sp.row x),
      (Int.ofNat i != Int.ofNat j) = false,
      IntKind.wrap IntKind.i64 (Int.ofNat (i + (1 : Nat))) = Int.ofNat (i + (1 : Nat))] (by kernel_rfl)
    (by
      have d0 := tq0
      try simp only [Int.ofNat_eq_natCast, List.length_map, Bool.not_eq_true', Bool.not_eq_false', decide_eq_true_eq, decide_eq_false_iff_not] at d0
      simp only [allP]
      and_intros <;> first
        | omega
        | (simp; omega)
        | (simp [hx]; done)
        | exact i64_small (by simp; omega))

theorem naGo (l : List Sp) (y : Sp) (j : Nat) (x : Sp) (i : Nat) (hx : l[i]? = some x) (hi : i < l.length) (hy : l[j]? = some y) (hj : j < l.length) (hs : l.length ≤ 1000000) (hb : nmH j y.par i x = false) : CodeC Try.prog 0 29 naB (naS l j 0 (i)) .normal (naS l j 0 (i + 1)) := by
  rcases tf (Int.ofNat i != Int.ofNat j) with tq0 | tq0
  · rcases tf (Sp.id x == Sp.par y) with tq1 | tq1
    · exact absurd hb (by
        first
          | (intro hb; simp_all [nmH]; done))
    · exact CodeC.cast (by
        first
          | rfl) (na_1 l y j x i hx hi hy hj hs tq0 tq1)
  · exact CodeC.cast (by
      first
        | rfl) (na_2 l y j x i hx hi hy hj hs tq0)

theorem naStop (l : List Sp) (y : Sp) (j : Nat) (x : Sp) (i : Nat) (hx : l[i]? = some x) (hi : i < l.length) (hy : l[j]? = some y) (hj : j < l.length) (hs : l.length ≤ 1000000) (hb : nmH j y.par i x = true) : CodeC Try.prog 0 29 naB (naS l j 0 (i)) .ret (naS l j (i : Int) (i)) := by
  rcases tf (Int.ofNat i != Int.ofNat j) with tq0 | tq0
  · rcases tf (Sp.id x == Sp.par y) with tq1 | tq1
    · exact CodeC.cast (by
        first
          | rfl) (na_0 l y j x i hx hi hy hj hs tq0 tq1)
    · exact absurd hb (by
        first
          | (simp [nmH, tq0, tq1]; done))
  · exact absurd hb (by
      first
        | (intro hb; simp_all [nmH]; done))

theorem naE_0 (l : List Sp) (y : Sp) (j : Nat) (i : Nat) (hy : l[j]? = some y) (hj : j < l.length) (hs : l.length ≤ 1000000) (h : l.length ≤ i) : CodeC Try.prog 0 29 naB (naS l j 0 (i)) (Ex.exit (0 : Nat)) ({ env := [((0 : Nat), V.sl (10 : Nat) (List.map Sp.row l)), ((1 : Nat), I (Int.ofNat j)), ((4 : Nat), I (0 : Int)), ((7 : Nat), V.sl (10 : Nat) (List.map Sp.row l)), ((8 : Nat), I (Int.ofNat (List.length l))), ((9 : Nat), I (Int.ofNat i))], st := [], ids := [] }) :=
  runP hmix [.reg 2 [(0, [], some false)]] ⟨[0, 1, 4, 7, 8, 9], [], []⟩ [
      decide (Int.ofNat i < Int.ofNat (List.length l)) = false] (by kernel_rfl)
    (by
      simp only [allP]
      and_intros <;> first
        | (simp; omega))

theorem naE (l : List Sp) (y : Sp) (j : Nat) (i : Nat) (hy : l[j]? = some y) (hj : j < l.length) (hs : l.length ≤ 1000000) (h : l.length ≤ i)  : CodeC Try.prog 0 29 naB (naS l j 0 (i)) (.exit 0) (naS l j 0 (i)) := by
  exact CodeC.cast (by
    first
      | rfl) (naE_0 l y j i hy hj hs h )

theorem na_b_0 (l : List Sp) (y : Sp) (j : Nat) (i : Nat) (hy : l[j]? = some y) (hj : j < l.length) (hs : l.length ≤ 1000000) (hl : LoopC Try.prog 0 29 naB (naS l j 0 (0)) .ret (naS l j (i : Int) (i))) : Contract Try.prog 18 [.sl 10 (l.map Sp.row), I (j : Int)] [] (I (Int.ofNat i)) ([]) :=
  vcP hmix [.reg 1 [(1, [.be (I ((l.length : Nat) : Int))], none)], .cut ⟨[0, 1, 4, 7, 8, 9], [], []⟩ .ret (naS l j (i : Int) (i))] [] [
      Int.ofNat (List.length (List.map Sp.row l)) = Int.ofNat (List.length l),
      LoopC Try.prog (0 : Nat) (29 : Nat) naB { env := [((0 : Nat), V.sl (10 : Nat) (List.map Sp.row l)), ((1 : Nat), I (Int.ofNat j)), ((4 : Nat), I (0 : Int)), ((7 : Nat), V.sl (10 : Nat) (List.map Sp.row l)), ((8 : Nat), I (Int.ofNat (List.length l))), ((9 : Nat), I (0 : Int))], st := [], ids := [] } Ex.ret { env := [((0 : Nat), V.sl (10 : Nat) (List.map Sp.row l)), ((1 : Nat), I (Int.ofNat j)), ((4 : Nat), I (Int.ofNat i)), ((7 : Nat), V.sl (10 : Nat) (List.map Sp.row l)), ((8 : Nat), I (Int.ofNat (List.length l))), ((9 : Nat), I (Int.ofNat i))], st := [], ids := [] }] (by kernel_rfl)
    (by
      simp only [allP]
      and_intros <;> first
        | exact hl
        | (simp; done))

theorem na_b (l : List Sp) (y : Sp) (j : Nat) (i : Nat) (hy : l[j]? = some y) (hj : j < l.length) (hs : l.length ≤ 1000000) (hl : LoopC Try.prog 0 29 naB (naS l j 0 (0)) .ret (naS l j (i : Int) (i))) : Contract Try.prog 18 [.sl 10 (l.map Sp.row), I (j : Int)] [] (I (i : Int)) [] := by
  exact Contract.cast (by
    first
      | rfl) (by
    first
      | rfl) (na_b_0 l y j i hy hj hs hl )

theorem na_g_0 (l : List Sp) (y : Sp) (j : Nat) (hy : l[j]? = some y) (hj : j < l.length) (hs : l.length ≤ 1000000) (hl : LoopC Try.prog 0 29 naB (naS l j 0 (0)) (.exit 0) (naS l j 0 (l.length))) : Contract Try.prog 18 [.sl 10 (l.map Sp.row), I (j : Int)] [] (I (-1 : Int)) ([]) :=
  vcP hmix [.reg 1 [(1, [.be (I ((l.length : Nat) : Int))], none)], .cut ⟨[0, 1, 4, 7, 8, 9], [], []⟩ (.exit 0) (naS l j 0 (l.length))] [] [
      Int.ofNat (List.length (List.map Sp.row l)) = Int.ofNat (List.length l),
      LoopC Try.prog (0 : Nat) (29 : Nat) naB { env := [((0 : Nat), V.sl (10 : Nat) (List.map Sp.row l)), ((1 : Nat), I (Int.ofNat j)), ((4 : Nat), I (0 : Int)), ((7 : Nat), V.sl (10 : Nat) (List.map Sp.row l)), ((8 : Nat), I (Int.ofNat (List.length l))), ((9 : Nat), I (0 : Int))], st := [], ids := [] } (Ex.exit (0 : Nat)) { env := [((0 : Nat), V.sl (10 : Nat) (List.map Sp.row l)), ((1 : Nat), I (Int.ofNat j)), ((4 : Nat), I (0 : Int)), ((7 : Nat), V.sl (10 : Nat) (List.map Sp.row l)), ((8 : Nat), I (Int.ofNat (List.length l))), ((9 : Nat), I (Int.ofNat (List.length l)))], st := [], ids := [] }] (by kernel_rfl)
    (by
      simp only [allP]
      and_intros <;> first
        | exact hl
        | (simp; done))

theorem na_g (l : List Sp) (y : Sp) (j : Nat) (hy : l[j]? = some y) (hj : j < l.length) (hs : l.length ≤ 1000000) (hl : LoopC Try.prog 0 29 naB (naS l j 0 (0)) (.exit 0) (naS l j 0 (l.length))) : Contract Try.prog 18 [.sl 10 (l.map Sp.row), I (j : Int)] [] (I (-1)) [] := by
  exact Contract.cast (by
    first
      | rfl) (by
    first
      | rfl) (na_g_0 l y j hy hj hs hl )

theorem cNamed (l : List Sp) (j : Nat) (hj : j < l.length) (hs : l.length ≤ 1000000) : Contract Try.prog 18 [.sl 10 (l.map Sp.row), I (j : Int)] [] (I (nmP l j)) [] := by
  have hy : l[j]? = some l[j] := List.getElem?_eq_getElem hj
  rw [nmP_at hy]
  rcases LoopC.search (P := Try.prog) (k := 0) (n := 29) (c := naB) l (nmH j l[j].par) (fun i => naS l j 0 (i)) (fun i => naS l j (i : Int) (i)) (e1 := .ret) (e2 := .exit 0) (by simp) (by simp)
    (fun i x hx hi hb => naGo l l[j] j x i hx hi hy hj hs hb) (fun i x hx hi hb => naStop l l[j] j x i hx hi hy hj hs hb) (naE l l[j] j _ hy hj hs (Nat.le_refl _)) with ⟨i, x, k1, k2, k3, k4⟩ | ⟨k1, k2⟩
  · have := firstI_stop (bad := nmH j l[j].par) 0 k1 (by simpa using k2) (fun q z hq hz => by simpa using k3 q z hq hz)
    rw [Nat.zero_add] at this
    rw [show nmF l j l[j].par = (i : Int) from this]
    exact na_b l l[j] j i hy hj hs k4
  · rw [show nmF l j l[j].par = -1 from firstI_none 0 (fun q z hz => by simpa using k1 q z hz)]
    exact na_g l l[j] j hy hj hs k2

theorem rgGo_0 (U : List Int) (i : Nat) (m v : Int) (k n : Nat) (hs : U.length ≤ 1000000) (hn : n < U.length) (hv : U[k]? = some v) (hk : k < U.length) (hi : k ≠ i) : CodeC Try.prog 0 34 rgB (rgS U i 0 m (k : Int) n) (Ex.normal) ({ env := [((0 : Nat), V.sl (1 : Nat) (List.map bI U)), ((1 : Nat), I (Int.ofNat i)), ((4 : Nat), I (0 : Int)), ((5 : Nat), I (if Int.ofNat k < m then Int.ofNat k else m)), ((6 : Nat), I v), ((7 : Nat), I (Int.ofNat (n + (1 : Nat))))], st := [], ids := [] }) :=
  runP hmix [.reg 3 [(1, [], some true), (6, [], some true)], .reg 5 [(2, [], some false)], .reg 8 [(3, [.row [I v]], none)], .reg 4 [(1, [.be (I ((n + 1 : Nat) : Int))], none)]] ⟨[0, 1, 4, 5, 6, 7], [], []⟩ [
      true = true,
      decide (Int.ofNat n < Int.ofNat (List.length (List.map bI U))) = true,
      (Int.ofNat k == Int.ofNat i) = false,
      (0 : Int) ≤ Int.ofNat k,
      Int.ofNat k < Int.ofNat (List.length (List.map bI U)),
      (List.map bI U)[k]? = some [I v],
      IntKind.wrap IntKind.i64 (Int.ofNat (n + (1 : Nat))) = Int.ofNat (n + (1 : Nat))] (by kernel_rfl)
    (by
      simp only [allP]
      and_intros <;> first
        | (simp; omega)
        | (simp [hv, bI]; done)
        | exact i64_small (by simp; omega))

theorem rgGo (U : List Int) (i : Nat) (m v : Int) (k n : Nat) (hs : U.length ≤ 1000000) (hn : n < U.length) (hv : U[k]? = some v) (hk : k < U.length) (hi : k ≠ i)  : CodeC Try.prog 0 34 rgB (rgS U i 0 m (k : Int) n) .normal (rgS U i 0 (mn m (k : Int)) v (n + 1)) := by
  exact CodeC.cast (by
    first
      | rfl) (rgGo_0 U i m v k n hs hn hv hk hi )

theorem rgSt_0 (U : List Int) (i : Nat) (m v : Int) (k n : Nat) (hs : U.length ≤ 1000000) (hn : n < U.length) (hi : k = i) : CodeC Try.prog 0 34 rgB (rgS U i 0 m (k : Int) n) (Ex.ret) ({ env := [((0 : Nat), V.sl (1 : Nat) (List.map bI U)), ((1 : Nat), I (Int.ofNat i)), ((4 : Nat), I m), ((5 : Nat), I m), ((6 : Nat), I (Int.ofNat k)), ((7 : Nat), I (Int.ofNat n))], st := [], ids := [] }) :=
  runP hmix [.reg 3 [(1, [], some true), (6, [], some true)], .reg 5 [(2, [], some true)]] ⟨[0, 1, 4, 5, 6, 7], [], []⟩ [
      true = true,
      decide (Int.ofNat n < Int.ofNat (List.length (List.map bI U))) = true,
      (Int.ofNat k == Int.ofNat i) = true] (by kernel_rfl)
    (by
      simp only [allP]
      and_intros <;> first
        | (simp; omega)
        | (simp; done))

theorem rgSt (U : List Int) (i : Nat) (m v : Int) (k n : Nat) (hs : U.length ≤ 1000000) (hn : n < U.length) (hi : k = i)  : CodeC Try.prog 0 34 rgB (rgS U i 0 m (k : Int) n) .ret (rgS U i m m (k : Int) n) := by
  exact CodeC.cast (by
    first
      | rfl) (rgSt_0 U i m v k n hs hn hi )

theorem rgE1_0 (U : List Int) (i : Nat) (m : Int) (n : Nat)  : CodeC Try.prog 0 34 rgB (rgS U i 0 m (-1) n) (Ex.exit (0 : Nat)) ({ env := [((0 : Nat), V.sl (1 : Nat) (List.map bI U)), ((1 : Nat), I (Int.ofNat i)), ((4 : Nat), I (0 : Int)), ((5 : Nat), I m), ((6 : Nat), I (-1 : Int)), ((7 : Nat), I (Int.ofNat n))], st := [], ids := [] }) :=
  runP hmix [.reg 3 [(1, [], some false)]] ⟨[0, 1, 4, 5, 6, 7], [], []⟩ [
      false = false] (by kernel_rfl)
    (by simp [allP])

theorem rgE1 (U : List Int) (i : Nat) (m : Int) (n : Nat)   : CodeC Try.prog 0 34 rgB (rgS U i 0 m (-1) n) (.exit 0) (rgS U i 0 m (-1) n) := by
  exact CodeC.cast (by
    first
      | rfl) (rgE1_0 U i m n  )

theorem rgE2_0 (U : List Int) (i : Nat) (m k : Int) (n : Nat) (hk : k ≠ -1) (hn : U.length ≤ n) : CodeC Try.prog 0 34 rgB (rgS U i 0 m k n) (Ex.exit (0 : Nat)) ({ env := [((0 : Nat), V.sl (1 : Nat) (List.map bI U)), ((1 : Nat), I (Int.ofNat i)), ((4 : Nat), I (0 : Int)), ((5 : Nat), I m), ((6 : Nat), I k), ((7 : Nat), I (Int.ofNat n))], st := [], ids := [] }) :=
  runP hmix [.reg 3 [(1, [], some true), (6, [], some false)]] ⟨[0, 1, 4, 5, 6, 7], [], []⟩ [
      (k != (-1 : Int)) = true,
      decide (Int.ofNat n < Int.ofNat (List.length (List.map bI U))) = false] (by kernel_rfl)
    (by
      simp only [allP]
      and_intros <;> first
        | (simp; omega))

theorem rgE2 (U : List Int) (i : Nat) (m k : Int) (n : Nat) (hk : k ≠ -1) (hn : U.length ≤ n)  : CodeC Try.prog 0 34 rgB (rgS U i 0 m k n) (.exit 0) (rgS U i 0 m k n) := by
  exact CodeC.cast (by
    first
      | rfl) (rgE2_0 U i m k n hk hn )

theorem rg_b_0 (U : List Int) (i : Nat) (m k v : Int) (n : Nat) (hv : U[i]? = some v) (hi : i < U.length) (hl : LoopC Try.prog 0 34 rgB (rgS U i 0 (i : Int) v 0) .ret (rgS U i m m k n)) : Contract Try.prog 20 [.sl 1 (U.map bI), I (i : Int)] [] (I m) ([]) :=
  vcP hmix [.reg 2 [(3, [.row [I v]], none)], .cut ⟨[0, 1, 4, 5, 6, 7], [], []⟩ .ret (rgS U i m m k n)] [] [
      (0 : Int) ≤ Int.ofNat i,
      Int.ofNat i < Int.ofNat (List.length (List.map bI U)),
      (List.map bI U)[i]? = some [I v],
      LoopC Try.prog (0 : Nat) (34 : Nat) rgB { env := [((0 : Nat), V.sl (1 : Nat) (List.map bI U)), ((1 : Nat), I (Int.ofNat i)), ((4 : Nat), I (0 : Int)), ((5 : Nat), I (Int.ofNat i)), ((6 : Nat), I v), ((7 : Nat), I (0 : Int))], st := [], ids := [] } Ex.ret { env := [((0 : Nat), V.sl (1 : Nat) (List.map bI U)), ((1 : Nat), I (Int.ofNat i)), ((4 : Nat), I m), ((5 : Nat), I m), ((6 : Nat), I k), ((7 : Nat), I (Int.ofNat n))], st := [], ids := [] }] (by kernel_rfl)
    (by
      simp only [allP]
      and_intros <;> first
        | exact hl
        | (simp; omega)
        | (simp [hv, bI]; done))

theorem rg_b (U : List Int) (i : Nat) (m k v : Int) (n : Nat) (hv : U[i]? = some v) (hi : i < U.length) (hl : LoopC Try.prog 0 34 rgB (rgS U i 0 (i : Int) v 0) .ret (rgS U i m m k n)) : Contract Try.prog 20 [.sl 1 (U.map bI), I (i : Int)] [] (I m) [] := by
  exact Contract.cast (by
    first
      | rfl) (by
    first
      | rfl) (rg_b_0 U i m k v n hv hi hl )

theorem rg_g_0 (U : List Int) (i : Nat) (m k v : Int) (n : Nat) (hv : U[i]? = some v) (hi : i < U.length) (hl : LoopC Try.prog 0 34 rgB (rgS U i 0 (i : Int) v 0) (.exit 0) (rgS U i 0 m k n)) : Contract Try.prog 20 [.sl 1 (U.map bI), I (i : Int)] [] (I (-1 : Int)) ([]) :=
  vcP hmix [.reg 2 [(3, [.row [I v]], none)], .cut ⟨[0, 1, 4, 5, 6, 7], [], []⟩ (.exit 0) (rgS U i 0 m k n)] [] [
      (0 : Int) ≤ Int.ofNat i,
      Int.ofNat i < Int.ofNat (List.length (List.map bI U)),
      (List.map bI U)[i]? = some [I v],
      LoopC Try.prog (0 : Nat) (34 : Nat) rgB { env := [((0 : Nat), V.sl (1 : Nat) (List.map bI U)), ((1 : Nat), I (Int.ofNat i)), ((4 : Nat), I (0 : Int)), ((5 : Nat), I (Int.ofNat i)), ((6 : Nat), I v), ((7 : Nat), I (0 : Int))], st := [], ids := [] } (Ex.exit (0 : Nat)) { env := [((0 : Nat), V.sl (1 : Nat) (List.map bI U)), ((1 : Nat), I (Int.ofNat i)), ((4 : Nat), I (0 : Int)), ((5 : Nat), I m), ((6 : Nat), I k), ((7 : Nat), I (Int.ofNat n))], st := [], ids := [] }] (by kernel_rfl)
    (by
      simp only [allP]
      and_intros <;> first
        | exact hl
        | (simp; omega)
        | (simp [hv, bI]; done))

theorem rg_g (U : List Int) (i : Nat) (m k v : Int) (n : Nat) (hv : U[i]? = some v) (hi : i < U.length) (hl : LoopC Try.prog 0 34 rgB (rgS U i 0 (i : Int) v 0) (.exit 0) (rgS U i 0 m k n)) : Contract Try.prog 20 [.sl 1 (U.map bI), I (i : Int)] [] (I (-1)) [] := by
  exact Contract.cast (by
    first
      | rfl) (by
    first
      | rfl) (rg_g_0 U i m k v n hv hi hl )

/-- Numbers that are places, or none. -/
def InR (U : List Int) : Prop := ∀ (i : Nat) (v : Int), U[i]? = some v → v = -1 ∨ ∃ j : Nat, j < U.length ∧ v = (j : Int)
theorem upF_inR (l : List Sp) : InR (upF l) := by
  intro i v h
  unfold upF at h
  rw [List.getElem?_map] at h
  cases hr : (List.range l.length)[i]? with
  | none => rw [hr] at h; simp at h
  | some q =>
    rw [hr] at h
    simp only [Option.map_some, Option.some.injEq] at h
    subst h
    rw [upF_len]
    exact nmP_range l q
theorem rgL (U : List Int) (hU : InR U) (hs : U.length ≤ 1000000) (i : Nat) : ∀ (f n : Nat) (m k : Int), n + f = U.length → (k = -1 ∨ ∃ j : Nat, j < U.length ∧ k = (j : Int)) →
    (∃ m' k' n', LoopC Try.prog 0 34 rgB (rgS U i 0 m k n) .ret (rgS U i m' m' k' n') ∧ ringG U i f k m = m') ∨ (∃ m' k' n', LoopC Try.prog 0 34 rgB (rgS U i 0 m k n) (.exit 0) (rgS U i 0 m' k' n') ∧ ringG U i f k m = -1)
  | 0, n, m, k, hf, hk => by
    right
    by_cases h1 : k = -1
    · subst h1; exact ⟨m, -1, n, LoopC.last (rgE1 U i m n) (by simp), rfl⟩
    · exact ⟨m, k, n, LoopC.last (rgE2 U i m k n h1 (by omega)) (by simp), rfl⟩
  | f + 1, n, m, k, hf, hk => by
    rcases hk with rfl | ⟨j, hj, rfl⟩
    · right
      exact ⟨m, -1, n, LoopC.last (rgE1 U i m n) (by simp), by simp [ringG]⟩
    · have h1 : (((j : Nat) : Int) == -1) = false := by simp
      by_cases h2 : j = i
      · left
        refine ⟨m, (j : Int), n, LoopC.last (rgSt U i m 0 j n hs (by omega) h2) (by simp), ?_⟩
        subst h2
        simp [ringG, h1]
      · have h3 : (((j : Nat) : Int) == (i : Int)) = false := by simp; omega
        have hv := List.getElem?_eq_getElem hj
        have ih := rgL U hU hs i f (n + 1) (mn m (j : Int)) U[j] (by omega) (hU j _ hv)
        have hr := rgGo U i m U[j] j n hs (by omega) hv hj h2
        have e : ringG U i (f + 1) (j : Int) m = ringG U i f U[j] (mn m (j : Int)) := by simp [ringG, h1, h3, hj]
        rw [e]
        rcases ih with ⟨m', k', n', q1, q2⟩ | ⟨m', k', n', q1, q2⟩
        · exact .inl ⟨m', k', n', LoopC.next hr q1, q2⟩
        · exact .inr ⟨m', k', n', LoopC.next hr q1, q2⟩
theorem cRing (U : List Int) (hU : InR U) (hs : U.length ≤ 1000000) (i : Nat) (hi : i < U.length) : Contract Try.prog 20 [.sl 1 (U.map bI), I (i : Int)] [] (I (ringF U i)) [] := by
  have hv := List.getElem?_eq_getElem hi
  have e : ringF U i = ringG U i U.length U[i] (i : Int) := by simp [ringF, hi]
  rw [e]
  rcases rgL U hU hs i U.length 0 (i : Int) U[i] (by omega) (hU i _ hv) with ⟨m', k', n', q1, q2⟩ | ⟨m', k', n', q1, q2⟩
  · rw [q2]; exact rg_b U i m' k' _ n' hv hi q1
  · rw [q2]; exact rg_g U i m' k' _ n' hv hi q1

end Go.Proofs.Ythhggnnfiohnpaa

/- the places of the parents. -/
namespace Go.Proofs.Ythhggnnfiohnpaa
open E
set_option maxRecDepth 100000
set_option linter.unusedVariables false
set_option linter.unusedSimpArgs false

theorem flatI (U : List Int) : FlatRows (U.map bI) := by
  intro r hr
  obtain ⟨v, _, rfl⟩ := List.mem_map.1 hr
  rfl
theorem set_take {α : Type} (A B : List α) (i : Nat) (x : α) (hA : A[i]? = some x) (hB : i < B.length) : (A.take i ++ B.drop i).set i x = A.take (i + 1) ++ B.drop (i + 1) := by
  have hl : (A.take i).length = i := by have := (List.getElem?_eq_some_iff.1 hA).1; simp; omega
  rw [List.set_append, if_neg (by omega), hl, Nat.sub_self, List.drop_eq_getElem_cons hB, List.set_cons_zero, List.take_add_one, hA]
  simp
theorem keep_take {α : Type} (A B : List α) (i : Nat) (x : α) (hA : A[i]? = some x) (hB : B[i]? = some x) : A.take i ++ B.drop i = A.take (i + 1) ++ B.drop (i + 1) := by
  rw [← set_take A B i x hA (List.getElem?_eq_some_iff.1 hB).1]
  have hl : (A.take i).length = i := by have := (List.getElem?_eq_some_iff.1 hA).1; simp; omega
  have hlt := (List.getElem?_eq_some_iff.1 hB).1
  have hx := (List.getElem?_eq_some_iff.1 hB).2
  rw [List.set_append, if_neg (by omega), hl, Nat.sub_self, List.drop_eq_getElem_cons hlt, List.set_cons_zero, hx]
theorem at_take {α : Type} (A B : List α) (i : Nat) (hA : i ≤ A.length) : (A.take i ++ B.drop i)[i]? = B[i]? := by
  rw [List.getElem?_append_right (by simp; omega)]
  have : i - (A.take i).length = 0 := by simp; omega
  rw [this, List.getElem?_drop]; rfl
theorem bI_at {U : List Int} {i : Nat} {v : Int} (h : U[i]? = some v) : (U.map bI)[Int.toNat (i : Int)]? = some [I v] := by simp [h, bI]
theorem bI_set (U : List Int) (i : Nat) (v : Int) : (U.map bI).set (Int.toNat (i : Int)) [I v] = (U.set i v).map bI := by
  rw [List.map_set]; rfl
theorem clnNil (c : Nat) : Contract Try.prog 19 [.val (.slice none 0 c)] [] (.own 0) [some (.arr 1 [])] :=
  vcP hmix [.reg 2 [(0, [.idx 1], none)]] [401000] [
      ] (by kernel_rfl)
    trivial

theorem clnVal (A : Addr) (c : Nat) : Contract Try.prog 19 [.val (.slice (some A) 0 c)] [] (.own 0) [some (.arr 1 [])] :=
  vcP hmix [] [603000] [
      (0 : Nat) ≤ (140737488355328 : Nat)] (by kernel_rfl)
    (by
      simp only [allP]
      and_intros <;> first
        | omega)

theorem clnCons (rows : List (List V)) (h : rows ≠ []) (hb : rows.length * 8 ≤ 140737488355328) : Contract Try.prog 19 [.sl 1 rows] [] (.own 0) [some (.arr 1 rows)] :=
  vcP hmix [] [603000] [
      rows ≠ [],
      ((0 : Nat) + List.length rows) * (8 : Nat) ≤ (140737488355328 : Nat)] (by kernel_rfl)
    (by
      simp only [allP]
      and_intros <;> first
        | omega)

theorem cln (rows : List (List V)) (hb : rows.length * 8 ≤ 140737488355328) : Contract Try.prog 19 [.sl 1 rows] [] (.own 0) [some (.arr 1 rows)] := by
  by_cases h : rows = []
  · subst h
    exact Contract.slNil clnNil clnVal
  · exact clnCons rows h hb

def pnS (l : List Sp) (X : List Int) (i : Nat) : SL := ⟨[(0, .sl 10 (l.map Sp.row)), (3, .own 900), (8, I (l.length : Int)), (9, I (i : Int))], [(900, .arr 1 (X.map bI))], [900]⟩
def paS (U O : List Int) (n i : Nat) : SL := ⟨[(3, .own 900), (5, .own 901), (22, I (n : Int)), (23, I (i : Int))], [(900, .arr 1 (U.map bI)), (901, .arr 1 (O.map bI))], [900, 901]⟩
noncomputable def pnB : Code := codeAt Try.prog 8 [true, true, false, true, false, false]

noncomputable def paB : Code := codeAt Try.prog 8 [true, true, true, true, false, true, false, false]

theorem pn_0 (l : List Sp) (X : List Int) (i : Nat) (hi : i < l.length) (hX : X.length = i) (hs : l.length ≤ 1000000) : CodeC Try.prog 0 36 pnB (pnS l X i) (Ex.normal) ({ env := [((0 : Nat), V.sl (10 : Nat) (List.map Sp.row l)), ((3 : Nat), V.own (900 : Nat)), ((8 : Nat), I (Int.ofNat (List.length l))), ((9 : Nat), I (Int.ofNat (i + (1 : Nat))))], st := [((900 : Nat), Obj.arr (1 : Nat) (List.map bI (X ++ [nmP l i])))], ids := [(900 : Nat)] }) :=
  runP hmix [.reg 3 [(0, [], some true)], .reg 5 [(3, [.call [] [] (I (nmP l i)) []], none), (5, [.beO ((X ++ [nmP l i]).map bI)], none)], .reg 6 [(0, [.be (I ((i + 1 : Nat) : Int))], none)]] ⟨[0, 3, 8, 9], [(1006000, 900)], []⟩ [
      decide (Int.ofNat i < Int.ofNat (List.length l)) = true,
      Contract Try.prog (18 : Nat) [V.sl (10 : Nat) (List.map Sp.row l), I (Int.ofNat i)] [] (I (nmP l i)) [],
      (List.length (List.map bI X) + (1 : Nat)) * (8 : Nat) ≤ (140737488355328 : Nat),
      List.map bI X ++ [[I (nmP l i)]] = List.map bI (X ++ [nmP l i]),
      IntKind.wrap IntKind.i64 (Int.ofNat (i + (1 : Nat))) = Int.ofNat (i + (1 : Nat))] (by kernel_rfl)
    (by
      simp only [allP]
      and_intros <;> first
        | exact cNamed l i hi hs
        | (simp [bI]; done)
        | (simp; omega)
        | exact i64_small (by simp; omega))

theorem pnGo (l : List Sp) (X : List Int) (i : Nat) (hi : i < l.length) (hX : X.length = i) (hs : l.length ≤ 1000000)  : CodeC Try.prog 0 36 pnB (pnS l X i) .normal (pnS l (X ++ [nmP l i]) (i + 1)) := by
  exact CodeC.cast (by
    first
      | rfl) (pn_0 l X i hi hX hs )

theorem pnE_0 (l : List Sp) (X : List Int) (i : Nat) (h : l.length ≤ i) : CodeC Try.prog 0 36 pnB (pnS l X i) (Ex.exit (0 : Nat)) ({ env := [((0 : Nat), V.sl (10 : Nat) (List.map Sp.row l)), ((3 : Nat), V.own (900 : Nat)), ((8 : Nat), I (Int.ofNat (List.length l))), ((9 : Nat), I (Int.ofNat i))], st := [((900 : Nat), Obj.arr (1 : Nat) (List.map bI X))], ids := [(900 : Nat)] }) :=
  runP hmix [.reg 3 [(0, [], some false)]] ⟨[0, 3, 8, 9], [(900, 900)], []⟩ [
      decide (Int.ofNat i < Int.ofNat (List.length l)) = false] (by kernel_rfl)
    (by
      simp only [allP]
      and_intros <;> first
        | (simp; omega))

theorem pnE (l : List Sp) (X : List Int) (i : Nat) (h : l.length ≤ i)  : CodeC Try.prog 0 36 pnB (pnS l X i) (.exit 0) (pnS l X i) := by
  exact CodeC.cast (by
    first
      | rfl) (pnE_0 l X i h )

theorem paT_0 (U O : List Int) (c : Int) (n i : Nat) (hU : InR U) (hn : U.length = n) (hi : i < n) (ho : O[i]? = some c) (hs : n ≤ 1000000) (hb : ringF U i = (i : Int)) : CodeC Try.prog 0 36 paB (paS U O n i) (Ex.normal) ({ env := [((3 : Nat), V.own (900 : Nat)), ((5 : Nat), V.own (901 : Nat)), ((22 : Nat), I (Int.ofNat n)), ((23 : Nat), I (Int.ofNat (i + (1 : Nat))))], st := [((900 : Nat), Obj.arr (1 : Nat) (List.map bI U)), ((901 : Nat), Obj.arr (1 : Nat) (List.map bI (List.set O i (-1 : Int))))], ids := [(900 : Nat), (901 : Nat)] }) :=
  runP hmix [.reg 9 [(0, [], some true)], .reg 11 [(2, [.call [] [] (I (ringF U i)) []], none), (4, [], some true)], .reg 12 [(3, [.row [I c], .beO ((O.set i (-1)).map bI)], none)], .reg 13 [(0, [.be (I ((i + 1 : Nat) : Int))], none)]] ⟨[3, 5, 22, 23], [(900, 900), (901, 901)], []⟩ [
      decide (Int.ofNat i < Int.ofNat n) = true,
      Contract Try.prog (20 : Nat) [V.sl (1 : Nat) (List.map bI U), I (Int.ofNat i)] [] (I (ringF U i)) [],
      true = true,
      (ringF U i == Int.ofNat i) = true,
      (0 : Int) ≤ Int.ofNat i,
      Int.ofNat i < Int.ofNat (List.length (List.map bI O)),
      (List.map bI O)[i]? = some [I c],
      List.set (List.map bI O) i [I (-1 : Int)] = List.map bI (List.set O i (-1 : Int)),
      IntKind.wrap IntKind.i64 (Int.ofNat (i + (1 : Nat))) = Int.ofNat (i + (1 : Nat))] (by kernel_rfl)
    (by
      simp only [allP]
      and_intros <;> first
        | exact cRing U hU (by omega) i (by omega)
        | (have := (List.getElem?_eq_some_iff.1 ho).1; simp; omega)
        | exact bI_at ho
        | exact bI_set O i (-1)
        | exact i64_small (by simp; omega)
        | (simp; done))

theorem paT (U O : List Int) (c : Int) (n i : Nat) (hU : InR U) (hn : U.length = n) (hi : i < n) (ho : O[i]? = some c) (hs : n ≤ 1000000) (hb : ringF U i = (i : Int))  : CodeC Try.prog 0 36 paB (paS U O n i) .normal (paS U (O.set i (-1)) n (i + 1)) := by
  exact CodeC.cast (by
    first
      | rfl) (paT_0 U O c n i hU hn hi ho hs hb )

theorem paF_0 (U O : List Int) (c : Int) (n i : Nat) (hU : InR U) (hn : U.length = n) (hi : i < n) (ho : O[i]? = some c) (hs : n ≤ 1000000) (hb : ringF U i ≠ (i : Int)) : CodeC Try.prog 0 36 paB (paS U O n i) (Ex.normal) ({ env := [((3 : Nat), V.own (900 : Nat)), ((5 : Nat), V.own (901 : Nat)), ((22 : Nat), I (Int.ofNat n)), ((23 : Nat), I (Int.ofNat (i + (1 : Nat))))], st := [((900 : Nat), Obj.arr (1 : Nat) (List.map bI U)), ((901 : Nat), Obj.arr (1 : Nat) (List.map bI O))], ids := [(900 : Nat), (901 : Nat)] }) :=
  runP hmix [.reg 9 [(0, [], some true)], .reg 11 [(2, [.call [] [] (I (ringF U i)) []], none), (4, [], some false)], .reg 13 [(0, [.be (I ((i + 1 : Nat) : Int))], none)]] ⟨[3, 5, 22, 23], [(900, 900), (901, 901)], []⟩ [
      decide (Int.ofNat i < Int.ofNat n) = true,
      Contract Try.prog (20 : Nat) [V.sl (1 : Nat) (List.map bI U), I (Int.ofNat i)] [] (I (ringF U i)) [],
      true = true,
      (ringF U i == Int.ofNat i) = false,
      IntKind.wrap IntKind.i64 (Int.ofNat (i + (1 : Nat))) = Int.ofNat (i + (1 : Nat))] (by kernel_rfl)
    (by
      simp only [allP]
      and_intros <;> first
        | exact cRing U hU (by omega) i (by omega)
        | (have := (List.getElem?_eq_some_iff.1 ho).1; simp; omega)
        | exact i64_small (by simp; omega)
        | (simp; done))

theorem paF (U O : List Int) (c : Int) (n i : Nat) (hU : InR U) (hn : U.length = n) (hi : i < n) (ho : O[i]? = some c) (hs : n ≤ 1000000) (hb : ringF U i ≠ (i : Int))  : CodeC Try.prog 0 36 paB (paS U O n i) .normal (paS U O n (i + 1)) := by
  exact CodeC.cast (by
    first
      | rfl) (paF_0 U O c n i hU hn hi ho hs hb )

theorem paE_0 (U O : List Int) (n i : Nat) (h : n ≤ i) : CodeC Try.prog 0 36 paB (paS U O n i) (Ex.exit (2 : Nat)) ({ env := [((3 : Nat), V.own (900 : Nat)), ((5 : Nat), V.own (901 : Nat)), ((22 : Nat), I (Int.ofNat n)), ((23 : Nat), I (Int.ofNat i))], st := [((900 : Nat), Obj.arr (1 : Nat) (List.map bI U)), ((901 : Nat), Obj.arr (1 : Nat) (List.map bI O))], ids := [(900 : Nat), (901 : Nat)] }) :=
  runP hmix [.reg 9 [(0, [], some false)]] ⟨[3, 5, 22, 23], [(900, 900), (901, 901)], []⟩ [
      decide (Int.ofNat i < Int.ofNat n) = false] (by kernel_rfl)
    (by
      simp only [allP]
      and_intros <;> first
        | (simp; omega))

theorem paE (U O : List Int) (n i : Nat) (h : n ≤ i)  : CodeC Try.prog 0 36 paB (paS U O n i) (.exit 2) (paS U O n i) := by
  exact CodeC.cast (by
    first
      | rfl) (paE_0 U O n i h )

theorem pa_f_0 (l : List Sp) (U O : List Int) (hs : l.length ≤ 1000000) (hU : U.length = l.length) (h1 : LoopC Try.prog 0 36 pnB (pnS l [] 0) (.exit 0) (pnS l U l.length)) (h2 : LoopC Try.prog 0 36 paB (paS U U l.length 0) (.exit 2) (paS U O l.length l.length)) : Contract Try.prog 8 [.sl 10 (l.map Sp.row)] [] (V.own (0 : Nat)) ([some (Obj.arr (1 : Nat) (List.map bI O))]) :=
  vcP hmix [.reg 1 [(0, [.idx 1], none)], .reg 2 [(1, [.be (I ((l.length : Nat) : Int))], none)], .cut ⟨[0, 3, 8, 9], [(201000, 900)], []⟩ (.exit 0) (pnS l U l.length), .reg 7 [(1, [.call [] [] (.own 0) [some (.arr 1 (U.map bI))]], none)], .reg 8 [(1, [.be (I ((l.length : Nat) : Int))], none)], .cut ⟨[3, 5, 22, 23], [(900, 900), (1402001, 901)], []⟩ (.exit 2) (paS U O l.length l.length)] [901] [
      Int.ofNat (List.length (List.map Sp.row l)) = Int.ofNat (List.length l),
      LoopC Try.prog (0 : Nat) (36 : Nat) pnB { env := [((0 : Nat), V.sl (10 : Nat) (List.map Sp.row l)), ((3 : Nat), V.own (900 : Nat)), ((8 : Nat), I (Int.ofNat (List.length l))), ((9 : Nat), I (0 : Int))], st := [((900 : Nat), Obj.arr (1 : Nat) [])], ids := [(900 : Nat)] } (Ex.exit (0 : Nat)) { env := [((0 : Nat), V.sl (10 : Nat) (List.map Sp.row l)), ((3 : Nat), V.own (900 : Nat)), ((8 : Nat), I (Int.ofNat (List.length l))), ((9 : Nat), I (Int.ofNat (List.length l)))], st := [((900 : Nat), Obj.arr (1 : Nat) (List.map bI U))], ids := [(900 : Nat)] },
      Contract Try.prog (19 : Nat) [V.sl (1 : Nat) (List.map bI U)] [] (V.own (0 : Nat)) [some (Obj.arr (1 : Nat) (List.map bI U))],
      true = true,
      FlatRows (List.map bI U),
      Int.ofNat (List.length (List.map Sp.row l)) = Int.ofNat (List.length l),
      LoopC Try.prog (0 : Nat) (36 : Nat) paB { env := [((3 : Nat), V.own (900 : Nat)), ((5 : Nat), V.own (901 : Nat)), ((22 : Nat), I (Int.ofNat (List.length l))), ((23 : Nat), I (0 : Int))], st := [((900 : Nat), Obj.arr (1 : Nat) (List.map bI U)), ((901 : Nat), Obj.arr (1 : Nat) (List.map bI U))], ids := [(900 : Nat), (901 : Nat)] } (Ex.exit (2 : Nat)) { env := [((3 : Nat), V.own (900 : Nat)), ((5 : Nat), V.own (901 : Nat)), ((22 : Nat), I (Int.ofNat (List.length l))), ((23 : Nat), I (Int.ofNat (List.length l)))], st := [((900 : Nat), Obj.arr (1 : Nat) (List.map bI U)), ((901 : Nat), Obj.arr (1 : Nat) (List.map bI O))], ids := [(900 : Nat), (901 : Nat)] }] (by kernel_rfl)
    (by
      simp only [allP]
      and_intros <;> first
        | exact h1
        | exact h2
        | exact cln _ (by simp; omega)
        | exact flatI _
        | (simp; done))

theorem pa_f (l : List Sp) (U O : List Int) (hs : l.length ≤ 1000000) (hU : U.length = l.length) (h1 : LoopC Try.prog 0 36 pnB (pnS l [] 0) (.exit 0) (pnS l U l.length)) (h2 : LoopC Try.prog 0 36 paB (paS U U l.length 0) (.exit 2) (paS U O l.length l.length)) : Contract Try.prog 8 [.sl 10 (l.map Sp.row)] [] (.own 0) [some (.arr 1 (O.map bI))] := by
  exact Contract.cast (by
    first
      | rfl) (by
    first
      | rfl) (pa_f_0 l U O hs hU h1 h2 )

theorem pnL (l : List Sp) (hs : l.length ≤ 1000000) : LoopC Try.prog 0 36 pnB (pnS l [] 0) (.exit 0) (pnS l (upF l) l.length) := by
  have key : ∀ m i, i + m = l.length → LoopC Try.prog 0 36 pnB (pnS l ((List.range i).map (nmP l)) i) (.exit 0) (pnS l (upF l) l.length) := by
    intro m
    induction m with
    | zero =>
      intro i h
      have : i = l.length := by omega
      subst this
      exact LoopC.last (pnE l _ _ (Nat.le_refl _)) (by simp)
    | succ m ih =>
      intro i h
      have hr := pnGo l ((List.range i).map (nmP l)) i (by omega) (by simp) hs
      have e : (List.range i).map (nmP l) ++ [nmP l i] = (List.range (i + 1)).map (nmP l) := by rw [List.range_succ, List.map_append]; rfl
      rw [e] at hr
      exact LoopC.next hr (ih (i + 1) (by omega))
  exact key l.length 0 (by omega)
theorem parF_len (l : List Sp) : (parF l).length = l.length := by simp [parF]
theorem parF_at (l : List Sp) (i : Nat) (hi : i < l.length) : (parF l)[i]? = some (bif ringF (upF l) i == (i : Int) then -1 else nmP l i) := by simp [parF, hi]
theorem upF_at (l : List Sp) (i : Nat) (hi : i < l.length) : (upF l)[i]? = some (nmP l i) := by simp [upF, hi]
theorem paL (l : List Sp) (hs : l.length ≤ 1000000) : LoopC Try.prog 0 36 paB (paS (upF l) (upF l) l.length 0) (.exit 2) (paS (upF l) (parF l) l.length l.length) := by
  have key : ∀ m i, i + m = l.length → LoopC Try.prog 0 36 paB (paS (upF l) ((parF l).take i ++ (upF l).drop i) l.length i) (.exit 2) (paS (upF l) (parF l) l.length l.length) := by
    intro m
    induction m with
    | zero =>
      intro i h
      have : i = l.length := by omega
      subst this
      have e : (parF l).take l.length ++ (upF l).drop l.length = parF l := by
        rw [List.take_of_length_le (by rw [parF_len]; exact Nat.le_refl _), List.drop_of_length_le (by rw [upF_len]; exact Nat.le_refl _), List.append_nil]
      rw [e]
      exact LoopC.last (paE _ _ _ _ (Nat.le_refl _)) (by simp)
    | succ m ih =>
      intro i h
      have hi : i < l.length := by omega
      have ho : ((parF l).take i ++ (upF l).drop i)[i]? = some (nmP l i) := by rw [at_take _ _ _ (by rw [parF_len]; omega), upF_at l i hi]
      have ih' := ih (i + 1) (by omega)
      by_cases hb : ringF (upF l) i = (i : Int)
      · have hr := paT (upF l) _ _ l.length i (upF_inR l) (upF_len l) hi ho hs hb
        rw [set_take _ _ _ _ (by rw [parF_at l i hi]; simp [hb]) (by rw [upF_len]; exact hi)] at hr
        exact LoopC.next hr ih'
      · have hr := paF (upF l) _ _ l.length i (upF_inR l) (upF_len l) hi ho hs hb
        have hb' : (ringF (upF l) i == (i : Int)) = false := by simpa using hb
        have e := keep_take (parF l) (upF l) i (nmP l i) (by rw [parF_at l i hi]; simp [hb']) (upF_at l i hi)
        rw [← e] at ih'
        exact LoopC.next hr ih'
  have := key l.length 0 (by omega)
  simpa using this
/-- What Parents gives. -/
theorem cPar (l : List Sp) (hs : l.length ≤ 1000000) : Contract Try.prog 8 [.sl 10 (l.map Sp.row)] [] (.own 0) [some (.arr 1 ((parF l).map bI))] :=
  pa_f l (upF l) (parF l) hs (upF_len l) (pnL l hs) (paL l hs)

end Go.Proofs.Ythhggnnfiohnpaa

/- the reference's parents. -/
namespace Go.Proofs.Ythhggnnfiohnpaa
open E
set_option maxRecDepth 100000
set_option linter.unusedVariables false
set_option linter.unusedSimpArgs false

def dnF (H : Nat → Sp → Bool) (l : List Sp) : Nat → Int → Int
  | 0, c => c
  | m + 1, c => dnF H l m (match l[m]? with
    | some x => bif H m x then (m : Int) else c
    | none => c)
def rfG (P : List Int) (i : Nat) : Nat → Int → Bool → Int × Bool
  | 0, k, le => (k, le)
  | f + 1, k, le => bif decide (k ≥ 0) && !(k == (i : Int)) then rfG P i f (P.getD k.toNat 0) (le && decide (k > (i : Int))) else (k, le)
def rcut (P : List Int) (n i : Nat) : Bool := (rfG P i n (P.getD i 0) true).1 == (i : Int) && (rfG P i n (P.getD i 0) true).2
def rparF (l : List Sp) : List Int := (List.range l.length).map fun i => bif rcut (upF l) l.length i then -1 else nmP l i
def rpS (l : List Sp) (X : List Int) (i : Nat) (k : Int) : SL := ⟨[(0, .sl 10 (l.map Sp.row)), (3, .own 900), (4, I (i : Int)), (5, I k)], [(900, .arr 1 (X.map bI))], [900]⟩
def roS (l : List Sp) (X : List Int) (i : Nat) : SL := ⟨[(0, .sl 10 (l.map Sp.row)), (3, .own 900), (4, I (i : Int))], [(900, .arr 1 (X.map bI))], [900]⟩
def rqS (l : List Sp) (P C : List Int) (i : Nat) : SL := ⟨[(0, .sl 10 (l.map Sp.row)), (3, .own 900), (6, .own 901), (7, I (i : Int))], [(900, .arr 1 (P.map bI)), (901, .arr 1 (C.map bI))], [900, 901]⟩
def riS (l : List Sp) (P C : List Int) (i : Nat) (le : Bool) (k : Int) (n : Nat) : SL := ⟨[(0, .sl 10 (l.map Sp.row)), (3, .own 900), (6, .own 901), (7, I (i : Int)), (8, Bo le), (9, I k), (10, I (n : Int))], [(900, .arr 1 (P.map bI)), (901, .arr 1 (C.map bI))], [900, 901]⟩
noncomputable def rpB : Code := codeAt Try.prog 12 [true, true, false, true, false, false, true, false, false, true, true, false, false]

noncomputable def roB : Code := codeAt Try.prog 12 [true, true, false, true, false, false]

noncomputable def rqB : Code := codeAt Try.prog 12 [true, true, true, true, false, true, false, false]

noncomputable def riB : Code := codeAt Try.prog 12 [true, true, true, true, false, true, false, false, true, false, false, true, true, false, true, false, false]

theorem rpT_0 (l : List Sp) (X : List Int) (x y : Sp) (c : Int) (i q : Nat) (hx : l[q]? = some x) (hq : q < l.length) (hy : l[i]? = some y) (hi : i < l.length) (hc : X[i]? = some c) (hs : l.length ≤ 1000000) (hb : nmH i y.par q x = true) (tq0 : (Int.ofNat q != Int.ofNat i) = true) (tq1 : (Sp.id x == Sp.par y) = true) : CodeC Try.prog 0 97 rpB (rpS l X i (q : Int)) (Ex.normal) ({ env := [((0 : Nat), V.sl (10 : Nat) (List.map Sp.row l)), ((3 : Nat), V.own (900 : Nat)), ((4 : Nat), I (Int.ofNat i)), ((5 : Nat), I (Int.ofNat q + (-1 : Int)))], st := [((900 : Nat), Obj.arr (1 : Nat) (List.map bI (List.set X i (Int.ofNat q))))], ids := [(900 : Nat)] }) :=
  runP hmix [.reg 7 [(1, [], some true)], .reg 9 [(3, [], some true), (8, [.row (Sp.row x)], none), (13, [.row (Sp.row y)], none), (15, [], some true)], .reg 10 [(4, [.row [I c], .beO ((X.set i (q : Int)).map bI)], none)], .reg 8 [(1, [.be (I ((q : Int) - 1))], none)]] ⟨[0, 3, 4, 5], [(900, 900)], []⟩ [
      true = true,
      (Int.ofNat q != Int.ofNat i) = true,
      (0 : Int) ≤ Int.ofNat q,
      Int.ofNat q < Int.ofNat (List.length (List.map Sp.row l)),
      (List.map Sp.row l)[q]? = some (Sp.row x),
      (0 : Int) ≤ Int.ofNat i,
      Int.ofNat i < Int.ofNat (List.length (List.map Sp.row l)),
      (List.map Sp.row l)[i]? = some (Sp.row y),
      (Sp.id x == Sp.par y) = true,
      (0 : Int) ≤ Int.ofNat i,
      Int.ofNat i < Int.ofNat (List.length (List.map bI X)),
      (List.map bI X)[i]? = some [I c],
      List.set (List.map bI X) i [I (Int.ofNat q)] = List.map bI (List.set X i (Int.ofNat q)),
      IntKind.wrap IntKind.i64 (Int.ofNat q + (-1 : Int)) = Int.ofNat q + (-1 : Int)] (by kernel_rfl)
    (by
      have d0 := tq0
      have d1 := tq1
      try simp only [Int.ofNat_eq_natCast, List.length_map, Bool.not_eq_true', Bool.not_eq_false', decide_eq_true_eq, decide_eq_false_iff_not] at d0 d1
      simp only [allP]
      and_intros <;> first
        | omega
        | exact bI_at hc
        | exact bI_set X i _
        | (have := (List.getElem?_eq_some_iff.1 hc).1; simp; omega)
        | (simp [hx]; done)
        | (simp [hy]; done)
        | exact i64_small (by simp; omega))

theorem rpT_1 (l : List Sp) (X : List Int) (x y : Sp) (c : Int) (i q : Nat) (hx : l[q]? = some x) (hq : q < l.length) (hy : l[i]? = some y) (hi : i < l.length) (hc : X[i]? = some c) (hs : l.length ≤ 1000000) (hb : nmH i y.par q x = true) (tq0 : (Int.ofNat q != Int.ofNat i) = true) (tq1 : (Sp.id x == Sp.par y) = false) : CodeC Try.prog 0 97 rpB (rpS l X i (q : Int)) (Ex.normal) ({ env := [((0 : Nat), V.sl (10 : Nat) (List.map Sp.row l)), ((3 : Nat), V.own (900 : Nat)), ((4 : Nat), I (Int.ofNat i)), ((5 : Nat), I (Int.ofNat q + (-1 : Int)))], st := [((900 : Nat), Obj.arr (1 : Nat) (List.map bI X))], ids := [(900 : Nat)] }) :=
  runP hmix [.reg 7 [(1, [], some true)], .reg 9 [(3, [], some true), (8, [.row (Sp.row x)], none), (13, [.row (Sp.row y)], none), (15, [], some false)], .reg 8 [(1, [.be (I ((q : Int) - 1))], none)]] ⟨[0, 3, 4, 5], [(900, 900)], []⟩ [
      true = true,
      (Int.ofNat q != Int.ofNat i) = true,
      (0 : Int) ≤ Int.ofNat q,
      Int.ofNat q < Int.ofNat (List.length (List.map Sp.row l)),
      (List.map Sp.row l)[q]? = some (Sp.row x),
      (0 : Int) ≤ Int.ofNat i,
      Int.ofNat i < Int.ofNat (List.length (List.map Sp.row l)),
      (List.map Sp.row l)[i]? = some (Sp.row y),
      (Sp.id x == Sp.par y) = false,
      IntKind.wrap IntKind.i64 (Int.ofNat q + (-1 : Int)) = Int.ofNat q + (-1 : Int)] (by kernel_rfl)
    (by
      have d0 := tq0
      have d1 := tq1
      try simp only [Int.ofNat_eq_natCast, List.length_map, Bool.not_eq_true', Bool.not_eq_false', decide_eq_true_eq, decide_eq_false_iff_not] at d0 d1
      simp only [allP]
      and_intros <;> first
        | omega
        | (have := (List.getElem?_eq_some_iff.1 hc).1; simp; omega)
        | (simp [hx]; done)
        | (simp [hy]; done)
        | exact i64_small (by simp; omega))

theorem rpT_2 (l : List Sp) (X : List Int) (x y : Sp) (c : Int) (i q : Nat) (hx : l[q]? = some x) (hq : q < l.length) (hy : l[i]? = some y) (hi : i < l.length) (hc : X[i]? = some c) (hs : l.length ≤ 1000000) (hb : nmH i y.par q x = true) (tq0 : (Int.ofNat q != Int.ofNat i) = false) : CodeC Try.prog 0 97 rpB (rpS l X i (q : Int)) (Ex.normal) ({ env := [((0 : Nat), V.sl (10 : Nat) (List.map Sp.row l)), ((3 : Nat), V.own (900 : Nat)), ((4 : Nat), I (Int.ofNat i)), ((5 : Nat), I (Int.ofNat q + (-1 : Int)))], st := [((900 : Nat), Obj.arr (1 : Nat) (List.map bI X))], ids := [(900 : Nat)] }) :=
  runP hmix [.reg 7 [(1, [], some true)], .reg 9 [(3, [], some false), (8, [.row (Sp.row x)], none), (13, [.row (Sp.row y)], none)], .reg 8 [(1, [.be (I ((q : Int) - 1))], none)]] ⟨[0, 3, 4, 5], [(900, 900)], []⟩ [
      true = true,
      (Int.ofNat q != Int.ofNat i) = false,
      IntKind.wrap IntKind.i64 (Int.ofNat q + (-1 : Int)) = Int.ofNat q + (-1 : Int)] (by kernel_rfl)
    (by
      have d0 := tq0
      try simp only [Int.ofNat_eq_natCast, List.length_map, Bool.not_eq_true', Bool.not_eq_false', decide_eq_true_eq, decide_eq_false_iff_not] at d0
      simp only [allP]
      and_intros <;> first
        | omega
        | (simp [hx]; done)
        | exact i64_small (by simp; omega))

theorem rpT (l : List Sp) (X : List Int) (x y : Sp) (c : Int) (i q : Nat) (hx : l[q]? = some x) (hq : q < l.length) (hy : l[i]? = some y) (hi : i < l.length) (hc : X[i]? = some c) (hs : l.length ≤ 1000000) (hb : nmH i y.par q x = true)  : CodeC Try.prog 0 97 rpB (rpS l X i (q : Int)) .normal (rpS l (X.set i (q : Int)) i ((q : Int) - 1)) := by
  rcases tf (Int.ofNat q != Int.ofNat i) with tq0 | tq0
  · rcases tf (Sp.id x == Sp.par y) with tq1 | tq1
    · exact CodeC.cast (by
        first
          | rfl) (rpT_0 l X x y c i q hx hq hy hi hc hs hb tq0 tq1)
    · exact CodeC.cast (by
        first
          | (simp_all [nmH]; done)) (rpT_1 l X x y c i q hx hq hy hi hc hs hb tq0 tq1)
  · exact CodeC.cast (by
      first
        | (simp_all [nmH]; done)) (rpT_2 l X x y c i q hx hq hy hi hc hs hb tq0)

theorem rpF_0 (l : List Sp) (X : List Int) (x y : Sp) (c : Int) (i q : Nat) (hx : l[q]? = some x) (hq : q < l.length) (hy : l[i]? = some y) (hi : i < l.length) (hc : X[i]? = some c) (hs : l.length ≤ 1000000) (hb : nmH i y.par q x = false) (tq0 : (Int.ofNat q != Int.ofNat i) = true) (tq1 : (Sp.id x == Sp.par y) = true) : CodeC Try.prog 0 97 rpB (rpS l X i (q : Int)) (Ex.normal) ({ env := [((0 : Nat), V.sl (10 : Nat) (List.map Sp.row l)), ((3 : Nat), V.own (900 : Nat)), ((4 : Nat), I (Int.ofNat i)), ((5 : Nat), I (Int.ofNat q + (-1 : Int)))], st := [((900 : Nat), Obj.arr (1 : Nat) (List.map bI (List.set X i (Int.ofNat q))))], ids := [(900 : Nat)] }) :=
  runP hmix [.reg 7 [(1, [], some true)], .reg 9 [(3, [], some true), (8, [.row (Sp.row x)], none), (13, [.row (Sp.row y)], none), (15, [], some true)], .reg 10 [(4, [.row [I c], .beO ((X.set i (q : Int)).map bI)], none)], .reg 8 [(1, [.be (I ((q : Int) - 1))], none)]] ⟨[0, 3, 4, 5], [(900, 900)], []⟩ [
      true = true,
      (Int.ofNat q != Int.ofNat i) = true,
      (0 : Int) ≤ Int.ofNat q,
      Int.ofNat q < Int.ofNat (List.length (List.map Sp.row l)),
      (List.map Sp.row l)[q]? = some (Sp.row x),
      (0 : Int) ≤ Int.ofNat i,
      Int.ofNat i < Int.ofNat (List.length (List.map Sp.row l)),
      (List.map Sp.row l)[i]? = some (Sp.row y),
      (Sp.id x == Sp.par y) = true,
      (0 : Int) ≤ Int.ofNat i,
      Int.ofNat i < Int.ofNat (List.length (List.map bI X)),
      (List.map bI X)[i]? = some [I c],
      List.set (List.map bI X) i [I (Int.ofNat q)] = List.map bI (List.set X i (Int.ofNat q)),
      IntKind.wrap IntKind.i64 (Int.ofNat q + (-1 : Int)) = Int.ofNat q + (-1 : Int)] (by kernel_rfl)
    (by
      have d0 := tq0
      have d1 := tq1
      try simp only [Int.ofNat_eq_natCast, List.length_map, Bool.not_eq_true', Bool.not_eq_false', decide_eq_true_eq, decide_eq_false_iff_not] at d0 d1
      simp only [allP]
      and_intros <;> first
        | omega
        | exact bI_at hc
        | exact bI_set X i _
        | (have := (List.getElem?_eq_some_iff.1 hc).1; simp; omega)
        | (simp [hx]; done)
        | (simp [hy]; done)
        | exact i64_small (by simp; omega))

theorem rpF_1 (l : List Sp) (X : List Int) (x y : Sp) (c : Int) (i q : Nat) (hx : l[q]? = some x) (hq : q < l.length) (hy : l[i]? = some y) (hi : i < l.length) (hc : X[i]? = some c) (hs : l.length ≤ 1000000) (hb : nmH i y.par q x = false) (tq0 : (Int.ofNat q != Int.ofNat i) = true) (tq1 : (Sp.id x == Sp.par y) = false) : CodeC Try.prog 0 97 rpB (rpS l X i (q : Int)) (Ex.normal) ({ env := [((0 : Nat), V.sl (10 : Nat) (List.map Sp.row l)), ((3 : Nat), V.own (900 : Nat)), ((4 : Nat), I (Int.ofNat i)), ((5 : Nat), I (Int.ofNat q + (-1 : Int)))], st := [((900 : Nat), Obj.arr (1 : Nat) (List.map bI X))], ids := [(900 : Nat)] }) :=
  runP hmix [.reg 7 [(1, [], some true)], .reg 9 [(3, [], some true), (8, [.row (Sp.row x)], none), (13, [.row (Sp.row y)], none), (15, [], some false)], .reg 8 [(1, [.be (I ((q : Int) - 1))], none)]] ⟨[0, 3, 4, 5], [(900, 900)], []⟩ [
      true = true,
      (Int.ofNat q != Int.ofNat i) = true,
      (0 : Int) ≤ Int.ofNat q,
      Int.ofNat q < Int.ofNat (List.length (List.map Sp.row l)),
      (List.map Sp.row l)[q]? = some (Sp.row x),
      (0 : Int) ≤ Int.ofNat i,
      Int.ofNat i < Int.ofNat (List.length (List.map Sp.row l)),
      (List.map Sp.row l)[i]? = some (Sp.row y),
      (Sp.id x == Sp.par y) = false,
      IntKind.wrap IntKind.i64 (Int.ofNat q + (-1 : Int)) = Int.ofNat q + (-1 : Int)] (by kernel_rfl)
    (by
      have d0 := tq0
      have d1 := tq1
      try simp only [Int.ofNat_eq_natCast, List.length_map, Bool.not_eq_true', Bool.not_eq_false', decide_eq_true_eq, decide_eq_false_iff_not] at d0 d1
      simp only [allP]
      and_intros <;> first
        | omega
        | (have := (List.getElem?_eq_some_iff.1 hc).1; simp; omega)
        | (simp [hx]; done)
        | (simp [hy]; done)
        | exact i64_small (by simp; omega))

theorem rpF_2 (l : List Sp) (X : List Int) (x y : Sp) (c : Int) (i q : Nat) (hx : l[q]? = some x) (hq : q < l.length) (hy : l[i]? = some y) (hi : i < l.length) (hc : X[i]? = some c) (hs : l.length ≤ 1000000) (hb : nmH i y.par q x = false) (tq0 : (Int.ofNat q != Int.ofNat i) = false) : CodeC Try.prog 0 97 rpB (rpS l X i (q : Int)) (Ex.normal) ({ env := [((0 : Nat), V.sl (10 : Nat) (List.map Sp.row l)), ((3 : Nat), V.own (900 : Nat)), ((4 : Nat), I (Int.ofNat i)), ((5 : Nat), I (Int.ofNat q + (-1 : Int)))], st := [((900 : Nat), Obj.arr (1 : Nat) (List.map bI X))], ids := [(900 : Nat)] }) :=
  runP hmix [.reg 7 [(1, [], some true)], .reg 9 [(3, [], some false), (8, [.row (Sp.row x)], none), (13, [.row (Sp.row y)], none)], .reg 8 [(1, [.be (I ((q : Int) - 1))], none)]] ⟨[0, 3, 4, 5], [(900, 900)], []⟩ [
      true = true,
      (Int.ofNat q != Int.ofNat i) = false,
      IntKind.wrap IntKind.i64 (Int.ofNat q + (-1 : Int)) = Int.ofNat q + (-1 : Int)] (by kernel_rfl)
    (by
      have d0 := tq0
      try simp only [Int.ofNat_eq_natCast, List.length_map, Bool.not_eq_true', Bool.not_eq_false', decide_eq_true_eq, decide_eq_false_iff_not] at d0
      simp only [allP]
      and_intros <;> first
        | omega
        | (simp [hx]; done)
        | exact i64_small (by simp; omega))

theorem rpF (l : List Sp) (X : List Int) (x y : Sp) (c : Int) (i q : Nat) (hx : l[q]? = some x) (hq : q < l.length) (hy : l[i]? = some y) (hi : i < l.length) (hc : X[i]? = some c) (hs : l.length ≤ 1000000) (hb : nmH i y.par q x = false)  : CodeC Try.prog 0 97 rpB (rpS l X i (q : Int)) .normal (rpS l X i ((q : Int) - 1)) := by
  rcases tf (Int.ofNat q != Int.ofNat i) with tq0 | tq0
  · rcases tf (Sp.id x == Sp.par y) with tq1 | tq1
    · exact CodeC.cast (by
        first
          | (simp_all [nmH]; done)) (rpF_0 l X x y c i q hx hq hy hi hc hs hb tq0 tq1)
    · exact CodeC.cast (by
        first
          | rfl) (rpF_1 l X x y c i q hx hq hy hi hc hs hb tq0 tq1)
  · exact CodeC.cast (by
      first
        | rfl) (rpF_2 l X x y c i q hx hq hy hi hc hs hb tq0)

theorem rpE_0 (l : List Sp) (X : List Int) (i : Nat) (k : Int) (h : k < 0) : CodeC Try.prog 0 97 rpB (rpS l X i k) (Ex.exit (2 : Nat)) ({ env := [((0 : Nat), V.sl (10 : Nat) (List.map Sp.row l)), ((3 : Nat), V.own (900 : Nat)), ((4 : Nat), I (Int.ofNat i)), ((5 : Nat), I k)], st := [((900 : Nat), Obj.arr (1 : Nat) (List.map bI X))], ids := [(900 : Nat)] }) :=
  runP hmix [.reg 7 [(1, [], some false)]] ⟨[0, 3, 4, 5], [(900, 900)], []⟩ [
      decide (k ≥ (0 : Int)) = false] (by kernel_rfl)
    (by
      simp only [allP]
      and_intros <;> first
        | (simp; omega))

theorem rpE (l : List Sp) (X : List Int) (i : Nat) (k : Int) (h : k < 0)  : CodeC Try.prog 0 97 rpB (rpS l X i k) (.exit 2) (rpS l X i k) := by
  exact CodeC.cast (by
    first
      | rfl) (rpE_0 l X i k h )

theorem roG_0 (l : List Sp) (X Y : List Int) (c : Int) (i : Nat) (hc : X[i]? = some c) (hX : X.length = l.length) (hi : i < l.length) (hs : l.length ≤ 1000000) (hl : LoopC Try.prog 0 97 rpB (rpS l (X.set i (-1)) i ((l.length : Int) - 1)) (.exit 2) (rpS l Y i (-1))) : CodeC Try.prog 0 97 roB (roS l X i) (Ex.normal) ({ env := [((0 : Nat), V.sl (10 : Nat) (List.map Sp.row l)), ((3 : Nat), V.own (900 : Nat)), ((4 : Nat), I (Int.ofNat (i + (1 : Nat))))], st := [((900 : Nat), Obj.arr (1 : Nat) (List.map bI Y))], ids := [(900 : Nat)] }) :=
  runP hmix [.reg 3 [(3, [], some true)], .reg 5 [(3, [.row [I c], .beO ((X.set i (-1)).map bI)], none)], .reg 6 [(2, [.be (I ((l.length : Int) - 1))], none)], .cut ⟨[0, 3, 4, 5], [(900, 900)], []⟩ (.exit 2) (rpS l Y i (-1)), .reg 4 [(1, [.be (I ((i + 1 : Nat) : Int))], none)]] ⟨[0, 3, 4], [(900, 900)], []⟩ [
      decide (Int.ofNat i < Int.ofNat (List.length (List.map Sp.row l))) = true,
      (0 : Int) ≤ Int.ofNat i,
      Int.ofNat i < Int.ofNat (List.length (List.map bI X)),
      (List.map bI X)[i]? = some [I c],
      List.set (List.map bI X) i [I (-1 : Int)] = List.map bI (List.set X i (-1 : Int)),
      IntKind.wrap IntKind.i64 (Int.ofNat (List.length (List.map Sp.row l)) + (-1 : Int)) = Int.ofNat (List.length l) + (-1 : Int),
      LoopC Try.prog (0 : Nat) (97 : Nat) rpB { env := [((0 : Nat), V.sl (10 : Nat) (List.map Sp.row l)), ((3 : Nat), V.own (900 : Nat)), ((4 : Nat), I (Int.ofNat i)), ((5 : Nat), I (Int.ofNat (List.length l) + (-1 : Int)))], st := [((900 : Nat), Obj.arr (1 : Nat) (List.map bI (List.set X i (-1 : Int))))], ids := [(900 : Nat)] } (Ex.exit (2 : Nat)) { env := [((0 : Nat), V.sl (10 : Nat) (List.map Sp.row l)), ((3 : Nat), V.own (900 : Nat)), ((4 : Nat), I (Int.ofNat i)), ((5 : Nat), I (-1 : Int))], st := [((900 : Nat), Obj.arr (1 : Nat) (List.map bI Y))], ids := [(900 : Nat)] },
      IntKind.wrap IntKind.i64 (Int.ofNat (i + (1 : Nat))) = Int.ofNat (i + (1 : Nat))] (by kernel_rfl)
    (by
      simp only [allP]
      and_intros <;> first
        | exact hl
        | exact bI_at hc
        | exact bI_set X i _
        | (rw [List.length_map]; exact i64_small (by simp; omega))
        | exact i64_small (by simp; omega)
        | (simp; omega)
        | (simp; done))

theorem roG (l : List Sp) (X Y : List Int) (c : Int) (i : Nat) (hc : X[i]? = some c) (hX : X.length = l.length) (hi : i < l.length) (hs : l.length ≤ 1000000) (hl : LoopC Try.prog 0 97 rpB (rpS l (X.set i (-1)) i ((l.length : Int) - 1)) (.exit 2) (rpS l Y i (-1)))  : CodeC Try.prog 0 97 roB (roS l X i) .normal (roS l Y (i + 1)) := by
  exact CodeC.cast (by
    first
      | rfl) (roG_0 l X Y c i hc hX hi hs hl )

theorem roE_0 (l : List Sp) (X : List Int) (i : Nat) (h : l.length ≤ i) : CodeC Try.prog 0 97 roB (roS l X i) (Ex.exit (0 : Nat)) ({ env := [((0 : Nat), V.sl (10 : Nat) (List.map Sp.row l)), ((3 : Nat), V.own (900 : Nat)), ((4 : Nat), I (Int.ofNat i))], st := [((900 : Nat), Obj.arr (1 : Nat) (List.map bI X))], ids := [(900 : Nat)] }) :=
  runP hmix [.reg 3 [(3, [], some false)]] ⟨[0, 3, 4], [(900, 900)], []⟩ [
      decide (Int.ofNat i < Int.ofNat (List.length (List.map Sp.row l))) = false] (by kernel_rfl)
    (by
      simp only [allP]
      and_intros <;> first
        | (simp; omega))

theorem roE (l : List Sp) (X : List Int) (i : Nat) (h : l.length ≤ i)  : CodeC Try.prog 0 97 roB (roS l X i) (.exit 0) (roS l X i) := by
  exact CodeC.cast (by
    first
      | rfl) (roE_0 l X i h )

theorem riT_0 (l : List Sp) (P C : List Int) (i n k : Nat) (v : Int) (hv : P[k]? = some v) (hn : n < l.length) (hk : k ≠ i) (hs : l.length ≤ 1000000) : CodeC Try.prog 0 97 riB (riS l P C i true (k : Int) n) (Ex.normal) ({ env := [((0 : Nat), V.sl (10 : Nat) (List.map Sp.row l)), ((3 : Nat), V.own (900 : Nat)), ((6 : Nat), V.own (901 : Nat)), ((7 : Nat), I (Int.ofNat i)), ((8 : Nat), Bo (decide (Int.ofNat k > Int.ofNat i))), ((9 : Nat), I v), ((10 : Nat), I (Int.ofNat (n + (1 : Nat))))], st := [((900 : Nat), Obj.arr (1 : Nat) (List.map bI P)), ((901 : Nat), Obj.arr (1 : Nat) (List.map bI C))], ids := [(900 : Nat), (901 : Nat)] }) :=
  runP hmix [.reg 18 [(3, [], some true), (6, [], some true), (11, [], some true)], .reg 21 [(3, [.row [I v]], none)], .reg 19 [(1, [.be (I ((n + 1 : Nat) : Int))], none)]] ⟨[0, 3, 6, 7, 8, 9, 10], [(900, 900), (901, 901)], []⟩ [
      decide (Int.ofNat n < Int.ofNat (List.length (List.map Sp.row l))) = true,
      true = true,
      (Int.ofNat k != Int.ofNat i) = true,
      (0 : Int) ≤ Int.ofNat k,
      Int.ofNat k < Int.ofNat (List.length (List.map bI P)),
      (List.map bI P)[k]? = some [I v],
      IntKind.wrap IntKind.i64 (Int.ofNat (n + (1 : Nat))) = Int.ofNat (n + (1 : Nat))] (by kernel_rfl)
    (by
      simp only [allP]
      and_intros <;> first
        | exact bI_at hv
        | (have := (List.getElem?_eq_some_iff.1 hv).1; simp; omega)
        | exact i64_small (by simp; omega)
        | (simp; done))

theorem riT (l : List Sp) (P C : List Int) (i n k : Nat) (v : Int) (hv : P[k]? = some v) (hn : n < l.length) (hk : k ≠ i) (hs : l.length ≤ 1000000)  : CodeC Try.prog 0 97 riB (riS l P C i true (k : Int) n) .normal (riS l P C i (decide ((k : Int) > (i : Int))) v (n + 1)) := by
  exact CodeC.cast (by
    first
      | rfl) (riT_0 l P C i n k v hv hn hk hs )

theorem riF_0 (l : List Sp) (P C : List Int) (i n k : Nat) (v : Int) (hv : P[k]? = some v) (hn : n < l.length) (hk : k ≠ i) (hs : l.length ≤ 1000000) : CodeC Try.prog 0 97 riB (riS l P C i false (k : Int) n) (Ex.normal) ({ env := [((0 : Nat), V.sl (10 : Nat) (List.map Sp.row l)), ((3 : Nat), V.own (900 : Nat)), ((6 : Nat), V.own (901 : Nat)), ((7 : Nat), I (Int.ofNat i)), ((8 : Nat), Bo false), ((9 : Nat), I v), ((10 : Nat), I (Int.ofNat (n + (1 : Nat))))], st := [((900 : Nat), Obj.arr (1 : Nat) (List.map bI P)), ((901 : Nat), Obj.arr (1 : Nat) (List.map bI C))], ids := [(900 : Nat), (901 : Nat)] }) :=
  runP hmix [.reg 18 [(3, [], some true), (6, [], some true), (11, [], some true)], .reg 21 [(3, [.row [I v]], none)], .reg 19 [(1, [.be (I ((n + 1 : Nat) : Int))], none)]] ⟨[0, 3, 6, 7, 8, 9, 10], [(900, 900), (901, 901)], []⟩ [
      decide (Int.ofNat n < Int.ofNat (List.length (List.map Sp.row l))) = true,
      true = true,
      (Int.ofNat k != Int.ofNat i) = true,
      (0 : Int) ≤ Int.ofNat k,
      Int.ofNat k < Int.ofNat (List.length (List.map bI P)),
      (List.map bI P)[k]? = some [I v],
      IntKind.wrap IntKind.i64 (Int.ofNat (n + (1 : Nat))) = Int.ofNat (n + (1 : Nat))] (by kernel_rfl)
    (by
      simp only [allP]
      and_intros <;> first
        | exact bI_at hv
        | (have := (List.getElem?_eq_some_iff.1 hv).1; simp; omega)
        | exact i64_small (by simp; omega)
        | (simp; done))

theorem riF (l : List Sp) (P C : List Int) (i n k : Nat) (v : Int) (hv : P[k]? = some v) (hn : n < l.length) (hk : k ≠ i) (hs : l.length ≤ 1000000)  : CodeC Try.prog 0 97 riB (riS l P C i false (k : Int) n) .normal (riS l P C i false v (n + 1)) := by
  exact CodeC.cast (by
    first
      | rfl) (riF_0 l P C i n k v hv hn hk hs )

theorem riE1_0 (l : List Sp) (P C : List Int) (i n : Nat) (k : Int) (le : Bool) (h : l.length ≤ n) : CodeC Try.prog 0 97 riB (riS l P C i le k n) (Ex.exit (6 : Nat)) ({ env := [((0 : Nat), V.sl (10 : Nat) (List.map Sp.row l)), ((3 : Nat), V.own (900 : Nat)), ((6 : Nat), V.own (901 : Nat)), ((7 : Nat), I (Int.ofNat i)), ((8 : Nat), Bo le), ((9 : Nat), I k), ((10 : Nat), I (Int.ofNat n))], st := [((900 : Nat), Obj.arr (1 : Nat) (List.map bI P)), ((901 : Nat), Obj.arr (1 : Nat) (List.map bI C))], ids := [(900 : Nat), (901 : Nat)] }) :=
  runP hmix [.reg 18 [(3, [], some false)]] ⟨[0, 3, 6, 7, 8, 9, 10], [(900, 900), (901, 901)], []⟩ [
      decide (Int.ofNat n < Int.ofNat (List.length (List.map Sp.row l))) = false] (by kernel_rfl)
    (by
      simp only [allP]
      and_intros <;> first
        | (simp; omega))

theorem riE1 (l : List Sp) (P C : List Int) (i n : Nat) (k : Int) (le : Bool) (h : l.length ≤ n)  : CodeC Try.prog 0 97 riB (riS l P C i le k n) (.exit 6) (riS l P C i le k n) := by
  exact CodeC.cast (by
    first
      | rfl) (riE1_0 l P C i n k le h )

theorem riE2_0 (l : List Sp) (P C : List Int) (i n : Nat) (k : Int) (le : Bool) (h : n < l.length) (hk : k < 0) : CodeC Try.prog 0 97 riB (riS l P C i le k n) (Ex.exit (6 : Nat)) ({ env := [((0 : Nat), V.sl (10 : Nat) (List.map Sp.row l)), ((3 : Nat), V.own (900 : Nat)), ((6 : Nat), V.own (901 : Nat)), ((7 : Nat), I (Int.ofNat i)), ((8 : Nat), Bo le), ((9 : Nat), I k), ((10 : Nat), I (Int.ofNat n))], st := [((900 : Nat), Obj.arr (1 : Nat) (List.map bI P)), ((901 : Nat), Obj.arr (1 : Nat) (List.map bI C))], ids := [(900 : Nat), (901 : Nat)] }) :=
  runP hmix [.reg 18 [(3, [], some true), (6, [], some false)]] ⟨[0, 3, 6, 7, 8, 9, 10], [(900, 900), (901, 901)], []⟩ [
      decide (Int.ofNat n < Int.ofNat (List.length (List.map Sp.row l))) = true,
      decide (k ≥ (0 : Int)) = false] (by kernel_rfl)
    (by
      simp only [allP]
      and_intros <;> first
        | (simp; omega))

theorem riE2 (l : List Sp) (P C : List Int) (i n : Nat) (k : Int) (le : Bool) (h : n < l.length) (hk : k < 0)  : CodeC Try.prog 0 97 riB (riS l P C i le k n) (.exit 6) (riS l P C i le k n) := by
  exact CodeC.cast (by
    first
      | rfl) (riE2_0 l P C i n k le h hk )

theorem riE3_0 (l : List Sp) (P C : List Int) (i n : Nat) (k : Int) (le : Bool) (h : n < l.length) (hk : k = (i : Int)) : CodeC Try.prog 0 97 riB (riS l P C i le k n) (Ex.exit (6 : Nat)) ({ env := [((0 : Nat), V.sl (10 : Nat) (List.map Sp.row l)), ((3 : Nat), V.own (900 : Nat)), ((6 : Nat), V.own (901 : Nat)), ((7 : Nat), I (Int.ofNat i)), ((8 : Nat), Bo le), ((9 : Nat), I k), ((10 : Nat), I (Int.ofNat n))], st := [((900 : Nat), Obj.arr (1 : Nat) (List.map bI P)), ((901 : Nat), Obj.arr (1 : Nat) (List.map bI C))], ids := [(900 : Nat), (901 : Nat)] }) :=
  runP hmix [.reg 18 [(3, [], some true), (6, [], some true), (11, [], some false)]] ⟨[0, 3, 6, 7, 8, 9, 10], [(900, 900), (901, 901)], []⟩ [
      decide (Int.ofNat n < Int.ofNat (List.length (List.map Sp.row l))) = true,
      decide (k ≥ (0 : Int)) = true,
      (k != Int.ofNat i) = false] (by kernel_rfl)
    (by
      simp only [allP]
      and_intros <;> first
        | (simp; omega))

theorem riE3 (l : List Sp) (P C : List Int) (i n : Nat) (k : Int) (le : Bool) (h : n < l.length) (hk : k = (i : Int))  : CodeC Try.prog 0 97 riB (riS l P C i le k n) (.exit 6) (riS l P C i le k n) := by
  exact CodeC.cast (by
    first
      | rfl) (riE3_0 l P C i n k le h hk )

theorem rqT_0 (l : List Sp) (P C : List Int) (i n : Nat) (v c k : Int) (hv : P[i]? = some v) (hc : C[i]? = some c) (hi : i < l.length) (hs : l.length ≤ 1000000) (hk : k = (i : Int)) (hl : LoopC Try.prog 0 97 riB (riS l P C i true v 0) (.exit 6) (riS l P C i true k n)) : CodeC Try.prog 0 97 rqB (rqS l P C i) (Ex.normal) ({ env := [((0 : Nat), V.sl (10 : Nat) (List.map Sp.row l)), ((3 : Nat), V.own (900 : Nat)), ((6 : Nat), V.own (901 : Nat)), ((7 : Nat), I (Int.ofNat (i + (1 : Nat))))], st := [((900 : Nat), Obj.arr (1 : Nat) (List.map bI P)), ((901 : Nat), Obj.arr (1 : Nat) (List.map bI (List.set C i (-1 : Int))))], ids := [(900 : Nat), (901 : Nat)] }) :=
  runP hmix [.reg 13 [(3, [], some true)], .reg 16 [(3, [.row [I v]], none)], .cut ⟨[0, 3, 6, 7, 8, 9, 10], [(900, 900), (901, 901)], []⟩ (.exit 6) (riS l P C i true k n), .reg 22 [(2, [], some true)], .reg 23 [(3, [.row [I c], .beO ((C.set i (-1)).map bI)], none)], .reg 14 [(1, [.be (I ((i + 1 : Nat) : Int))], none)]] ⟨[0, 3, 6, 7], [(900, 900), (901, 901)], []⟩ [
      decide (Int.ofNat i < Int.ofNat (List.length (List.map Sp.row l))) = true,
      (0 : Int) ≤ Int.ofNat i,
      Int.ofNat i < Int.ofNat (List.length (List.map bI P)),
      (List.map bI P)[i]? = some [I v],
      LoopC Try.prog (0 : Nat) (97 : Nat) riB { env := [((0 : Nat), V.sl (10 : Nat) (List.map Sp.row l)), ((3 : Nat), V.own (900 : Nat)), ((6 : Nat), V.own (901 : Nat)), ((7 : Nat), I (Int.ofNat i)), ((8 : Nat), Bo true), ((9 : Nat), I v), ((10 : Nat), I (0 : Int))], st := [((900 : Nat), Obj.arr (1 : Nat) (List.map bI P)), ((901 : Nat), Obj.arr (1 : Nat) (List.map bI C))], ids := [(900 : Nat), (901 : Nat)] } (Ex.exit (6 : Nat)) { env := [((0 : Nat), V.sl (10 : Nat) (List.map Sp.row l)), ((3 : Nat), V.own (900 : Nat)), ((6 : Nat), V.own (901 : Nat)), ((7 : Nat), I (Int.ofNat i)), ((8 : Nat), Bo true), ((9 : Nat), I k), ((10 : Nat), I (Int.ofNat n))], st := [((900 : Nat), Obj.arr (1 : Nat) (List.map bI P)), ((901 : Nat), Obj.arr (1 : Nat) (List.map bI C))], ids := [(900 : Nat), (901 : Nat)] },
      (k == Int.ofNat i) = true,
      (0 : Int) ≤ Int.ofNat i,
      Int.ofNat i < Int.ofNat (List.length (List.map bI C)),
      (List.map bI C)[i]? = some [I c],
      List.set (List.map bI C) i [I (-1 : Int)] = List.map bI (List.set C i (-1 : Int)),
      IntKind.wrap IntKind.i64 (Int.ofNat (i + (1 : Nat))) = Int.ofNat (i + (1 : Nat))] (by kernel_rfl)
    (by
      simp only [allP]
      and_intros <;> first
        | exact hl
        | exact bI_at hv
        | exact bI_at hc
        | exact bI_set C i _
        | (have := (List.getElem?_eq_some_iff.1 hv).1; simp; omega)
        | (have := (List.getElem?_eq_some_iff.1 hc).1; simp; omega)
        | exact i64_small (by simp; omega)
        | (simp; done))

theorem rqT (l : List Sp) (P C : List Int) (i n : Nat) (v c k : Int) (hv : P[i]? = some v) (hc : C[i]? = some c) (hi : i < l.length) (hs : l.length ≤ 1000000) (hk : k = (i : Int)) (hl : LoopC Try.prog 0 97 riB (riS l P C i true v 0) (.exit 6) (riS l P C i true k n))  : CodeC Try.prog 0 97 rqB (rqS l P C i) .normal (rqS l P (C.set i (-1)) (i + 1)) := by
  exact CodeC.cast (by
    first
      | rfl) (rqT_0 l P C i n v c k hv hc hi hs hk hl )

theorem rqA_0 (l : List Sp) (P C : List Int) (i n : Nat) (v c k : Int) (hv : P[i]? = some v) (hc : C[i]? = some c) (hi : i < l.length) (hs : l.length ≤ 1000000) (hk : k = (i : Int)) (hl : LoopC Try.prog 0 97 riB (riS l P C i true v 0) (.exit 6) (riS l P C i false k n)) : CodeC Try.prog 0 97 rqB (rqS l P C i) (Ex.normal) ({ env := [((0 : Nat), V.sl (10 : Nat) (List.map Sp.row l)), ((3 : Nat), V.own (900 : Nat)), ((6 : Nat), V.own (901 : Nat)), ((7 : Nat), I (Int.ofNat (i + (1 : Nat))))], st := [((900 : Nat), Obj.arr (1 : Nat) (List.map bI P)), ((901 : Nat), Obj.arr (1 : Nat) (List.map bI C))], ids := [(900 : Nat), (901 : Nat)] }) :=
  runP hmix [.reg 13 [(3, [], some true)], .reg 16 [(3, [.row [I v]], none)], .cut ⟨[0, 3, 6, 7, 8, 9, 10], [(900, 900), (901, 901)], []⟩ (.exit 6) (riS l P C i false k n), .reg 22 [(2, [], some true)], .reg 14 [(1, [.be (I ((i + 1 : Nat) : Int))], none)]] ⟨[0, 3, 6, 7], [(900, 900), (901, 901)], []⟩ [
      decide (Int.ofNat i < Int.ofNat (List.length (List.map Sp.row l))) = true,
      (0 : Int) ≤ Int.ofNat i,
      Int.ofNat i < Int.ofNat (List.length (List.map bI P)),
      (List.map bI P)[i]? = some [I v],
      LoopC Try.prog (0 : Nat) (97 : Nat) riB { env := [((0 : Nat), V.sl (10 : Nat) (List.map Sp.row l)), ((3 : Nat), V.own (900 : Nat)), ((6 : Nat), V.own (901 : Nat)), ((7 : Nat), I (Int.ofNat i)), ((8 : Nat), Bo true), ((9 : Nat), I v), ((10 : Nat), I (0 : Int))], st := [((900 : Nat), Obj.arr (1 : Nat) (List.map bI P)), ((901 : Nat), Obj.arr (1 : Nat) (List.map bI C))], ids := [(900 : Nat), (901 : Nat)] } (Ex.exit (6 : Nat)) { env := [((0 : Nat), V.sl (10 : Nat) (List.map Sp.row l)), ((3 : Nat), V.own (900 : Nat)), ((6 : Nat), V.own (901 : Nat)), ((7 : Nat), I (Int.ofNat i)), ((8 : Nat), Bo false), ((9 : Nat), I k), ((10 : Nat), I (Int.ofNat n))], st := [((900 : Nat), Obj.arr (1 : Nat) (List.map bI P)), ((901 : Nat), Obj.arr (1 : Nat) (List.map bI C))], ids := [(900 : Nat), (901 : Nat)] },
      (k == Int.ofNat i) = true,
      IntKind.wrap IntKind.i64 (Int.ofNat (i + (1 : Nat))) = Int.ofNat (i + (1 : Nat))] (by kernel_rfl)
    (by
      simp only [allP]
      and_intros <;> first
        | exact hl
        | exact bI_at hv
        | (have := (List.getElem?_eq_some_iff.1 hv).1; simp; omega)
        | exact i64_small (by simp; omega)
        | (simp; done))

theorem rqA (l : List Sp) (P C : List Int) (i n : Nat) (v c k : Int) (hv : P[i]? = some v) (hc : C[i]? = some c) (hi : i < l.length) (hs : l.length ≤ 1000000) (hk : k = (i : Int)) (hl : LoopC Try.prog 0 97 riB (riS l P C i true v 0) (.exit 6) (riS l P C i false k n))  : CodeC Try.prog 0 97 rqB (rqS l P C i) .normal (rqS l P C (i + 1)) := by
  exact CodeC.cast (by
    first
      | rfl) (rqA_0 l P C i n v c k hv hc hi hs hk hl )

theorem rqD_0 (l : List Sp) (P C : List Int) (i n : Nat) (v c k : Int) (hv : P[i]? = some v) (hc : C[i]? = some c) (hi : i < l.length) (hs : l.length ≤ 1000000) (hk : k ≠ (i : Int)) (hl : LoopC Try.prog 0 97 riB (riS l P C i true v 0) (.exit 6) (riS l P C i true k n)) : CodeC Try.prog 0 97 rqB (rqS l P C i) (Ex.normal) ({ env := [((0 : Nat), V.sl (10 : Nat) (List.map Sp.row l)), ((3 : Nat), V.own (900 : Nat)), ((6 : Nat), V.own (901 : Nat)), ((7 : Nat), I (Int.ofNat (i + (1 : Nat))))], st := [((900 : Nat), Obj.arr (1 : Nat) (List.map bI P)), ((901 : Nat), Obj.arr (1 : Nat) (List.map bI C))], ids := [(900 : Nat), (901 : Nat)] }) :=
  runP hmix [.reg 13 [(3, [], some true)], .reg 16 [(3, [.row [I v]], none)], .cut ⟨[0, 3, 6, 7, 8, 9, 10], [(900, 900), (901, 901)], []⟩ (.exit 6) (riS l P C i true k n), .reg 22 [(2, [], some false)], .reg 14 [(1, [.be (I ((i + 1 : Nat) : Int))], none)]] ⟨[0, 3, 6, 7], [(900, 900), (901, 901)], []⟩ [
      decide (Int.ofNat i < Int.ofNat (List.length (List.map Sp.row l))) = true,
      (0 : Int) ≤ Int.ofNat i,
      Int.ofNat i < Int.ofNat (List.length (List.map bI P)),
      (List.map bI P)[i]? = some [I v],
      LoopC Try.prog (0 : Nat) (97 : Nat) riB { env := [((0 : Nat), V.sl (10 : Nat) (List.map Sp.row l)), ((3 : Nat), V.own (900 : Nat)), ((6 : Nat), V.own (901 : Nat)), ((7 : Nat), I (Int.ofNat i)), ((8 : Nat), Bo true), ((9 : Nat), I v), ((10 : Nat), I (0 : Int))], st := [((900 : Nat), Obj.arr (1 : Nat) (List.map bI P)), ((901 : Nat), Obj.arr (1 : Nat) (List.map bI C))], ids := [(900 : Nat), (901 : Nat)] } (Ex.exit (6 : Nat)) { env := [((0 : Nat), V.sl (10 : Nat) (List.map Sp.row l)), ((3 : Nat), V.own (900 : Nat)), ((6 : Nat), V.own (901 : Nat)), ((7 : Nat), I (Int.ofNat i)), ((8 : Nat), Bo true), ((9 : Nat), I k), ((10 : Nat), I (Int.ofNat n))], st := [((900 : Nat), Obj.arr (1 : Nat) (List.map bI P)), ((901 : Nat), Obj.arr (1 : Nat) (List.map bI C))], ids := [(900 : Nat), (901 : Nat)] },
      (k == Int.ofNat i) = false,
      IntKind.wrap IntKind.i64 (Int.ofNat (i + (1 : Nat))) = Int.ofNat (i + (1 : Nat))] (by kernel_rfl)
    (by
      simp only [allP]
      and_intros <;> first
        | exact hl
        | exact bI_at hv
        | (have := (List.getElem?_eq_some_iff.1 hv).1; simp; omega)
        | exact i64_small (by simp; omega)
        | (simp; done))

theorem rqD (l : List Sp) (P C : List Int) (i n : Nat) (v c k : Int) (hv : P[i]? = some v) (hc : C[i]? = some c) (hi : i < l.length) (hs : l.length ≤ 1000000) (hk : k ≠ (i : Int)) (hl : LoopC Try.prog 0 97 riB (riS l P C i true v 0) (.exit 6) (riS l P C i true k n))  : CodeC Try.prog 0 97 rqB (rqS l P C i) .normal (rqS l P C (i + 1)) := by
  exact CodeC.cast (by
    first
      | rfl) (rqD_0 l P C i n v c k hv hc hi hs hk hl )

theorem rqC_0 (l : List Sp) (P C : List Int) (i n : Nat) (v c k : Int) (hv : P[i]? = some v) (hc : C[i]? = some c) (hi : i < l.length) (hs : l.length ≤ 1000000) (hk : k ≠ (i : Int)) (hl : LoopC Try.prog 0 97 riB (riS l P C i true v 0) (.exit 6) (riS l P C i false k n)) : CodeC Try.prog 0 97 rqB (rqS l P C i) (Ex.normal) ({ env := [((0 : Nat), V.sl (10 : Nat) (List.map Sp.row l)), ((3 : Nat), V.own (900 : Nat)), ((6 : Nat), V.own (901 : Nat)), ((7 : Nat), I (Int.ofNat (i + (1 : Nat))))], st := [((900 : Nat), Obj.arr (1 : Nat) (List.map bI P)), ((901 : Nat), Obj.arr (1 : Nat) (List.map bI C))], ids := [(900 : Nat), (901 : Nat)] }) :=
  runP hmix [.reg 13 [(3, [], some true)], .reg 16 [(3, [.row [I v]], none)], .cut ⟨[0, 3, 6, 7, 8, 9, 10], [(900, 900), (901, 901)], []⟩ (.exit 6) (riS l P C i false k n), .reg 22 [(2, [], some false)], .reg 14 [(1, [.be (I ((i + 1 : Nat) : Int))], none)]] ⟨[0, 3, 6, 7], [(900, 900), (901, 901)], []⟩ [
      decide (Int.ofNat i < Int.ofNat (List.length (List.map Sp.row l))) = true,
      (0 : Int) ≤ Int.ofNat i,
      Int.ofNat i < Int.ofNat (List.length (List.map bI P)),
      (List.map bI P)[i]? = some [I v],
      LoopC Try.prog (0 : Nat) (97 : Nat) riB { env := [((0 : Nat), V.sl (10 : Nat) (List.map Sp.row l)), ((3 : Nat), V.own (900 : Nat)), ((6 : Nat), V.own (901 : Nat)), ((7 : Nat), I (Int.ofNat i)), ((8 : Nat), Bo true), ((9 : Nat), I v), ((10 : Nat), I (0 : Int))], st := [((900 : Nat), Obj.arr (1 : Nat) (List.map bI P)), ((901 : Nat), Obj.arr (1 : Nat) (List.map bI C))], ids := [(900 : Nat), (901 : Nat)] } (Ex.exit (6 : Nat)) { env := [((0 : Nat), V.sl (10 : Nat) (List.map Sp.row l)), ((3 : Nat), V.own (900 : Nat)), ((6 : Nat), V.own (901 : Nat)), ((7 : Nat), I (Int.ofNat i)), ((8 : Nat), Bo false), ((9 : Nat), I k), ((10 : Nat), I (Int.ofNat n))], st := [((900 : Nat), Obj.arr (1 : Nat) (List.map bI P)), ((901 : Nat), Obj.arr (1 : Nat) (List.map bI C))], ids := [(900 : Nat), (901 : Nat)] },
      (k == Int.ofNat i) = false,
      IntKind.wrap IntKind.i64 (Int.ofNat (i + (1 : Nat))) = Int.ofNat (i + (1 : Nat))] (by kernel_rfl)
    (by
      simp only [allP]
      and_intros <;> first
        | exact hl
        | exact bI_at hv
        | (have := (List.getElem?_eq_some_iff.1 hv).1; simp; omega)
        | exact i64_small (by simp; omega)
        | (simp; done))

theorem rqC (l : List Sp) (P C : List Int) (i n : Nat) (v c k : Int) (hv : P[i]? = some v) (hc : C[i]? = some c) (hi : i < l.length) (hs : l.length ≤ 1000000) (hk : k ≠ (i : Int)) (hl : LoopC Try.prog 0 97 riB (riS l P C i true v 0) (.exit 6) (riS l P C i false k n))  : CodeC Try.prog 0 97 rqB (rqS l P C i) .normal (rqS l P C (i + 1)) := by
  exact CodeC.cast (by
    first
      | rfl) (rqC_0 l P C i n v c k hv hc hi hs hk hl )

theorem rqE_0 (l : List Sp) (P C : List Int) (i : Nat) (h : l.length ≤ i) : CodeC Try.prog 0 97 rqB (rqS l P C i) (Ex.exit (4 : Nat)) ({ env := [((0 : Nat), V.sl (10 : Nat) (List.map Sp.row l)), ((3 : Nat), V.own (900 : Nat)), ((6 : Nat), V.own (901 : Nat)), ((7 : Nat), I (Int.ofNat i))], st := [((900 : Nat), Obj.arr (1 : Nat) (List.map bI P)), ((901 : Nat), Obj.arr (1 : Nat) (List.map bI C))], ids := [(900 : Nat), (901 : Nat)] }) :=
  runP hmix [.reg 13 [(3, [], some false)]] ⟨[0, 3, 6, 7], [(900, 900), (901, 901)], []⟩ [
      decide (Int.ofNat i < Int.ofNat (List.length (List.map Sp.row l))) = false] (by kernel_rfl)
    (by
      simp only [allP]
      and_intros <;> first
        | (simp; omega))

theorem rqE (l : List Sp) (P C : List Int) (i : Nat) (h : l.length ≤ i)  : CodeC Try.prog 0 97 rqB (rqS l P C i) (.exit 4) (rqS l P C i) := by
  exact CodeC.cast (by
    first
      | rfl) (rqE_0 l P C i h )

theorem rp_f_0 (l : List Sp) (Z P C : List Int) (hs : l.length ≤ 1000000) (hZ : Z = List.replicate l.length 0) (hP : P.length = l.length) (h1 : LoopC Try.prog 0 97 roB (roS l Z 0) (.exit 0) (roS l P l.length)) (h2 : LoopC Try.prog 0 97 rqB (rqS l P P 0) (.exit 4) (rqS l P C l.length)) : Contract Try.prog 12 [.sl 10 (l.map Sp.row)] [] (V.own (0 : Nat)) ([some (Obj.arr (1 : Nat) (List.map bI C))]) :=
  vcP hmix [.reg 1 [(2, [.beO (Z.map bI)], none)], .cut ⟨[0, 3, 4], [(203000, 900)], []⟩ (.exit 0) (roS l P l.length), .reg 11 [(1, [.beO (P.map bI)], none)], .cut ⟨[0, 3, 6, 7], [(900, 900), (2202000, 901)], []⟩ (.exit 4) (rqS l P C l.length)] [901] [
      Int.ofNat (List.length (List.map Sp.row l)) = Int.ofNat (List.length (List.map Sp.row l)),
      (0 : Int) ≤ Int.ofNat (List.length (List.map Sp.row l)),
      List.length (List.map Sp.row l) * (8 : Nat) ≤ (140737488355328 : Nat),
      List.replicate (List.length (List.map Sp.row l)) [I (0 : Int)] = List.map bI Z,
      LoopC Try.prog (0 : Nat) (97 : Nat) roB { env := [((0 : Nat), V.sl (10 : Nat) (List.map Sp.row l)), ((3 : Nat), V.own (900 : Nat)), ((4 : Nat), I (0 : Int))], st := [((900 : Nat), Obj.arr (1 : Nat) (List.map bI Z))], ids := [(900 : Nat)] } (Ex.exit (0 : Nat)) { env := [((0 : Nat), V.sl (10 : Nat) (List.map Sp.row l)), ((3 : Nat), V.own (900 : Nat)), ((4 : Nat), I (Int.ofNat (List.length l)))], st := [((900 : Nat), Obj.arr (1 : Nat) (List.map bI P))], ids := [(900 : Nat)] },
      List.length (List.map bI P) * (8 : Nat) ≤ (140737488355328 : Nat),
      List.map bI P = List.map bI P,
      LoopC Try.prog (0 : Nat) (97 : Nat) rqB { env := [((0 : Nat), V.sl (10 : Nat) (List.map Sp.row l)), ((3 : Nat), V.own (900 : Nat)), ((6 : Nat), V.own (901 : Nat)), ((7 : Nat), I (0 : Int))], st := [((900 : Nat), Obj.arr (1 : Nat) (List.map bI P)), ((901 : Nat), Obj.arr (1 : Nat) (List.map bI P))], ids := [(900 : Nat), (901 : Nat)] } (Ex.exit (4 : Nat)) { env := [((0 : Nat), V.sl (10 : Nat) (List.map Sp.row l)), ((3 : Nat), V.own (900 : Nat)), ((6 : Nat), V.own (901 : Nat)), ((7 : Nat), I (Int.ofNat (List.length l)))], st := [((900 : Nat), Obj.arr (1 : Nat) (List.map bI P)), ((901 : Nat), Obj.arr (1 : Nat) (List.map bI C))], ids := [(900 : Nat), (901 : Nat)] }] (by kernel_rfl)
    (by
      simp only [allP]
      and_intros <;> first
        | exact h1
        | exact h2
        | (subst hZ; simp [bI]; done)
        | (simp; omega))

theorem rp_f (l : List Sp) (Z P C : List Int) (hs : l.length ≤ 1000000) (hZ : Z = List.replicate l.length 0) (hP : P.length = l.length) (h1 : LoopC Try.prog 0 97 roB (roS l Z 0) (.exit 0) (roS l P l.length)) (h2 : LoopC Try.prog 0 97 rqB (rqS l P P 0) (.exit 4) (rqS l P C l.length)) : Contract Try.prog 12 [.sl 10 (l.map Sp.row)] [] (.own 0) [some (.arr 1 (C.map bI))] := by
  exact Contract.cast (by
    first
      | rfl) (by
    first
      | rfl) (rp_f_0 l Z P C hs hZ hP h1 h2 )

theorem firstI_snoc {α : Type} {bad : Nat → α → Bool} : ∀ (l : List α) (x : α) (o : Nat), firstI bad o (l ++ [x]) = bif firstI bad o l == -1 then (bif bad (o + l.length) x then ((o + l.length : Nat) : Int) else -1) else firstI bad o l
  | [], x, o => by simp [firstI]
  | y :: l, x, o => by
    cases hb : bad o y with
    | true =>
      have : (((o : Nat) : Int) == -1) = false := by simp
      simp [firstI, hb, this]
    | false =>
      simp only [List.cons_append, firstI, hb, cond_false]
      rw [firstI_snoc l x (o + 1)]
      simp only [List.length_cons]
      rw [show o + 1 + l.length = o + (l.length + 1) by omega]
theorem dnF_eq (H : Nat → Sp → Bool) (l : List Sp) : ∀ (m : Nat) (c : Int), m ≤ l.length → dnF H l m c = bif firstI H 0 (l.take m) == -1 then c else firstI H 0 (l.take m)
  | 0, c, _ => by simp [dnF, firstI]
  | m + 1, c, h => by
    have hx := List.getElem?_eq_getElem (show m < l.length by omega)
    rw [List.take_add_one, hx, Option.toList_some, firstI_snoc]
    simp only [dnF, hx]
    rw [dnF_eq H l m _ (by omega)]
    have hl : (l.take m).length = m := by simp; omega
    rw [hl, Nat.zero_add]
    have h0 : (((m : Nat) : Int) == -1) = false := by simp
    cases hb : firstI H 0 (l.take m) == -1 with
    | false => simp [hb]
    | true => cases H m l[m] <;> simp [h0]
theorem rpL (l : List Sp) (i : Nat) (y : Sp) (hy : l[i]? = some y) (hi : i < l.length) (hs : l.length ≤ 1000000) : ∀ (m : Nat) (X : List Int) (c : Int), m ≤ l.length → X[i]? = some c →
    LoopC Try.prog 0 97 rpB (rpS l X i ((m : Int) - 1)) (.exit 2) (rpS l (X.set i (dnF (nmH i y.par) l m c)) i (-1))
  | 0, X, c, _, hc => by
    have e : X.set i c = X := by
      apply List.ext_getElem?
      intro j
      rw [List.getElem?_set]
      by_cases hj : i = j
      · subst hj; rw [if_pos rfl, if_pos (List.getElem?_eq_some_iff.1 hc).1, hc]
      · rw [if_neg hj]
    simp only [dnF, e]
    exact LoopC.last (rpE l X i _ (by simp)) (by simp)
  | m + 1, X, c, hm, hc => by
    have hx := List.getElem?_eq_getElem (show m < l.length by omega)
    have hil := (List.getElem?_eq_some_iff.1 hc).1
    rw [show (((m + 1 : Nat) : Int) - 1) = (m : Int) by omega]
    simp only [dnF, hx]
    cases hb : nmH i y.par m l[m] with
    | true =>
      have ih := rpL l i y hy hi hs m (X.set i (m : Int)) (m : Int) (by omega) (by rw [List.getElem?_set]; simp [hil])
      rw [List.set_set] at ih
      exact LoopC.next (rpT l X l[m] y c i m hx (by omega) hy hi hc hs hb) ih
    | false => exact LoopC.next (rpF l X l[m] y c i m hx (by omega) hy hi hc hs hb) (rpL l i y hy hi hs m X c (by omega) hc)
theorem roL (l : List Sp) (hs : l.length ≤ 1000000) : LoopC Try.prog 0 97 roB (roS l (List.replicate l.length 0) 0) (.exit 0) (roS l (upF l) l.length) := by
  have key : ∀ m i, i + m = l.length → LoopC Try.prog 0 97 roB (roS l ((upF l).take i ++ (List.replicate l.length (0 : Int)).drop i) i) (.exit 0) (roS l (upF l) l.length) := by
    intro m
    induction m with
    | zero =>
      intro i h
      have : i = l.length := by omega
      subst this
      have e : (upF l).take l.length ++ (List.replicate l.length (0 : Int)).drop l.length = upF l := by
        rw [List.take_of_length_le (by rw [upF_len]; exact Nat.le_refl _), List.drop_of_length_le (by simp), List.append_nil]
      rw [e]
      exact LoopC.last (roE _ _ _ (Nat.le_refl _)) (by simp)
    | succ m ih =>
      intro i h
      have hi : i < l.length := by omega
      have hc : ((upF l).take i ++ (List.replicate l.length (0 : Int)).drop i)[i]? = some 0 := by rw [at_take _ _ _ (by rw [upF_len]; omega)]; simp [hi]
      have hlen : ((upF l).take i ++ (List.replicate l.length (0 : Int)).drop i).length = l.length := by simp [upF_len]; omega
      have hy := List.getElem?_eq_getElem hi
      have hin := rpL l i l[i] hy hi hs l.length (((upF l).take i ++ (List.replicate l.length (0 : Int)).drop i).set i (-1)) (-1) (Nat.le_refl _) (by rw [List.getElem?_set, if_pos rfl, if_pos (by rw [hlen]; exact hi)])
      have e : dnF (nmH i l[i].par) l l.length (-1) = nmP l i := by
        rw [dnF_eq _ _ _ _ (Nat.le_refl _), List.take_length, nmP_at hy]
        show (bif nmF l i l[i].par == -1 then -1 else nmF l i l[i].par) = _
        cases h1 : nmF l i l[i].par == -1 with
        | false => rfl
        | true => simpa using (of_decide_eq_true h1).symm
      rw [List.set_set, e, set_take _ _ _ _ (upF_at l i hi) (by simp; exact hi)] at hin
      exact LoopC.next (roG l _ _ 0 i hc hlen hi hs hin) (ih (i + 1) (by omega))
  have := key l.length 0 (by omega)
  simpa using this
theorem riL (l : List Sp) (P C : List Int) (hP : InR P) (hl : P.length = l.length) (hs : l.length ≤ 1000000) (i : Nat) : ∀ (f n : Nat) (k : Int) (le : Bool), n + f = l.length → (k = -1 ∨ ∃ j : Nat, j < P.length ∧ k = (j : Int)) →
    ∃ n', LoopC Try.prog 0 97 riB (riS l P C i le k n) (.exit 6) (riS l P C i (rfG P i f k le).2 (rfG P i f k le).1 n')
  | 0, n, k, le, hf, hk => ⟨n, LoopC.last (riE1 l P C i n k le (by omega)) (by simp)⟩
  | f + 1, n, k, le, hf, hk => by
    rcases hk with rfl | ⟨j, hj, rfl⟩
    · have e : rfG P i (f + 1) (-1) le = (-1, le) := by simp [rfG]
      rw [e]
      exact ⟨n, LoopC.last (riE2 l P C i n (-1) le (by omega) (by omega)) (by simp)⟩
    · by_cases h2 : j = i
      · subst h2
        have e : rfG P j (f + 1) (j : Int) le = ((j : Int), le) := by simp [rfG]
        rw [e]
        exact ⟨n, LoopC.last (riE3 l P C j n (j : Int) le (by omega) rfl) (by simp)⟩
      · have hv := List.getElem?_eq_getElem hj
        have h3 : (((j : Nat) : Int) == (i : Int)) = false := by simp; omega
        have e : rfG P i (f + 1) (j : Int) le = rfG P i f P[j] (le && decide ((j : Int) > (i : Int))) := by simp [rfG, h3, hj]
        rw [e]
        obtain ⟨n', ih⟩ := riL l P C hP hl hs i f (n + 1) P[j] (le && decide ((j : Int) > (i : Int))) (by omega) (hP j _ hv)
        refine ⟨n', ?_⟩
        cases le with
        | true => rw [Bool.true_and] at ih ⊢; exact LoopC.next (riT l P C i n j P[j] hv (by omega) h2 hs) ih
        | false => rw [Bool.false_and] at ih ⊢; exact LoopC.next (riF l P C i n j P[j] hv (by omega) h2 hs) ih
theorem rparF_len (l : List Sp) : (rparF l).length = l.length := by simp [rparF]
theorem rqL (l : List Sp) (hs : l.length ≤ 1000000) : LoopC Try.prog 0 97 rqB (rqS l (upF l) (upF l) 0) (.exit 4) (rqS l (upF l) (rparF l) l.length) := by
  have key : ∀ m i, i + m = l.length → LoopC Try.prog 0 97 rqB (rqS l (upF l) ((rparF l).take i ++ (upF l).drop i) i) (.exit 4) (rqS l (upF l) (rparF l) l.length) := by
    intro m
    induction m with
    | zero =>
      intro i h
      have : i = l.length := by omega
      subst this
      have e : (rparF l).take l.length ++ (upF l).drop l.length = rparF l := by
        rw [List.take_of_length_le (by rw [rparF_len]; exact Nat.le_refl _), List.drop_of_length_le (by rw [upF_len]; exact Nat.le_refl _), List.append_nil]
      rw [e]
      exact LoopC.last (rqE _ _ _ _ (Nat.le_refl _)) (by simp)
    | succ m ih =>
      intro i h
      have hi : i < l.length := by omega
      have hv := upF_at l i hi
      have hc : ((rparF l).take i ++ (upF l).drop i)[i]? = some (nmP l i) := by rw [at_take _ _ _ (by rw [rparF_len]; omega), hv]
      have ih' := ih (i + 1) (by omega)
      have hat : (rparF l)[i]? = some (bif rcut (upF l) l.length i then -1 else nmP l i) := by simp [rparF, hi]
      obtain ⟨n', hl⟩ := riL l (upF l) ((rparF l).take i ++ (upF l).drop i) (upF_inR l) (upF_len l) hs i l.length 0 (nmP l i) true (by omega) (upF_inR l i _ hv)
      have hg : (upF l).getD i 0 = nmP l i := by rw [List.getD_eq_getElem?_getD, hv]; rfl
      have keep : rcut (upF l) l.length i = false → (rparF l).take i ++ (upF l).drop i = (rparF l).take (i + 1) ++ (upF l).drop (i + 1) := fun hr => keep_take _ _ _ (nmP l i) (by rw [hat, hr]; rfl) hv
      generalize hR : rfG (upF l) i l.length (nmP l i) true = R at hl
      obtain ⟨k, le⟩ := R
      have hcut : rcut (upF l) l.length i = (k == (i : Int) && le) := by simp only [rcut, hg, hR]
      simp only at hl
      by_cases hk : k = (i : Int)
      · cases le with
        | true =>
          have hr := rqT l (upF l) _ i n' _ _ k hv hc hi hs hk hl
          rw [set_take _ _ _ _ (by rw [hat, hcut]; simp [hk]) (by rw [upF_len]; exact hi)] at hr
          exact LoopC.next hr ih'
        | false =>
          have hr := rqA l (upF l) _ i n' _ _ k hv hc hi hs hk hl
          rw [← keep (by rw [hcut]; simp)] at ih'
          exact LoopC.next hr ih'
      · have hk' : (k == (i : Int)) = false := by simpa using hk
        rw [← keep (by rw [hcut, hk']; rfl)] at ih'
        cases le with
        | true => exact LoopC.next (rqD l (upF l) _ i n' _ _ k hv hc hi hs hk hl) ih'
        | false => exact LoopC.next (rqC l (upF l) _ i n' _ _ k hv hc hi hs hk hl) ih'
  have := key l.length 0 (by omega)
  simpa using this
/-- What the reference's Parents gives. -/
theorem cRPar (l : List Sp) (hs : l.length ≤ 1000000) : Contract Try.prog 12 [.sl 10 (l.map Sp.row)] [] (.own 0) [some (.arr 1 ((rparF l).map bI))] :=
  rp_f l _ (upF l) (rparF l) hs rfl (upF_len l) (roL l hs) (rqL l hs)

end Go.Proofs.Ythhggnnfiohnpaa

/- sorting int: insertion, swapping, rotating. -/
namespace Go.Proofs.Ythhggnnfiohnpaa
open E
set_option maxRecDepth 100000
set_option linter.unusedVariables false
set_option linter.unusedSimpArgs false

def toLt {sp : List Sp}  (x y : (Ix sp)) : Bool := decide ((cmpX) x y < 0)
def toN {sp : List Sp} (l : List (Ix sp))  (a b i : Nat) : SL := ⟨[(0, .own 0), (1, I (a : Int)), (2, I (b : Int)), (3, .clo (.func 28) [] [.ptr 1 0 0 0]), (8, I (i : Int))], [(0, .arr 1 (l.map Ix.row)), (1, .box [.sl 10 (sp.map Sp.row)])], [0, 1, 0, 1]⟩
def toM {sp : List Sp} (l : List (Ix sp))  (a b i j : Nat) : SL := ⟨[(0, .own 0), (1, I (a : Int)), (2, I (b : Int)), (3, .clo (.func 28) [] [.ptr 1 0 0 0]), (8, I (i : Int)), (9, I (j : Int))], [(0, .arr 1 (l.map Ix.row)), (1, .box [.sl 10 (sp.map Sp.row)])], [0, 1, 0, 1]⟩
def toW {sp : List Sp} (l : List (Ix sp))  (a b n i : Nat) : SL := ⟨[(0, .own 0), (1, I (a : Int)), (2, I (b : Int)), (3, I (n : Int)), (10, I (i : Int))], [(0, .arr 1 (l.map Ix.row)), (1, .box [.sl 10 (sp.map Sp.row)])], [0, 1, 0, 1]⟩
def toR {sp : List Sp} (l : List (Ix sp))  (m i j : Nat) : SL := ⟨[(0, .own 0), (2, I (m : Int)), (4, .clo (.func 28) [] [.ptr 1 0 0 0]), (10, I (i : Int)), (11, I (j : Int))], [(0, .arr 1 (l.map Ix.row)), (1, .box [.sl 10 (sp.map Sp.row)])], [0, 1, 0, 1]⟩
noncomputable def toNB : Code := codeAt Try.prog 32 [true, false, false]

noncomputable def toMB : Code := codeAt Try.prog 32 [true, false, false, true, false, false, true, false, false]

noncomputable def toWB : Code := codeAt Try.prog 35 [true, false, false]

noncomputable def toRB : Code := codeAt Try.prog 34 [true, true, false, false, false]

theorem toMgo_0 {sp : List Sp} (A B : List (Ix sp)) (x y : (Ix sp))  (a b i j : Nat) (hj : j = A.length + 1) (hl : A.length + B.length ≤ 1000000) (ha : a < j) (hb : toLt (sp := sp) x y = true) : CodeC Try.prog 2 53 toMB (toM (A ++ y :: x :: B) (sp := sp) a b i j) (Ex.normal) ({ env := [((0 : Nat), V.own (0 : Nat)), ((1 : Nat), I (Int.ofNat a)), ((2 : Nat), I (Int.ofNat b)), ((3 : Nat), V.clo (Fn.func (28 : Nat)) [] [V.ptr (1 : Nat) (0 : Nat) (0 : Nat) (0 : Nat)]), ((8 : Nat), I (Int.ofNat i)), ((9 : Nat), I (Int.ofNat (List.length A)))], st := [((0 : Nat), Obj.arr (1 : Nat) (List.map Ix.row (A ++ x :: y :: B))), ((1 : Nat), Obj.box [V.sl (10 : Nat) (List.map Sp.row sp)])], ids := [(0 : Nat), (1 : Nat), (0 : Nat), (1 : Nat)] }) :=
  runP hmix [.reg 4 [(3, [], some true), (8, [.row (Ix.row x)], none), (11, [.be (I ((A.length : Nat) : Int))], none), (13, [.row (Ix.row y)], none), (14, [.call [1] [] (I ((cmpX) x y)) [some (.box [.sl 10 (sp.map Sp.row)])]], none), (15, [], some true)], .reg 6 [(4, [.be (I ((A.length : Nat) : Int))], none), (7, [.be (I ((A.length : Nat) : Int))], none), (9, [.row (Ix.row y)], none), (13, [.row (Ix.row x)], none), (15, [.row (Ix.row x), .beO ((A ++ y :: y :: B).map Ix.row)], none), (17, [.row (Ix.row y), .beO ((A ++ x :: y :: B).map Ix.row)], none)], .reg 5 [(1, [.be (I ((A.length : Nat) : Int))], none)]] ⟨[0, 1, 2, 3, 8, 9], [(0, 0), (1, 1)], []⟩ [
      decide (Int.ofNat j > Int.ofNat a) = true,
      (0 : Int) ≤ Int.ofNat j,
      Int.ofNat j < Int.ofNat (List.length (List.map Ix.row (A ++ y :: x :: B))),
      (List.map Ix.row (A ++ y :: x :: B))[j]? = some (Ix.row x),
      IntKind.wrap IntKind.i64 (Int.ofNat j + (-1 : Int)) = Int.ofNat (List.length A),
      (0 : Int) ≤ Int.ofNat (List.length A),
      Int.ofNat (List.length A) < Int.ofNat (List.length (List.map Ix.row (A ++ y :: x :: B))),
      (List.map Ix.row (A ++ y :: x :: B))[List.length A]? = some (Ix.row y),
      Contract Try.prog (28 : Nat) [I (Int.ofNat (Ix.n x)), I (Int.ofNat (Ix.n y)), V.ptr (0 : Nat) (0 : Nat) (0 : Nat) (0 : Nat)] [Obj.box [V.sl (10 : Nat) (List.map Sp.row sp)]] (I (cmpX x y)) [some (Obj.box [V.sl (10 : Nat) (List.map Sp.row sp)])],
      decide (cmpX x y < (0 : Int)) = true,
      IntKind.wrap IntKind.i64 (Int.ofNat j + (-1 : Int)) = Int.ofNat (List.length A),
      IntKind.wrap IntKind.i64 (Int.ofNat j + (-1 : Int)) = Int.ofNat (List.length A),
      (0 : Int) ≤ Int.ofNat (List.length A),
      Int.ofNat (List.length A) < Int.ofNat (List.length (List.map Ix.row (A ++ y :: x :: B))),
      (List.map Ix.row (A ++ y :: x :: B))[List.length A]? = some (Ix.row y),
      (0 : Int) ≤ Int.ofNat j,
      Int.ofNat j < Int.ofNat (List.length (List.map Ix.row (A ++ y :: x :: B))),
      (List.map Ix.row (A ++ y :: x :: B))[j]? = some (Ix.row x),
      (0 : Int) ≤ Int.ofNat j,
      Int.ofNat j < Int.ofNat (List.length (List.map Ix.row (A ++ y :: x :: B))),
      (List.map Ix.row (A ++ y :: x :: B))[j]? = some (Ix.row x),
      List.set (List.map Ix.row (A ++ y :: x :: B)) j [I (Int.ofNat (Ix.n y))] = List.map Ix.row (A ++ y :: y :: B),
      (0 : Int) ≤ Int.ofNat (List.length A),
      Int.ofNat (List.length A) < Int.ofNat (List.length (List.map Ix.row (A ++ y :: y :: B))),
      (List.map Ix.row (A ++ y :: y :: B))[List.length A]? = some (Ix.row y),
      List.set (List.map Ix.row (A ++ y :: y :: B)) (List.length A) [I (Int.ofNat (Ix.n x))] = List.map Ix.row (A ++ x :: y :: B),
      IntKind.wrap IntKind.i64 (Int.ofNat j + (-1 : Int)) = Int.ofNat (List.length A)] (by kernel_rfl)
    (by
      simp only [allP]
      and_intros <;> first
        | exact cK1 x y
        | exact hb
        | (simp; omega)
        | (rw [i64_small (by simp; omega)]; simp; omega)
        | exact at2 (by omega)
        | exact at1 (by omega)
        | exact set2 (by omega)
        | exact set1 (by omega)
        | (subst hj; simp; done)
        | (simp; done))

theorem toMgo {sp : List Sp} (A B : List (Ix sp)) (x y : (Ix sp))  (a b i j : Nat) (hj : j = A.length + 1) (hl : A.length + B.length ≤ 1000000) (ha : a < j) (hb : toLt (sp := sp) x y = true)  : CodeC Try.prog 2 53 toMB (toM (A ++ y :: x :: B) (sp := sp) a b i j) .normal (toM (A ++ x :: y :: B) (sp := sp) a b i A.length) := by
  exact CodeC.cast (by
    first
      | rfl) (toMgo_0 A B x y a b i j hj hl ha hb )

theorem toMst_0 {sp : List Sp} (A B : List (Ix sp)) (x y : (Ix sp))  (a b i j : Nat) (hj : j = A.length + 1) (hl : A.length + B.length ≤ 1000000) (ha : a < j) (hb : toLt (sp := sp) x y = false) : CodeC Try.prog 2 53 toMB (toM (A ++ y :: x :: B) (sp := sp) a b i j) (Ex.exit (2 : Nat)) ({ env := [((0 : Nat), V.own (0 : Nat)), ((1 : Nat), I (Int.ofNat a)), ((2 : Nat), I (Int.ofNat b)), ((3 : Nat), V.clo (Fn.func (28 : Nat)) [] [V.ptr (1 : Nat) (0 : Nat) (0 : Nat) (0 : Nat)]), ((8 : Nat), I (Int.ofNat i)), ((9 : Nat), I (Int.ofNat j))], st := [((0 : Nat), Obj.arr (1 : Nat) (List.map Ix.row (A ++ y :: x :: B))), ((1 : Nat), Obj.box [V.sl (10 : Nat) (List.map Sp.row sp)])], ids := [(0 : Nat), (1 : Nat), (0 : Nat), (1 : Nat)] }) :=
  runP hmix [.reg 4 [(3, [], some true), (8, [.row (Ix.row x)], none), (11, [.be (I ((A.length : Nat) : Int))], none), (13, [.row (Ix.row y)], none), (14, [.call [1] [] (I ((cmpX) x y)) [some (.box [.sl 10 (sp.map Sp.row)])]], none), (15, [], some false)]] ⟨[0, 1, 2, 3, 8, 9], [(0, 0), (1, 1)], []⟩ [
      decide (Int.ofNat j > Int.ofNat a) = true,
      (0 : Int) ≤ Int.ofNat j,
      Int.ofNat j < Int.ofNat (List.length (List.map Ix.row (A ++ y :: x :: B))),
      (List.map Ix.row (A ++ y :: x :: B))[j]? = some (Ix.row x),
      IntKind.wrap IntKind.i64 (Int.ofNat j + (-1 : Int)) = Int.ofNat (List.length A),
      (0 : Int) ≤ Int.ofNat (List.length A),
      Int.ofNat (List.length A) < Int.ofNat (List.length (List.map Ix.row (A ++ y :: x :: B))),
      (List.map Ix.row (A ++ y :: x :: B))[List.length A]? = some (Ix.row y),
      Contract Try.prog (28 : Nat) [I (Int.ofNat (Ix.n x)), I (Int.ofNat (Ix.n y)), V.ptr (0 : Nat) (0 : Nat) (0 : Nat) (0 : Nat)] [Obj.box [V.sl (10 : Nat) (List.map Sp.row sp)]] (I (cmpX x y)) [some (Obj.box [V.sl (10 : Nat) (List.map Sp.row sp)])],
      decide (cmpX x y < (0 : Int)) = false] (by kernel_rfl)
    (by
      simp only [allP]
      and_intros <;> first
        | exact cK1 x y
        | exact hb
        | (simp; omega)
        | (rw [i64_small (by simp; omega)]; simp; omega)
        | exact at2 (by omega)
        | exact at1 (by omega)
        | (subst hj; simp; done)
        | (simp; done))

theorem toMst {sp : List Sp} (A B : List (Ix sp)) (x y : (Ix sp))  (a b i j : Nat) (hj : j = A.length + 1) (hl : A.length + B.length ≤ 1000000) (ha : a < j) (hb : toLt (sp := sp) x y = false)  : CodeC Try.prog 2 53 toMB (toM (A ++ y :: x :: B) (sp := sp) a b i j) (.exit 2) (toM (A ++ y :: x :: B) (sp := sp) a b i j) := by
  exact CodeC.cast (by
    first
      | rfl) (toMst_0 A B x y a b i j hj hl ha hb )

theorem toMz_0 {sp : List Sp} (l : List (Ix sp))  (a b i j : Nat) (ha : j ≤ a) : CodeC Try.prog 2 53 toMB (toM (l) (sp := sp) a b i j) (Ex.exit (2 : Nat)) ({ env := [((0 : Nat), V.own (0 : Nat)), ((1 : Nat), I (Int.ofNat a)), ((2 : Nat), I (Int.ofNat b)), ((3 : Nat), V.clo (Fn.func (28 : Nat)) [] [V.ptr (1 : Nat) (0 : Nat) (0 : Nat) (0 : Nat)]), ((8 : Nat), I (Int.ofNat i)), ((9 : Nat), I (Int.ofNat j))], st := [((0 : Nat), Obj.arr (1 : Nat) (List.map Ix.row l)), ((1 : Nat), Obj.box [V.sl (10 : Nat) (List.map Sp.row sp)])], ids := [(0 : Nat), (1 : Nat), (0 : Nat), (1 : Nat)] }) :=
  runP hmix [.reg 4 [(3, [], some false)]] ⟨[0, 1, 2, 3, 8, 9], [(0, 0), (1, 1)], []⟩ [
      decide (Int.ofNat j > Int.ofNat a) = false] (by kernel_rfl)
    (by
      simp only [allP]
      and_intros <;> first
        | (simp; omega))

theorem toMz {sp : List Sp} (l : List (Ix sp))  (a b i j : Nat) (ha : j ≤ a)  : CodeC Try.prog 2 53 toMB (toM (l) (sp := sp) a b i j) (.exit 2) (toM (l) (sp := sp) a b i j) := by
  exact CodeC.cast (by
    first
      | rfl) (toMz_0 l a b i j ha )

theorem toMin {sp : List Sp}  (ho : Swo (toLt (sp := sp))) (P : List (Ix sp)) (b i : Nat) (x : (Ix sp)) (S : List (Ix sp)) : Srt (toLt (sp := sp)) S → ∀ R : List (Ix sp), P.length + S.length + R.length ≤ 1000000 →
    ∃ j', LoopC Try.prog 2 53 toMB (toM (P ++ S ++ x :: R) (sp := sp) P.length b i (P.length + S.length)) (.exit 2) (toM (P ++ mrg (toLt (sp := sp)) S [x] ++ R) (sp := sp) P.length b i j') := by
  refine snoc_ind (P := fun S => Srt (toLt (sp := sp)) S → ∀ R : List (Ix sp), P.length + S.length + R.length ≤ 1000000 → ∃ j', LoopC Try.prog 2 53 toMB (toM (P ++ S ++ x :: R) (sp := sp) P.length b i (P.length + S.length)) (.exit 2) (toM (P ++ mrg (toLt (sp := sp)) S [x] ++ R) (sp := sp) P.length b i j')) ?_ ?_ S
  · intro _ R _
    refine ⟨P.length, ?_⟩
    rw [mrg_nil_l, List.append_nil, List.length_nil, Nat.add_zero]
    simp only [List.append_assoc, List.cons_append, List.nil_append]
    exact LoopC.last (toMz _ (sp := sp) _ b i _ (Nat.le_refl _)) (by simp)
  · intro S y ih hs R hR
    have hs' := List.pairwise_append.1 hs
    simp only [List.length_append, List.length_cons, List.length_nil] at hR ⊢
    cases h : toLt (sp := sp) x y with
    | true =>
      obtain ⟨j', hj⟩ := ih hs'.1 (y :: R) (by simp; omega)
      have e : mrg (toLt (sp := sp)) (S ++ [y]) [x] = mrg (toLt (sp := sp)) S [x] ++ [y] := by
        have := mrg_append ho S [x] [y] [] (by simp) (fun z hz w hw => by simp at hz hw; subst hz hw; exact h)
        rwa [mrg_nil_r, List.append_nil] at this
      refine ⟨j', ?_⟩
      rw [e]
      have hr := toMgo (P ++ S) R x y (sp := sp) P.length b i (P.length + (S.length + 1)) (by simp; omega) (by simp; omega) (by omega) h
      rw [show (P ++ S).length = P.length + S.length by simp] at hr
      simp only [List.append_assoc, List.cons_append, List.nil_append] at hr hj ⊢
      exact LoopC.next hr hj
    | false =>
      have e : mrg (toLt (sp := sp)) (S ++ [y]) [x] = S ++ [y, x] := by
        have := mrg_one ho (S ++ [y]) x [] (fun z hz => by
          rcases List.mem_append.1 hz with hz | hz
          · exact ho.trans (hs'.2.2 z hz y (by simp)) h
          · simp at hz; subst hz; exact h) (by simp)
        simpa using this
      refine ⟨P.length + (S.length + 1), ?_⟩
      rw [e]
      have hr := toMst (P ++ S) R x y (sp := sp) P.length b i (P.length + (S.length + 1)) (by simp; omega) (by simp; omega) (by omega) h
      simp only [List.append_assoc, List.cons_append, List.nil_append] at hr ⊢
      exact LoopC.last hr (by simp)

theorem toNgo_0 {sp : List Sp} (l l' : List (Ix sp))  (a b i j : Nat) (hi : i < b) (hb : b ≤ 1000000) (hl : LoopC Try.prog 2 53 toMB (toM (l) (sp := sp) a b i i) (.exit 2) (toM (l') (sp := sp) a b i j)) : CodeC Try.prog 2 53 toNB (toN (l) (sp := sp) a b i) (Ex.normal) ({ env := [((0 : Nat), V.own (0 : Nat)), ((1 : Nat), I (Int.ofNat a)), ((2 : Nat), I (Int.ofNat b)), ((3 : Nat), V.clo (Fn.func (28 : Nat)) [] [V.ptr (1 : Nat) (0 : Nat) (0 : Nat) (0 : Nat)]), ((8 : Nat), I (Int.ofNat (i + (1 : Nat))))], st := [((0 : Nat), Obj.arr (1 : Nat) (List.map Ix.row l')), ((1 : Nat), Obj.box [V.sl (10 : Nat) (List.map Sp.row sp)])], ids := [(0 : Nat), (1 : Nat), (0 : Nat), (1 : Nat)] }) :=
  runP hmix [.reg 1 [(2, [], some true)], .cut ⟨[0, 1, 2, 3, 8, 9], [(0, 0), (1, 1)], []⟩ (.exit 2) (toM (l') (sp := sp) a b i j), .reg 2 [(1, [.be (I ((i + 1 : Nat) : Int))], none)]] ⟨[0, 1, 2, 3, 8], [(0, 0), (1, 1)], []⟩ [
      decide (Int.ofNat i < Int.ofNat b) = true,
      LoopC Try.prog (2 : Nat) (53 : Nat) toMB { env := [((0 : Nat), V.own (0 : Nat)), ((1 : Nat), I (Int.ofNat a)), ((2 : Nat), I (Int.ofNat b)), ((3 : Nat), V.clo (Fn.func (28 : Nat)) [] [V.ptr (1 : Nat) (0 : Nat) (0 : Nat) (0 : Nat)]), ((8 : Nat), I (Int.ofNat i)), ((9 : Nat), I (Int.ofNat i))], st := [((0 : Nat), Obj.arr (1 : Nat) (List.map Ix.row l)), ((1 : Nat), Obj.box [V.sl (10 : Nat) (List.map Sp.row sp)])], ids := [(0 : Nat), (1 : Nat), (0 : Nat), (1 : Nat)] } (Ex.exit (2 : Nat)) { env := [((0 : Nat), V.own (0 : Nat)), ((1 : Nat), I (Int.ofNat a)), ((2 : Nat), I (Int.ofNat b)), ((3 : Nat), V.clo (Fn.func (28 : Nat)) [] [V.ptr (1 : Nat) (0 : Nat) (0 : Nat) (0 : Nat)]), ((8 : Nat), I (Int.ofNat i)), ((9 : Nat), I (Int.ofNat j))], st := [((0 : Nat), Obj.arr (1 : Nat) (List.map Ix.row l')), ((1 : Nat), Obj.box [V.sl (10 : Nat) (List.map Sp.row sp)])], ids := [(0 : Nat), (1 : Nat), (0 : Nat), (1 : Nat)] },
      IntKind.wrap IntKind.i64 (Int.ofNat (i + (1 : Nat))) = Int.ofNat (i + (1 : Nat))] (by kernel_rfl)
    (by
      simp only [allP]
      and_intros <;> first
        | (simp; omega)
        | exact hl
        | exact i64_small (by simp; omega))

theorem toNgo {sp : List Sp} (l l' : List (Ix sp))  (a b i j : Nat) (hi : i < b) (hb : b ≤ 1000000) (hl : LoopC Try.prog 2 53 toMB (toM (l) (sp := sp) a b i i) (.exit 2) (toM (l') (sp := sp) a b i j))  : CodeC Try.prog 2 53 toNB (toN (l) (sp := sp) a b i) .normal (toN (l') (sp := sp) a b (i + 1)) := by
  exact CodeC.cast (by
    first
      | rfl) (toNgo_0 l l' a b i j hi hb hl )

theorem toNz_0 {sp : List Sp} (l : List (Ix sp))  (a b i : Nat) (hi : b ≤ i) : CodeC Try.prog 2 53 toNB (toN (l) (sp := sp) a b i) (Ex.exit (0 : Nat)) ({ env := [((0 : Nat), V.own (0 : Nat)), ((1 : Nat), I (Int.ofNat a)), ((2 : Nat), I (Int.ofNat b)), ((3 : Nat), V.clo (Fn.func (28 : Nat)) [] [V.ptr (1 : Nat) (0 : Nat) (0 : Nat) (0 : Nat)]), ((8 : Nat), I (Int.ofNat i))], st := [((0 : Nat), Obj.arr (1 : Nat) (List.map Ix.row l)), ((1 : Nat), Obj.box [V.sl (10 : Nat) (List.map Sp.row sp)])], ids := [(0 : Nat), (1 : Nat), (0 : Nat), (1 : Nat)] }) :=
  runP hmix [.reg 1 [(2, [], some false)]] ⟨[0, 1, 2, 3, 8], [(0, 0), (1, 1)], []⟩ [
      decide (Int.ofNat i < Int.ofNat b) = false] (by kernel_rfl)
    (by
      simp only [allP]
      and_intros <;> first
        | (simp; omega))

theorem toNz {sp : List Sp} (l : List (Ix sp))  (a b i : Nat) (hi : b ≤ i)  : CodeC Try.prog 2 53 toNB (toN (l) (sp := sp) a b i) (.exit 0) (toN (l) (sp := sp) a b i) := by
  exact CodeC.cast (by
    first
      | rfl) (toNz_0 l a b i hi )

theorem toI0_0 {sp : List Sp} (l l' : List (Ix sp))  (a b i : Nat) (ha : a ≤ 1000000) (hl : LoopC Try.prog 2 53 toNB (toN (l) (sp := sp) a b (a + 1)) (.exit 0) (toN (l') (sp := sp) a b i)) : Contract Try.prog 32 [.own 0, I (a : Int), I (b : Int), .clo (.func 28) [] [.ptr 1 0 0 0]] [.arr 1 (l.map Ix.row), .box [.sl 10 (sp.map Sp.row)]] (V.tup []) ([some (Obj.arr (1 : Nat) (List.map Ix.row l')), some (Obj.box [V.sl (10 : Nat) (List.map Sp.row sp)])]) :=
  vcP hmix [.reg 0 [(1, [.be (I ((a + 1 : Nat) : Int))], none)], .cut ⟨[0, 1, 2, 3, 8], [(0, 0), (1, 1)], []⟩ (.exit 0) (toN (l') (sp := sp) a b i)] [] [
      IntKind.wrap IntKind.i64 (Int.ofNat (a + (1 : Nat))) = Int.ofNat (a + (1 : Nat)),
      LoopC Try.prog (2 : Nat) (53 : Nat) toNB { env := [((0 : Nat), V.own (0 : Nat)), ((1 : Nat), I (Int.ofNat a)), ((2 : Nat), I (Int.ofNat b)), ((3 : Nat), V.clo (Fn.func (28 : Nat)) [] [V.ptr (1 : Nat) (0 : Nat) (0 : Nat) (0 : Nat)]), ((8 : Nat), I (Int.ofNat (a + (1 : Nat))))], st := [((0 : Nat), Obj.arr (1 : Nat) (List.map Ix.row l)), ((1 : Nat), Obj.box [V.sl (10 : Nat) (List.map Sp.row sp)])], ids := [(0 : Nat), (1 : Nat), (0 : Nat), (1 : Nat)] } (Ex.exit (0 : Nat)) { env := [((0 : Nat), V.own (0 : Nat)), ((1 : Nat), I (Int.ofNat a)), ((2 : Nat), I (Int.ofNat b)), ((3 : Nat), V.clo (Fn.func (28 : Nat)) [] [V.ptr (1 : Nat) (0 : Nat) (0 : Nat) (0 : Nat)]), ((8 : Nat), I (Int.ofNat i))], st := [((0 : Nat), Obj.arr (1 : Nat) (List.map Ix.row l')), ((1 : Nat), Obj.box [V.sl (10 : Nat) (List.map Sp.row sp)])], ids := [(0 : Nat), (1 : Nat), (0 : Nat), (1 : Nat)] }] (by kernel_rfl)
    (by
      simp only [allP]
      and_intros <;> first
        | exact hl
        | exact i64_small (by simp; omega))

theorem toI0 {sp : List Sp} (l l' : List (Ix sp))  (a b i : Nat) (ha : a ≤ 1000000) (hl : LoopC Try.prog 2 53 toNB (toN (l) (sp := sp) a b (a + 1)) (.exit 0) (toN (l') (sp := sp) a b i)) : Contract Try.prog 32 [.own 0, I (a : Int), I (b : Int), .clo (.func 28) [] [.ptr 1 0 0 0]] [.arr 1 (l.map Ix.row), .box [.sl 10 (sp.map Sp.row)]] (.tup []) [some (.arr 1 ((l').map Ix.row)), some (.box [.sl 10 (sp.map Sp.row)])] := by
  exact Contract.cast (by
    first
      | rfl) (by
    first
      | rfl) (toI0_0 l l' a b i ha hl )

theorem toNin {sp : List Sp}  (ho : Swo (toLt (sp := sp))) (P : List (Ix sp)) (b : Nat) : ∀ (n : Nat) (S T R : List (Ix sp)), T.length = n → b = P.length + S.length + T.length → P.length + S.length + T.length + R.length ≤ 1000000 →
    LoopC Try.prog 2 53 toNB (toN (P ++ srt (toLt (sp := sp)) S ++ (T ++ R)) (sp := sp) P.length b (P.length + S.length)) (.exit 0) (toN (P ++ srt (toLt (sp := sp)) (S ++ T) ++ R) (sp := sp) P.length b b)
  | 0, S, T, R, hn, hb, hs => by
    have : T = [] := List.eq_nil_of_length_eq_zero hn
    subst this
    simp only [List.length_nil, Nat.add_zero] at hb
    subst hb
    rw [List.append_nil, List.nil_append]
    exact LoopC.last (toNz _ (sp := sp) _ _ _ (Nat.le_refl _)) (by simp)
  | n + 1, S, [], R, hn, hb, hs => by simp at hn
  | n + 1, S, x :: T, R, hn, hb, hs => by
    simp only [List.length_cons] at hn hb hs
    obtain ⟨j, hj⟩ := toMin (sp := sp) ho P b (P.length + S.length) x (srt (toLt (sp := sp)) S) (srt_srt ho S) (T ++ R) (by rw [srt_len]; simp; omega)
    rw [srt_len] at hj
    have hr := toNgo _ _ (sp := sp) P.length b (P.length + S.length) j (by omega) (by omega) hj
    rw [← srt_snoc] at hr
    have ih := toNin (sp := sp) ho P b n (S ++ [x]) T R (by omega) (by simp; omega) (by simp; omega)
    rw [show P.length + (S ++ [x]).length = P.length + S.length + 1 by simp; omega] at ih
    simp only [List.append_assoc, List.cons_append, List.nil_append] at hr ih ⊢
    exact LoopC.next hr ih
/-- Insertion sorts a part. -/
theorem toIns {sp : List Sp}  (ho : Swo (toLt (sp := sp))) (P S R : List (Ix sp)) (a b : Nat) (ha : a = P.length) (hb : b = P.length + S.length) (hs : P.length + S.length + R.length ≤ 1000000) :
    Contract Try.prog 32 [.own 0, I (a : Int), I (b : Int), .clo (.func 28) [] [.ptr 1 0 0 0]] [.arr 1 ((P ++ S ++ R).map Ix.row), .box [.sl 10 (sp.map Sp.row)]] (.tup []) [some (.arr 1 ((P ++ srt (toLt (sp := sp)) S ++ R).map Ix.row)), some (.box [.sl 10 (sp.map Sp.row)])] := by
  subst ha
  cases S with
  | nil =>
    refine toI0 _ _ (sp := sp) _ _ (P.length + 1) (by omega) ?_
    exact LoopC.last (toNz _ (sp := sp) _ _ _ (by simp at hb; omega)) (by simp)
  | cons x S =>
    refine toI0 _ _ (sp := sp) _ _ b (by omega) ?_
    have h := toNin (sp := sp) ho P b S.length [x] S R rfl (by simp at hb ⊢; omega) (by simp at hs ⊢; omega)
    have e : srt (toLt (sp := sp)) [x] = [x] := mrg_nil_l _
    rw [e] at h
    simp only [List.append_assoc, List.cons_append, List.nil_append, List.length_cons, List.length_nil] at h ⊢
    exact h

theorem toWgo_0 {sp : List Sp} (A M' B : List (Ix sp)) (x y : (Ix sp))  (a b n i : Nat) (hi : i < n) (ha : a + i = A.length) (hb : b + i = A.length + 1 + M'.length) (hs : A.length + M'.length + B.length ≤ 1000000) : CodeC Try.prog 2 38 toWB (toW (A ++ x :: (M' ++ y :: B)) (sp := sp) a b n i) (Ex.normal) ({ env := [((0 : Nat), V.own (0 : Nat)), ((1 : Nat), I (Int.ofNat a)), ((2 : Nat), I (Int.ofNat b)), ((3 : Nat), I (Int.ofNat n)), ((10 : Nat), I (Int.ofNat (i + (1 : Nat))))], st := [((0 : Nat), Obj.arr (1 : Nat) (List.map Ix.row (A ++ y :: (M' ++ x :: B)))), ((1 : Nat), Obj.box [V.sl (10 : Nat) (List.map Sp.row sp)])], ids := [(0 : Nat), (1 : Nat), (0 : Nat), (1 : Nat)] }) :=
  runP hmix [.reg 1 [(2, [], some true)], .reg 3 [(3, [.be (I ((A.length : Nat) : Int))], none), (7, [.be (I ((A.length + 1 + M'.length : Nat) : Int))], none), (11, [.be (I ((A.length + 1 + M'.length : Nat) : Int))], none), (13, [.row (Ix.row y)], none), (17, [.be (I ((A.length : Nat) : Int))], none), (19, [.row (Ix.row x)], none), (21, [.row (Ix.row x), .beO ((A ++ y :: (M' ++ y :: B)).map Ix.row)], none), (23, [.row (Ix.row y), .beO ((A ++ y :: (M' ++ x :: B)).map Ix.row)], none)], .reg 2 [(1, [.be (I ((i + 1 : Nat) : Int))], none)]] ⟨[0, 1, 2, 3, 10], [(0, 0), (1, 1)], []⟩ [
      decide (Int.ofNat i < Int.ofNat n) = true,
      IntKind.wrap IntKind.i64 (Int.ofNat (a + i)) = Int.ofNat (List.length A),
      IntKind.wrap IntKind.i64 (Int.ofNat (b + i)) = Int.ofNat (List.length A + (1 : Nat) + List.length M'),
      IntKind.wrap IntKind.i64 (Int.ofNat (b + i)) = Int.ofNat (List.length A + (1 : Nat) + List.length M'),
      (0 : Int) ≤ Int.ofNat (List.length A + (1 : Nat) + List.length M'),
      Int.ofNat (List.length A + (1 : Nat) + List.length M') < Int.ofNat (List.length (List.map Ix.row (A ++ x :: (M' ++ y :: B)))),
      (List.map Ix.row (A ++ x :: (M' ++ y :: B)))[List.length A + (1 : Nat) + List.length M']? = some (Ix.row y),
      IntKind.wrap IntKind.i64 (Int.ofNat (a + i)) = Int.ofNat (List.length A),
      (0 : Int) ≤ Int.ofNat (List.length A),
      Int.ofNat (List.length A) < Int.ofNat (List.length (List.map Ix.row (A ++ x :: (M' ++ y :: B)))),
      (List.map Ix.row (A ++ x :: (M' ++ y :: B)))[List.length A]? = some (Ix.row x),
      (0 : Int) ≤ Int.ofNat (List.length A),
      Int.ofNat (List.length A) < Int.ofNat (List.length (List.map Ix.row (A ++ x :: (M' ++ y :: B)))),
      (List.map Ix.row (A ++ x :: (M' ++ y :: B)))[List.length A]? = some (Ix.row x),
      List.set (List.map Ix.row (A ++ x :: (M' ++ y :: B))) (List.length A) [I (Int.ofNat (Ix.n y))] = List.map Ix.row (A ++ y :: (M' ++ y :: B)),
      (0 : Int) ≤ Int.ofNat (List.length A + (1 : Nat) + List.length M'),
      Int.ofNat (List.length A + (1 : Nat) + List.length M') < Int.ofNat (List.length (List.map Ix.row (A ++ y :: (M' ++ y :: B)))),
      (List.map Ix.row (A ++ y :: (M' ++ y :: B)))[List.length A + (1 : Nat) + List.length M']? = some (Ix.row y),
      List.set (List.map Ix.row (A ++ y :: (M' ++ y :: B))) (List.length A + (1 : Nat) + List.length M') [I (Int.ofNat (Ix.n x))] = List.map Ix.row (A ++ y :: (M' ++ x :: B)),
      IntKind.wrap IntKind.i64 (Int.ofNat (i + (1 : Nat))) = Int.ofNat (i + (1 : Nat))] (by kernel_rfl)
    (by
      simp only [allP]
      and_intros <;> first
        | (simp; omega)
        | exact i64_small (by simp; omega)
        | (rw [i64_small (by simp; omega)]; simp; omega)
        | exact at3 (by omega)
        | exact at1 (by omega)
        | exact set3 (by omega)
        | exact set1 (by omega)
        | (simp; done))

theorem toWgo {sp : List Sp} (A M' B : List (Ix sp)) (x y : (Ix sp))  (a b n i : Nat) (hi : i < n) (ha : a + i = A.length) (hb : b + i = A.length + 1 + M'.length) (hs : A.length + M'.length + B.length ≤ 1000000)  : CodeC Try.prog 2 38 toWB (toW (A ++ x :: (M' ++ y :: B)) (sp := sp) a b n i) .normal (toW (A ++ y :: (M' ++ x :: B)) (sp := sp) a b n (i + 1)) := by
  exact CodeC.cast (by
    first
      | rfl) (toWgo_0 A M' B x y a b n i hi ha hb hs )

theorem toWz_0 {sp : List Sp} (l : List (Ix sp))  (a b n i : Nat) (hi : n ≤ i) : CodeC Try.prog 2 38 toWB (toW (l) (sp := sp) a b n i) (Ex.exit (0 : Nat)) ({ env := [((0 : Nat), V.own (0 : Nat)), ((1 : Nat), I (Int.ofNat a)), ((2 : Nat), I (Int.ofNat b)), ((3 : Nat), I (Int.ofNat n)), ((10 : Nat), I (Int.ofNat i))], st := [((0 : Nat), Obj.arr (1 : Nat) (List.map Ix.row l)), ((1 : Nat), Obj.box [V.sl (10 : Nat) (List.map Sp.row sp)])], ids := [(0 : Nat), (1 : Nat), (0 : Nat), (1 : Nat)] }) :=
  runP hmix [.reg 1 [(2, [], some false)]] ⟨[0, 1, 2, 3, 10], [(0, 0), (1, 1)], []⟩ [
      decide (Int.ofNat i < Int.ofNat n) = false] (by kernel_rfl)
    (by
      simp only [allP]
      and_intros <;> first
        | (simp; omega))

theorem toWz {sp : List Sp} (l : List (Ix sp))  (a b n i : Nat) (hi : n ≤ i)  : CodeC Try.prog 2 38 toWB (toW (l) (sp := sp) a b n i) (.exit 0) (toW (l) (sp := sp) a b n i) := by
  exact CodeC.cast (by
    first
      | rfl) (toWz_0 l a b n i hi )

theorem toW0_0 {sp : List Sp} (l l' : List (Ix sp))  (a b n i : Nat) (hl : LoopC Try.prog 2 38 toWB (toW (l) (sp := sp) a b n 0) (.exit 0) (toW (l') (sp := sp) a b n i)) : Contract Try.prog 35 [.own 0, I (a : Int), I (b : Int), I (n : Int), .clo (.func 28) [] [.ptr 1 0 0 0]] [.arr 1 (l.map Ix.row), .box [.sl 10 (sp.map Sp.row)]] (V.tup []) ([some (Obj.arr (1 : Nat) (List.map Ix.row l')), some (Obj.box [V.sl (10 : Nat) (List.map Sp.row sp)])]) :=
  vcP hmix [.cut ⟨[0, 1, 2, 3, 10], [(0, 0), (1, 1)], []⟩ (.exit 0) (toW (l') (sp := sp) a b n i)] [] [
      LoopC Try.prog (2 : Nat) (38 : Nat) toWB { env := [((0 : Nat), V.own (0 : Nat)), ((1 : Nat), I (Int.ofNat a)), ((2 : Nat), I (Int.ofNat b)), ((3 : Nat), I (Int.ofNat n)), ((10 : Nat), I (0 : Int))], st := [((0 : Nat), Obj.arr (1 : Nat) (List.map Ix.row l)), ((1 : Nat), Obj.box [V.sl (10 : Nat) (List.map Sp.row sp)])], ids := [(0 : Nat), (1 : Nat), (0 : Nat), (1 : Nat)] } (Ex.exit (0 : Nat)) { env := [((0 : Nat), V.own (0 : Nat)), ((1 : Nat), I (Int.ofNat a)), ((2 : Nat), I (Int.ofNat b)), ((3 : Nat), I (Int.ofNat n)), ((10 : Nat), I (Int.ofNat i))], st := [((0 : Nat), Obj.arr (1 : Nat) (List.map Ix.row l')), ((1 : Nat), Obj.box [V.sl (10 : Nat) (List.map Sp.row sp)])], ids := [(0 : Nat), (1 : Nat), (0 : Nat), (1 : Nat)] }] (by kernel_rfl)
    (by
      simp only [allP]
      and_intros <;> first
        | exact hl)

theorem toW0 {sp : List Sp} (l l' : List (Ix sp))  (a b n i : Nat) (hl : LoopC Try.prog 2 38 toWB (toW (l) (sp := sp) a b n 0) (.exit 0) (toW (l') (sp := sp) a b n i)) : Contract Try.prog 35 [.own 0, I (a : Int), I (b : Int), I (n : Int), .clo (.func 28) [] [.ptr 1 0 0 0]] [.arr 1 (l.map Ix.row), .box [.sl 10 (sp.map Sp.row)]] (.tup []) [some (.arr 1 ((l').map Ix.row)), some (.box [.sl 10 (sp.map Sp.row)])] := by
  exact Contract.cast (by
    first
      | rfl) (by
    first
      | rfl) (toW0_0 l l' a b n i hl )

theorem toWin {sp : List Sp}  (P M' Q : List (Ix sp)) (a b n : Nat) : ∀ (U V U' V' : List (Ix sp)), U.length = V.length → U'.length = V'.length → U'.length + U.length = n → a = P.length → b = P.length + n + M'.length → P.length + M'.length + Q.length + 2 * n ≤ 1000000 →
    LoopC Try.prog 2 38 toWB (toW (P ++ V' ++ U ++ M' ++ U' ++ V ++ Q) (sp := sp) a b n U'.length) (.exit 0) (toW (P ++ (V' ++ V) ++ M' ++ (U' ++ U) ++ Q) (sp := sp) a b n n)
  | [], [], U', V', h1, h2, h3, ha, hb, hs => by
    simp only [List.length_nil, Nat.add_zero] at h3
    subst h3
    simp only [List.append_nil]
    exact LoopC.last (toWz _ (sp := sp) _ _ _ _ (Nat.le_refl _)) (by simp)
  | [], _ :: _, _, _, h1, _, _, _, _, _ => by simp at h1
  | _ :: _, [], _, _, h1, _, _, _, _, _ => by simp at h1
  | x :: U, y :: V, U', V', h1, h2, h3, ha, hb, hs => by
    simp only [List.length_cons] at h1 h3
    have hr := toWgo (P ++ V') (U ++ M' ++ U') (V ++ Q) x y (sp := sp) a b n U'.length (by omega) (by simp; omega) (by simp; omega) (by simp; omega)
    have ih := toWin (sp := sp) P M' Q a b n U V (U' ++ [x]) (V' ++ [y]) (by omega) (by simp; omega) (by simp; omega) ha hb hs
    rw [show (U' ++ [x]).length = U'.length + 1 by simp] at ih
    simp only [List.append_assoc, List.cons_append, List.nil_append] at hr ih ⊢
    exact LoopC.next hr ih
theorem toSwap {sp : List Sp}  (P U M' V Q : List (Ix sp)) (a b n : Nat) (h1 : U.length = n) (h2 : V.length = n) (ha : a = P.length) (hb : b = P.length + n + M'.length) (hs : P.length + M'.length + Q.length + 2 * n ≤ 1000000) :
    Contract Try.prog 35 [.own 0, I (a : Int), I (b : Int), I (n : Int), .clo (.func 28) [] [.ptr 1 0 0 0]] [.arr 1 ((P ++ U ++ M' ++ V ++ Q).map Ix.row), .box [.sl 10 (sp.map Sp.row)]] (.tup []) [some (.arr 1 ((P ++ V ++ M' ++ U ++ Q).map Ix.row)), some (.box [.sl 10 (sp.map Sp.row)])] := by
  refine toW0 _ _ (sp := sp) _ _ _ n ?_
  have h := toWin (sp := sp) P M' Q a b n U V [] [] (by omega) rfl (by simpa using h1) ha hb hs
  simpa using h

theorem toRgt_0 {sp : List Sp} (l l' : List (Ix sp))  (m i j : Nat) (hij : j < i) (hm : i ≤ m) (hs : m + j ≤ 1000000) (hc : Contract Try.prog 35 [.own 0, I ((m - i : Nat) : Int), I ((m : Nat) : Int), I ((j : Nat) : Int), .clo (.func 28) [] [.ptr 1 0 0 0]] [.arr 1 (l.map Ix.row), .box [.sl 10 (sp.map Sp.row)]] (.tup []) [some (.arr 1 ((l').map Ix.row)), some (.box [.sl 10 (sp.map Sp.row)])]) : CodeC Try.prog 2 58 toRB (toR (l) (sp := sp) m i j) (Ex.normal) ({ env := [((0 : Nat), V.own (0 : Nat)), ((2 : Nat), I (Int.ofNat m)), ((4 : Nat), V.clo (Fn.func (28 : Nat)) [] [V.ptr (1 : Nat) (0 : Nat) (0 : Nat) (0 : Nat)]), ((10 : Nat), I (Int.ofNat (i - j))), ((11 : Nat), I (Int.ofNat j))], st := [((0 : Nat), Obj.arr (1 : Nat) (List.map Ix.row l')), ((1 : Nat), Obj.box [V.sl (10 : Nat) (List.map Sp.row sp)])], ids := [(0 : Nat), (1 : Nat), (0 : Nat), (1 : Nat)] }) :=
  runP hmix [.reg 2 [(2, [], some true)], .reg 3 [(2, [], some true)], .reg 4 [(3, [.be (I ((m - i : Nat) : Int))], none), (7, [.call [0, 1] [] (.tup []) [some (.arr 1 ((l').map Ix.row)), some (.box [.sl 10 (sp.map Sp.row)])]], none)], .reg 5 [(2, [.be (I ((i - j : Nat) : Int))], none)]] ⟨[0, 2, 4, 10, 11], [(0, 0), (1, 1)], []⟩ [
      (Int.ofNat i != Int.ofNat j) = true,
      decide (Int.ofNat i > Int.ofNat j) = true,
      IntKind.wrap IntKind.i64 (Int.ofNat m + -Int.ofNat i) = Int.ofNat (m - i),
      Contract Try.prog (35 : Nat) [V.own (0 : Nat), I (Int.ofNat (m - i)), I (Int.ofNat m), I (Int.ofNat j), V.clo (Fn.func (28 : Nat)) [] [V.ptr (1 : Nat) (0 : Nat) (0 : Nat) (0 : Nat)]] [Obj.arr (1 : Nat) (List.map Ix.row l), Obj.box [V.sl (10 : Nat) (List.map Sp.row sp)]] (V.tup []) [some (Obj.arr (1 : Nat) (List.map Ix.row l')), some (Obj.box [V.sl (10 : Nat) (List.map Sp.row sp)])],
      IntKind.wrap IntKind.i64 (Int.ofNat i + -Int.ofNat j) = Int.ofNat (i - j)] (by kernel_rfl)
    (by
      simp only [allP]
      and_intros <;> first
        | omega
        | (simp; omega)
        | (rw [i64_small (by simp; omega)]; simp; omega))

theorem toRgt {sp : List Sp} (l l' : List (Ix sp))  (m i j : Nat) (hij : j < i) (hm : i ≤ m) (hs : m + j ≤ 1000000) (hc : Contract Try.prog 35 [.own 0, I ((m - i : Nat) : Int), I ((m : Nat) : Int), I ((j : Nat) : Int), .clo (.func 28) [] [.ptr 1 0 0 0]] [.arr 1 (l.map Ix.row), .box [.sl 10 (sp.map Sp.row)]] (.tup []) [some (.arr 1 ((l').map Ix.row)), some (.box [.sl 10 (sp.map Sp.row)])])  : CodeC Try.prog 2 58 toRB (toR (l) (sp := sp) m i j) .normal (toR (l') (sp := sp) m (i - j) j) := by
  exact CodeC.cast (by
    first
      | rfl) (toRgt_0 l l' m i j hij hm hs hc )

theorem toRlt_0 {sp : List Sp} (l l' : List (Ix sp))  (m i j : Nat) (hij : i < j) (hm : i ≤ m) (hs : m + j ≤ 1000000) (hc : Contract Try.prog 35 [.own 0, I ((m - i : Nat) : Int), I ((m + j - i : Nat) : Int), I ((i : Nat) : Int), .clo (.func 28) [] [.ptr 1 0 0 0]] [.arr 1 (l.map Ix.row), .box [.sl 10 (sp.map Sp.row)]] (.tup []) [some (.arr 1 ((l').map Ix.row)), some (.box [.sl 10 (sp.map Sp.row)])]) : CodeC Try.prog 2 58 toRB (toR (l) (sp := sp) m i j) (Ex.normal) ({ env := [((0 : Nat), V.own (0 : Nat)), ((2 : Nat), I (Int.ofNat m)), ((4 : Nat), V.clo (Fn.func (28 : Nat)) [] [V.ptr (1 : Nat) (0 : Nat) (0 : Nat) (0 : Nat)]), ((10 : Nat), I (Int.ofNat i)), ((11 : Nat), I (Int.ofNat (j - i)))], st := [((0 : Nat), Obj.arr (1 : Nat) (List.map Ix.row l')), ((1 : Nat), Obj.box [V.sl (10 : Nat) (List.map Sp.row sp)])], ids := [(0 : Nat), (1 : Nat), (0 : Nat), (1 : Nat)] }) :=
  runP hmix [.reg 2 [(2, [], some true)], .reg 3 [(2, [], some false)], .reg 6 [(3, [.be (I ((m - i : Nat) : Int))], none), (6, [.be (I ((m + j : Nat) : Int))], none), (8, [.be (I ((m + j - i : Nat) : Int))], none), (11, [.call [0, 1] [] (.tup []) [some (.arr 1 ((l').map Ix.row)), some (.box [.sl 10 (sp.map Sp.row)])]], none)], .reg 7 [(2, [.be (I ((j - i : Nat) : Int))], none)]] ⟨[0, 2, 4, 10, 11], [(0, 0), (1, 1)], []⟩ [
      (Int.ofNat i != Int.ofNat j) = true,
      decide (Int.ofNat i > Int.ofNat j) = false,
      IntKind.wrap IntKind.i64 (Int.ofNat m + -Int.ofNat i) = Int.ofNat (m - i),
      IntKind.wrap IntKind.i64 (Int.ofNat (m + j)) = Int.ofNat (m + j),
      IntKind.wrap IntKind.i64 (Int.ofNat (m + j) + -Int.ofNat i) = Int.ofNat (m + j - i),
      Contract Try.prog (35 : Nat) [V.own (0 : Nat), I (Int.ofNat (m - i)), I (Int.ofNat (m + j - i)), I (Int.ofNat i), V.clo (Fn.func (28 : Nat)) [] [V.ptr (1 : Nat) (0 : Nat) (0 : Nat) (0 : Nat)]] [Obj.arr (1 : Nat) (List.map Ix.row l), Obj.box [V.sl (10 : Nat) (List.map Sp.row sp)]] (V.tup []) [some (Obj.arr (1 : Nat) (List.map Ix.row l')), some (Obj.box [V.sl (10 : Nat) (List.map Sp.row sp)])],
      IntKind.wrap IntKind.i64 (Int.ofNat j + -Int.ofNat i) = Int.ofNat (j - i)] (by kernel_rfl)
    (by
      simp only [allP]
      and_intros <;> first
        | omega
        | (simp; omega)
        | exact i64_small (by simp; omega)
        | (rw [i64_small (by simp; omega)]; simp; omega))

theorem toRlt {sp : List Sp} (l l' : List (Ix sp))  (m i j : Nat) (hij : i < j) (hm : i ≤ m) (hs : m + j ≤ 1000000) (hc : Contract Try.prog 35 [.own 0, I ((m - i : Nat) : Int), I ((m + j - i : Nat) : Int), I ((i : Nat) : Int), .clo (.func 28) [] [.ptr 1 0 0 0]] [.arr 1 (l.map Ix.row), .box [.sl 10 (sp.map Sp.row)]] (.tup []) [some (.arr 1 ((l').map Ix.row)), some (.box [.sl 10 (sp.map Sp.row)])])  : CodeC Try.prog 2 58 toRB (toR (l) (sp := sp) m i j) .normal (toR (l') (sp := sp) m i (j - i)) := by
  exact CodeC.cast (by
    first
      | rfl) (toRlt_0 l l' m i j hij hm hs hc )

theorem toReq_0 {sp : List Sp} (l : List (Ix sp))  (m i : Nat)  : CodeC Try.prog 2 58 toRB (toR (l) (sp := sp) m i i) (Ex.exit (0 : Nat)) ({ env := [((0 : Nat), V.own (0 : Nat)), ((2 : Nat), I (Int.ofNat m)), ((4 : Nat), V.clo (Fn.func (28 : Nat)) [] [V.ptr (1 : Nat) (0 : Nat) (0 : Nat) (0 : Nat)]), ((10 : Nat), I (Int.ofNat i)), ((11 : Nat), I (Int.ofNat i))], st := [((0 : Nat), Obj.arr (1 : Nat) (List.map Ix.row l)), ((1 : Nat), Obj.box [V.sl (10 : Nat) (List.map Sp.row sp)])], ids := [(0 : Nat), (1 : Nat), (0 : Nat), (1 : Nat)] }) :=
  runP hmix [.reg 2 [(2, [], some false)]] ⟨[0, 2, 4, 10, 11], [(0, 0), (1, 1)], []⟩ [
      (Int.ofNat i != Int.ofNat i) = false] (by kernel_rfl)
    (by
      simp only [allP]
      and_intros <;> first
        | (simp; done))

theorem toReq {sp : List Sp} (l : List (Ix sp))  (m i : Nat)   : CodeC Try.prog 2 58 toRB (toR (l) (sp := sp) m i i) (.exit 0) (toR (l) (sp := sp) m i i) := by
  exact CodeC.cast (by
    first
      | rfl) (toReq_0 l m i  )

theorem toR0_0 {sp : List Sp} (l l1 l' : List (Ix sp))  (a m b i : Nat) (ham : a ≤ m) (hmb : m ≤ b) (hs : b ≤ 1000000) (hi : i ≤ m) (hl : LoopC Try.prog 2 58 toRB (toR (l) (sp := sp) m (m - a) (b - m)) (.exit 0) (toR (l1) (sp := sp) m i i)) (hc : Contract Try.prog 35 [.own 0, I ((m - i : Nat) : Int), I (m : Int), I (i : Int), .clo (.func 28) [] [.ptr 1 0 0 0]] [.arr 1 ((l1).map Ix.row), .box [.sl 10 (sp.map Sp.row)]] (.tup []) [some (.arr 1 ((l').map Ix.row)), some (.box [.sl 10 (sp.map Sp.row)])]) : Contract Try.prog 34 [.own 0, I (a : Int), I (m : Int), I (b : Int), .clo (.func 28) [] [.ptr 1 0 0 0]] [.arr 1 (l.map Ix.row), .box [.sl 10 (sp.map Sp.row)]] (V.tup []) ([some (Obj.arr (1 : Nat) (List.map Ix.row l')), some (Obj.box [V.sl (10 : Nat) (List.map Sp.row sp)])]) :=
  vcP hmix [.reg 0 [(2, [.be (I ((m - a : Nat) : Int))], none)], .reg 1 [(2, [.be (I ((b - m : Nat) : Int))], none)], .cut ⟨[0, 2, 4, 10, 11], [(0, 0), (1, 1)], []⟩ (.exit 0) (toR (l1) (sp := sp) m i i), .reg 8 [(3, [.be (I ((m - i : Nat) : Int))], none), (7, [.call [0, 1] [] (.tup []) [some (.arr 1 ((l').map Ix.row)), some (.box [.sl 10 (sp.map Sp.row)])]], none)]] [] [
      IntKind.wrap IntKind.i64 (Int.ofNat m + -Int.ofNat a) = Int.ofNat (m - a),
      IntKind.wrap IntKind.i64 (Int.ofNat b + -Int.ofNat m) = Int.ofNat (b - m),
      LoopC Try.prog (2 : Nat) (58 : Nat) toRB { env := [((0 : Nat), V.own (0 : Nat)), ((2 : Nat), I (Int.ofNat m)), ((4 : Nat), V.clo (Fn.func (28 : Nat)) [] [V.ptr (1 : Nat) (0 : Nat) (0 : Nat) (0 : Nat)]), ((10 : Nat), I (Int.ofNat (m - a))), ((11 : Nat), I (Int.ofNat (b - m)))], st := [((0 : Nat), Obj.arr (1 : Nat) (List.map Ix.row l)), ((1 : Nat), Obj.box [V.sl (10 : Nat) (List.map Sp.row sp)])], ids := [(0 : Nat), (1 : Nat), (0 : Nat), (1 : Nat)] } (Ex.exit (0 : Nat)) { env := [((0 : Nat), V.own (0 : Nat)), ((2 : Nat), I (Int.ofNat m)), ((4 : Nat), V.clo (Fn.func (28 : Nat)) [] [V.ptr (1 : Nat) (0 : Nat) (0 : Nat) (0 : Nat)]), ((10 : Nat), I (Int.ofNat i)), ((11 : Nat), I (Int.ofNat i))], st := [((0 : Nat), Obj.arr (1 : Nat) (List.map Ix.row l1)), ((1 : Nat), Obj.box [V.sl (10 : Nat) (List.map Sp.row sp)])], ids := [(0 : Nat), (1 : Nat), (0 : Nat), (1 : Nat)] },
      IntKind.wrap IntKind.i64 (Int.ofNat m + -Int.ofNat i) = Int.ofNat (m - i),
      Contract Try.prog (35 : Nat) [V.own (0 : Nat), I (Int.ofNat (m - i)), I (Int.ofNat m), I (Int.ofNat i), V.clo (Fn.func (28 : Nat)) [] [V.ptr (1 : Nat) (0 : Nat) (0 : Nat) (0 : Nat)]] [Obj.arr (1 : Nat) (List.map Ix.row l1), Obj.box [V.sl (10 : Nat) (List.map Sp.row sp)]] (V.tup []) [some (Obj.arr (1 : Nat) (List.map Ix.row l')), some (Obj.box [V.sl (10 : Nat) (List.map Sp.row sp)])]] (by kernel_rfl)
    (by
      simp only [allP]
      and_intros <;> first
        | omega
        | exact hl
        | (rw [i64_small (by simp; omega)]; simp; omega))

theorem toR0 {sp : List Sp} (l l1 l' : List (Ix sp))  (a m b i : Nat) (ham : a ≤ m) (hmb : m ≤ b) (hs : b ≤ 1000000) (hi : i ≤ m) (hl : LoopC Try.prog 2 58 toRB (toR (l) (sp := sp) m (m - a) (b - m)) (.exit 0) (toR (l1) (sp := sp) m i i)) (hc : Contract Try.prog 35 [.own 0, I ((m - i : Nat) : Int), I (m : Int), I (i : Int), .clo (.func 28) [] [.ptr 1 0 0 0]] [.arr 1 ((l1).map Ix.row), .box [.sl 10 (sp.map Sp.row)]] (.tup []) [some (.arr 1 ((l').map Ix.row)), some (.box [.sl 10 (sp.map Sp.row)])]) : Contract Try.prog 34 [.own 0, I (a : Int), I (m : Int), I (b : Int), .clo (.func 28) [] [.ptr 1 0 0 0]] [.arr 1 (l.map Ix.row), .box [.sl 10 (sp.map Sp.row)]] (.tup []) [some (.arr 1 ((l').map Ix.row)), some (.box [.sl 10 (sp.map Sp.row)])] := by
  exact Contract.cast (by
    first
      | rfl) (by
    first
      | rfl) (toR0_0 l l1 l' a m b i ham hmb hs hi hl hc )

theorem toRin {sp : List Sp}  (m : Nat) : ∀ (n : Nat) (P X Y Q : List (Ix sp)), X.length + Y.length ≤ n → 0 < X.length → 0 < Y.length → m = P.length + X.length → P.length + X.length + Y.length + Q.length ≤ 1000000 →
    ∃ (i : Nat) (P' U V Q' : List (Ix sp)), U.length = i ∧ V.length = i ∧ m = P'.length + i ∧ P'.length + Q'.length + 2 * i ≤ 1000000 ∧ P' ++ V ++ U ++ Q' = P ++ Y ++ X ++ Q ∧
      LoopC Try.prog 2 58 toRB (toR (P ++ X ++ Y ++ Q) (sp := sp) m X.length Y.length) (.exit 0) (toR (P' ++ U ++ V ++ Q') (sp := sp) m i i)
  | 0, P, X, Y, Q, hn, h1, h2, hm, hs => by omega
  | n + 1, P, X, Y, Q, hn, h1, h2, hm, hs => by
    rcases Nat.lt_trichotomy X.length Y.length with h | h | h
    · -- the second one is longer: its end goes ahead
      have hY : Y.take (Y.length - X.length) ++ Y.drop (Y.length - X.length) = Y := List.take_append_drop _ _
      generalize hU : Y.take (Y.length - X.length) = U at hY
      generalize hV : Y.drop (Y.length - X.length) = V at hY
      have lU : U.length = Y.length - X.length := by rw [← hU]; simp
      have lV : V.length = X.length := by rw [← hV]; simp; omega
      have hc := toSwap (sp := sp) P X U V Q (m - X.length) (m + Y.length - X.length) X.length rfl lV (by omega) (by omega) (by omega)
      obtain ⟨i, P', U', V', Q', q1, q2, q3, q4, q5, q6⟩ := toRin (sp := sp) m n P V U (X ++ Q) (by omega) (by omega) (by omega) (by omega) (by simp; omega)
      refine ⟨i, P', U', V', Q', q1, q2, q3, q4, ?_, ?_⟩
      · rw [q5, ← hY]; simp
      · have hr := toRlt (P ++ X ++ U ++ V ++ Q) (P ++ V ++ U ++ X ++ Q) (sp := sp) m X.length Y.length h (by omega) (by omega) hc
        rw [lV, lU] at q6
        rw [← hY] at hr ⊢
        simp only [List.append_assoc, List.length_append] at hr q6 ⊢
        rw [show U.length + V.length - X.length = U.length by omega] at hr
        rw [show U.length + V.length = Y.length by omega] at hr ⊢
        rw [show Y.length - X.length = U.length by omega] at q6
        exact LoopC.next hr q6
    · -- both are as long
      refine ⟨X.length, P, X, Y, Q, rfl, by omega, hm, by omega, rfl, ?_⟩
      rw [← h]
      exact LoopC.last (toReq _ (sp := sp) m _) (by simp)
    · -- the first one is longer: its beginning goes behind
      have hX : X.take Y.length ++ X.drop Y.length = X := List.take_append_drop _ _
      generalize hU : X.take Y.length = U at hX
      generalize hV : X.drop Y.length = V at hX
      have lU : U.length = Y.length := by rw [← hU]; simp; omega
      have lV : V.length = X.length - Y.length := by rw [← hV]; simp
      have hc := toSwap (sp := sp) P U V Y Q (m - X.length) m Y.length lU rfl (by omega) (by omega) (by omega)
      obtain ⟨i, P', U', V', Q', q1, q2, q3, q4, q5, q6⟩ := toRin (sp := sp) m n (P ++ Y) V U Q (by omega) (by omega) (by omega) (by simp; omega) (by simp; omega)
      refine ⟨i, P', U', V', Q', q1, q2, q3, q4, ?_, ?_⟩
      · rw [q5, ← hX]; simp
      · have hr := toRgt (P ++ U ++ V ++ Y ++ Q) (P ++ Y ++ V ++ U ++ Q) (sp := sp) m X.length Y.length h (by omega) (by omega) hc
        rw [lV, lU] at q6
        rw [← hX] at hr ⊢
        simp only [List.append_assoc, List.length_append] at hr q6 ⊢
        rw [show U.length + V.length - Y.length = V.length by omega] at hr
        rw [show X.length - Y.length = V.length by omega] at q6
        exact LoopC.next hr q6
/-- Two parts change places. -/
theorem toRot {sp : List Sp}  (P X Y Q : List (Ix sp)) (a m b : Nat) (h1 : 0 < X.length) (h2 : 0 < Y.length) (ha : a = P.length) (hm : m = P.length + X.length) (hb : b = P.length + X.length + Y.length) (hs : P.length + X.length + Y.length + Q.length ≤ 1000000) :
    Contract Try.prog 34 [.own 0, I (a : Int), I (m : Int), I (b : Int), .clo (.func 28) [] [.ptr 1 0 0 0]] [.arr 1 ((P ++ X ++ Y ++ Q).map Ix.row), .box [.sl 10 (sp.map Sp.row)]] (.tup []) [some (.arr 1 ((P ++ Y ++ X ++ Q).map Ix.row)), some (.box [.sl 10 (sp.map Sp.row)])] := by
  obtain ⟨i, P', U', V', Q', q1, q2, q3, q4, q5, q6⟩ := toRin (sp := sp) m (X.length + Y.length) P X Y Q (Nat.le_refl _) h1 h2 hm hs
  have hc := toSwap (sp := sp) P' U' [] V' Q' (m - i) m i q1 q2 (by omega) (by simp; omega) (by simp; omega)
  simp only [List.append_nil] at hc
  rw [q5] at hc
  refine toR0 _ _ _ (sp := sp) a m b i (by omega) (by omega) (by omega) (by omega) ?_ hc
  rw [show m - a = X.length by omega, show b - m = Y.length by omega]
  exact q6

end Go.Proofs.Ythhggnnfiohnpaa

/- sorting int: merging in place. -/
namespace Go.Proofs.Ythhggnnfiohnpaa
open E
set_option maxRecDepth 100000
set_option linter.unusedVariables false
set_option linter.unusedSimpArgs false

def toX {sp : List Sp} (l : List (Ix sp))  (a m b i j : Nat) : SL := ⟨[(0, .own 0), (1, I (a : Int)), (2, I (m : Int)), (3, I (b : Int)), (4, .clo (.func 28) [] [.ptr 1 0 0 0]), (10, I (i : Int)), (11, I (j : Int))], [(0, .arr 1 (l.map Ix.row)), (1, .box [.sl 10 (sp.map Sp.row)])], [0, 1, 0, 1]⟩
def toK {sp : List Sp} (l : List (Ix sp))  (i k : Nat) : SL := ⟨[(0, .own 0), (10, I (i : Int)), (13, I (k : Int))], [(0, .arr 1 (l.map Ix.row)), (1, .box [.sl 10 (sp.map Sp.row)])], [0, 1, 0, 1]⟩
def toY {sp : List Sp} (l : List (Ix sp))  (a m b i j : Nat) : SL := ⟨[(0, .own 0), (1, I (a : Int)), (2, I (m : Int)), (3, I (b : Int)), (4, .clo (.func 28) [] [.ptr 1 0 0 0]), (14, I (i : Int)), (15, I (j : Int))], [(0, .arr 1 (l.map Ix.row)), (1, .box [.sl 10 (sp.map Sp.row)])], [0, 1, 0, 1]⟩
def toH {sp : List Sp} (l : List (Ix sp))  (i k : Nat) : SL := ⟨[(0, .own 0), (14, I (i : Int)), (17, I (k : Int))], [(0, .arr 1 (l.map Ix.row)), (1, .box [.sl 10 (sp.map Sp.row)])], [0, 1, 0, 1]⟩
def toZ {sp : List Sp} (l : List (Ix sp))  (a m b mid n i j p : Nat) : SL := ⟨[(0, .own 0), (1, I (a : Int)), (2, I (m : Int)), (3, I (b : Int)), (4, .clo (.func 28) [] [.ptr 1 0 0 0]), (18, I (mid : Int)), (19, I (n : Int)), (20, I (i : Int)), (21, I (j : Int)), (22, I (p : Int))], [(0, .arr 1 (l.map Ix.row)), (1, .box [.sl 10 (sp.map Sp.row)])], [0, 1, 0, 1]⟩
def toT {sp : List Sp} (l : List (Ix sp))  (a m b mid s e : Nat) : SL := ⟨[(0, .own 0), (1, I (a : Int)), (2, I (m : Int)), (3, I (b : Int)), (4, .clo (.func 28) [] [.ptr 1 0 0 0]), (18, I (mid : Int)), (20, I (s : Int)), (24, I (e : Int))], [(0, .arr 1 (l.map Ix.row)), (1, .box [.sl 10 (sp.map Sp.row)])], [0, 1, 0, 1]⟩
noncomputable def toXB : Code := codeAt Try.prog 33 [false, true, false, true, true, false, false, false]

noncomputable def toKB : Code := codeAt Try.prog 33 [false, true, false, true, true, true, false, true, false, false]

noncomputable def toYB : Code := codeAt Try.prog 33 [true, false, true, false, true, true, false, false, false]

noncomputable def toHB : Code := codeAt Try.prog 33 [true, false, true, false, true, true, true, false, true, false, false]

noncomputable def toZB : Code := codeAt Try.prog 33 [true, true, true, true, true, true, true, false, false, false]

noncomputable def toT1B : Code := codeAt Try.prog 33 [true, true, true, true, true, true, true, true, true]

noncomputable def toT2B : Code := codeAt Try.prog 33 [true, true, true, true, true, true, true, true, true, true]

noncomputable def toT3B : Code := codeAt Try.prog 33 [true, true, true, true, true, true, true, true, true, true, true]

theorem toXgo_0 {sp : List Sp} (l : List (Ix sp))  (a m b i j : Nat) (x y : (Ix sp)) (hij : i < j) (hs : j ≤ 1000000) (hx : l[((i + j) / 2)]? = some x) (hy : l[a]? = some y) (hb : toLt (sp := sp) x y = true) : CodeC Try.prog 2 220 toXB (toX (l) (sp := sp) a m b i j) (Ex.normal) ({ env := [((0 : Nat), V.own (0 : Nat)), ((1 : Nat), I (Int.ofNat a)), ((2 : Nat), I (Int.ofNat m)), ((3 : Nat), I (Int.ofNat b)), ((4 : Nat), V.clo (Fn.func (28 : Nat)) [] [V.ptr (1 : Nat) (0 : Nat) (0 : Nat) (0 : Nat)]), ((10 : Nat), I (Int.ofNat ((i + j) / (2 : Nat) + (1 : Nat)))), ((11 : Nat), I (Int.ofNat j))], st := [((0 : Nat), Obj.arr (1 : Nat) (List.map Ix.row l)), ((1 : Nat), Obj.box [V.sl (10 : Nat) (List.map Sp.row sp)])], ids := [(0 : Nat), (1 : Nat), (0 : Nat), (1 : Nat)] }) :=
  runP hmix [.reg 3 [(2, [], some true)], .reg 4 [(5, [.be (I ((((i + j) / 2) : Nat) : Int))], none)], .reg 5 [(4, [.row (Ix.row x)], none), (8, [.row (Ix.row y)], none), (9, [.call [1] [] (I ((cmpX) x y)) [some (.box [.sl 10 (sp.map Sp.row)])]], none), (10, [], some true)], .reg 6 [(1, [.be (I ((((i + j) / 2) + 1 : Nat) : Int))], none)]] ⟨[0, 1, 2, 3, 4, 10, 11], [(0, 0), (1, 1)], []⟩ [
      decide (Int.ofNat i < Int.ofNat j) = true,
      IntKind.wrap IntKind.i64 (Int.fdiv (IntKind.wrap IntKind.u64 (IntKind.wrap IntKind.i64 (Int.ofNat (i + j)))) (2 : Int)) = Int.ofNat ((i + j) / (2 : Nat)),
      (0 : Int) ≤ Int.ofNat ((i + j) / (2 : Nat)),
      Int.ofNat ((i + j) / (2 : Nat)) < Int.ofNat (List.length (List.map Ix.row l)),
      (List.map Ix.row l)[(i + j) / (2 : Nat)]? = some (Ix.row x),
      (0 : Int) ≤ Int.ofNat a,
      Int.ofNat a < Int.ofNat (List.length (List.map Ix.row l)),
      (List.map Ix.row l)[a]? = some (Ix.row y),
      Contract Try.prog (28 : Nat) [I (Int.ofNat (Ix.n x)), I (Int.ofNat (Ix.n y)), V.ptr (0 : Nat) (0 : Nat) (0 : Nat) (0 : Nat)] [Obj.box [V.sl (10 : Nat) (List.map Sp.row sp)]] (I (cmpX x y)) [some (Obj.box [V.sl (10 : Nat) (List.map Sp.row sp)])],
      decide (cmpX x y < (0 : Int)) = true,
      IntKind.wrap IntKind.i64 (Int.ofNat ((i + j) / (2 : Nat) + (1 : Nat))) = Int.ofNat ((i + j) / (2 : Nat) + (1 : Nat))] (by kernel_rfl)
    (by
      simp only [allP]
      and_intros <;> first
        | (simp; omega)
        | (simp [hx]; done)
        | (simp [hy]; done)
        | exact i64_small (by simp; omega)
        | exact cK1 x y
        | exact hb
        | exact halfW (by omega)
        | (have q := (List.getElem?_eq_some_iff.1 hx).1; simp; omega)
        | (have q := (List.getElem?_eq_some_iff.1 hy).1; simp; omega))

theorem toXgo {sp : List Sp} (l : List (Ix sp))  (a m b i j : Nat) (x y : (Ix sp)) (hij : i < j) (hs : j ≤ 1000000) (hx : l[((i + j) / 2)]? = some x) (hy : l[a]? = some y) (hb : toLt (sp := sp) x y = true)  : CodeC Try.prog 2 220 toXB (toX (l) (sp := sp) a m b i j) .normal (toX (l) (sp := sp) a m b (((i + j) / 2) + 1) j) := by
  exact CodeC.cast (by
    first
      | rfl) (toXgo_0 l a m b i j x y hij hs hx hy hb )

theorem toXba_0 {sp : List Sp} (l : List (Ix sp))  (a m b i j : Nat) (x y : (Ix sp)) (hij : i < j) (hs : j ≤ 1000000) (hx : l[((i + j) / 2)]? = some x) (hy : l[a]? = some y) (hb : toLt (sp := sp) x y = false) : CodeC Try.prog 2 220 toXB (toX (l) (sp := sp) a m b i j) (Ex.normal) ({ env := [((0 : Nat), V.own (0 : Nat)), ((1 : Nat), I (Int.ofNat a)), ((2 : Nat), I (Int.ofNat m)), ((3 : Nat), I (Int.ofNat b)), ((4 : Nat), V.clo (Fn.func (28 : Nat)) [] [V.ptr (1 : Nat) (0 : Nat) (0 : Nat) (0 : Nat)]), ((10 : Nat), I (Int.ofNat i)), ((11 : Nat), I (Int.ofNat ((i + j) / (2 : Nat))))], st := [((0 : Nat), Obj.arr (1 : Nat) (List.map Ix.row l)), ((1 : Nat), Obj.box [V.sl (10 : Nat) (List.map Sp.row sp)])], ids := [(0 : Nat), (1 : Nat), (0 : Nat), (1 : Nat)] }) :=
  runP hmix [.reg 3 [(2, [], some true)], .reg 4 [(5, [.be (I ((((i + j) / 2) : Nat) : Int))], none)], .reg 5 [(4, [.row (Ix.row x)], none), (8, [.row (Ix.row y)], none), (9, [.call [1] [] (I ((cmpX) x y)) [some (.box [.sl 10 (sp.map Sp.row)])]], none), (10, [], some false)]] ⟨[0, 1, 2, 3, 4, 10, 11], [(0, 0), (1, 1)], []⟩ [
      decide (Int.ofNat i < Int.ofNat j) = true,
      IntKind.wrap IntKind.i64 (Int.fdiv (IntKind.wrap IntKind.u64 (IntKind.wrap IntKind.i64 (Int.ofNat (i + j)))) (2 : Int)) = Int.ofNat ((i + j) / (2 : Nat)),
      (0 : Int) ≤ Int.ofNat ((i + j) / (2 : Nat)),
      Int.ofNat ((i + j) / (2 : Nat)) < Int.ofNat (List.length (List.map Ix.row l)),
      (List.map Ix.row l)[(i + j) / (2 : Nat)]? = some (Ix.row x),
      (0 : Int) ≤ Int.ofNat a,
      Int.ofNat a < Int.ofNat (List.length (List.map Ix.row l)),
      (List.map Ix.row l)[a]? = some (Ix.row y),
      Contract Try.prog (28 : Nat) [I (Int.ofNat (Ix.n x)), I (Int.ofNat (Ix.n y)), V.ptr (0 : Nat) (0 : Nat) (0 : Nat) (0 : Nat)] [Obj.box [V.sl (10 : Nat) (List.map Sp.row sp)]] (I (cmpX x y)) [some (Obj.box [V.sl (10 : Nat) (List.map Sp.row sp)])],
      decide (cmpX x y < (0 : Int)) = false] (by kernel_rfl)
    (by
      simp only [allP]
      and_intros <;> first
        | (simp; omega)
        | (simp [hx]; done)
        | (simp [hy]; done)
        | exact cK1 x y
        | exact hb
        | exact halfW (by omega)
        | (have q := (List.getElem?_eq_some_iff.1 hx).1; simp; omega)
        | (have q := (List.getElem?_eq_some_iff.1 hy).1; simp; omega))

theorem toXba {sp : List Sp} (l : List (Ix sp))  (a m b i j : Nat) (x y : (Ix sp)) (hij : i < j) (hs : j ≤ 1000000) (hx : l[((i + j) / 2)]? = some x) (hy : l[a]? = some y) (hb : toLt (sp := sp) x y = false)  : CodeC Try.prog 2 220 toXB (toX (l) (sp := sp) a m b i j) .normal (toX (l) (sp := sp) a m b i ((i + j) / 2)) := by
  exact CodeC.cast (by
    first
      | rfl) (toXba_0 l a m b i j x y hij hs hx hy hb )

theorem toXz_0 {sp : List Sp} (l : List (Ix sp))  (a m b i j : Nat) (hij : j ≤ i) : CodeC Try.prog 2 220 toXB (toX (l) (sp := sp) a m b i j) (Ex.exit (0 : Nat)) ({ env := [((0 : Nat), V.own (0 : Nat)), ((1 : Nat), I (Int.ofNat a)), ((2 : Nat), I (Int.ofNat m)), ((3 : Nat), I (Int.ofNat b)), ((4 : Nat), V.clo (Fn.func (28 : Nat)) [] [V.ptr (1 : Nat) (0 : Nat) (0 : Nat) (0 : Nat)]), ((10 : Nat), I (Int.ofNat i)), ((11 : Nat), I (Int.ofNat j))], st := [((0 : Nat), Obj.arr (1 : Nat) (List.map Ix.row l)), ((1 : Nat), Obj.box [V.sl (10 : Nat) (List.map Sp.row sp)])], ids := [(0 : Nat), (1 : Nat), (0 : Nat), (1 : Nat)] }) :=
  runP hmix [.reg 3 [(2, [], some false)]] ⟨[0, 1, 2, 3, 4, 10, 11], [(0, 0), (1, 1)], []⟩ [
      decide (Int.ofNat i < Int.ofNat j) = false] (by kernel_rfl)
    (by
      simp only [allP]
      and_intros <;> first
        | (simp; omega))

theorem toXz {sp : List Sp} (l : List (Ix sp))  (a m b i j : Nat) (hij : j ≤ i)  : CodeC Try.prog 2 220 toXB (toX (l) (sp := sp) a m b i j) (.exit 0) (toX (l) (sp := sp) a m b i j) := by
  exact CodeC.cast (by
    first
      | rfl) (toXz_0 l a m b i j hij )

theorem toKgo_0 {sp : List Sp} (A B : List (Ix sp)) (x y : (Ix sp))  (i k : Nat) (hk : k = A.length) (hi : k + 1 < i) (hs : i ≤ 1000000) (hl : A.length + B.length ≤ 1000000) : CodeC Try.prog 2 220 toKB (toK (A ++ x :: y :: B) (sp := sp) i k) (Ex.normal) ({ env := [((0 : Nat), V.own (0 : Nat)), ((10 : Nat), I (Int.ofNat i)), ((13 : Nat), I (Int.ofNat (k + (1 : Nat))))], st := [((0 : Nat), Obj.arr (1 : Nat) (List.map Ix.row (A ++ y :: x :: B))), ((1 : Nat), Obj.box [V.sl (10 : Nat) (List.map Sp.row sp)])], ids := [(0 : Nat), (1 : Nat), (0 : Nat), (1 : Nat)] }) :=
  runP hmix [.reg 9 [(2, [.be (I ((i - 1 : Nat) : Int))], none), (3, [], some true)], .reg 11 [(4, [.be (I ((A.length + 1 : Nat) : Int))], none), (7, [.be (I ((A.length + 1 : Nat) : Int))], none), (9, [.row (Ix.row y)], none), (13, [.row (Ix.row x)], none), (15, [.row (Ix.row x), .beO ((A ++ y :: y :: B).map Ix.row)], none), (17, [.row (Ix.row y), .beO ((A ++ y :: x :: B).map Ix.row)], none)], .reg 10 [(1, [.be (I ((k + 1 : Nat) : Int))], none)]] ⟨[0, 10, 13], [(0, 0), (1, 1)], []⟩ [
      IntKind.wrap IntKind.i64 (Int.ofNat i + (-1 : Int)) = Int.ofNat (i - (1 : Nat)),
      decide (Int.ofNat k < Int.ofNat (i - (1 : Nat))) = true,
      IntKind.wrap IntKind.i64 (Int.ofNat (k + (1 : Nat))) = Int.ofNat (List.length A + (1 : Nat)),
      IntKind.wrap IntKind.i64 (Int.ofNat (k + (1 : Nat))) = Int.ofNat (List.length A + (1 : Nat)),
      (0 : Int) ≤ Int.ofNat (List.length A + (1 : Nat)),
      Int.ofNat (List.length A + (1 : Nat)) < Int.ofNat (List.length (List.map Ix.row (A ++ x :: y :: B))),
      (List.map Ix.row (A ++ x :: y :: B))[Int.toNat (Int.ofNat (List.length A + (1 : Nat)))]? = some (Ix.row y),
      (0 : Int) ≤ Int.ofNat k,
      Int.ofNat k < Int.ofNat (List.length (List.map Ix.row (A ++ x :: y :: B))),
      (List.map Ix.row (A ++ x :: y :: B))[k]? = some (Ix.row x),
      (0 : Int) ≤ Int.ofNat k,
      Int.ofNat k < Int.ofNat (List.length (List.map Ix.row (A ++ x :: y :: B))),
      (List.map Ix.row (A ++ x :: y :: B))[k]? = some (Ix.row x),
      List.set (List.map Ix.row (A ++ x :: y :: B)) k [I (Int.ofNat (Ix.n y))] = List.map Ix.row (A ++ y :: y :: B),
      (0 : Int) ≤ Int.ofNat (List.length A + (1 : Nat)),
      Int.ofNat (List.length A + (1 : Nat)) < Int.ofNat (List.length (List.map Ix.row (A ++ y :: y :: B))),
      (List.map Ix.row (A ++ y :: y :: B))[Int.toNat (Int.ofNat (List.length A + (1 : Nat)))]? = some (Ix.row y),
      List.set (List.map Ix.row (A ++ y :: y :: B)) (Int.toNat (Int.ofNat (List.length A + (1 : Nat)))) [I (Int.ofNat (Ix.n x))] = List.map Ix.row (A ++ y :: x :: B),
      IntKind.wrap IntKind.i64 (Int.ofNat (k + (1 : Nat))) = Int.ofNat (k + (1 : Nat))] (by kernel_rfl)
    (by
      simp only [allP]
      and_intros <;> first
        | (simp; omega)
        | exact i64_small (by simp; omega)
        | (rw [i64_small (by simp; omega)]; simp; omega)
        | exact at1 (by omega)
        | exact set1 (by omega)
        | exact set2 rfl
        | exact at2 rfl
        | (simp; done))

theorem toKgo {sp : List Sp} (A B : List (Ix sp)) (x y : (Ix sp))  (i k : Nat) (hk : k = A.length) (hi : k + 1 < i) (hs : i ≤ 1000000) (hl : A.length + B.length ≤ 1000000)  : CodeC Try.prog 2 220 toKB (toK (A ++ x :: y :: B) (sp := sp) i k) .normal (toK (A ++ y :: x :: B) (sp := sp) i (k + 1)) := by
  exact CodeC.cast (by
    first
      | rfl) (toKgo_0 A B x y i k hk hi hs hl )

theorem toKz_0 {sp : List Sp} (l : List (Ix sp))  (i k : Nat) (h1 : 1 ≤ i) (hs : i ≤ 1000000) (hi : i ≤ k + 1) : CodeC Try.prog 2 220 toKB (toK (l) (sp := sp) i k) (Ex.exit (2 : Nat)) ({ env := [((0 : Nat), V.own (0 : Nat)), ((10 : Nat), I (Int.ofNat i)), ((13 : Nat), I (Int.ofNat k))], st := [((0 : Nat), Obj.arr (1 : Nat) (List.map Ix.row l)), ((1 : Nat), Obj.box [V.sl (10 : Nat) (List.map Sp.row sp)])], ids := [(0 : Nat), (1 : Nat), (0 : Nat), (1 : Nat)] }) :=
  runP hmix [.reg 9 [(2, [.be (I ((i - 1 : Nat) : Int))], none), (3, [], some false)]] ⟨[0, 10, 13], [(0, 0), (1, 1)], []⟩ [
      IntKind.wrap IntKind.i64 (Int.ofNat i + (-1 : Int)) = Int.ofNat (i - (1 : Nat)),
      decide (Int.ofNat k < Int.ofNat (i - (1 : Nat))) = false] (by kernel_rfl)
    (by
      simp only [allP]
      and_intros <;> first
        | (simp; omega)
        | (rw [i64_small (by simp; omega)]; simp; omega))

theorem toKz {sp : List Sp} (l : List (Ix sp))  (i k : Nat) (h1 : 1 ≤ i) (hs : i ≤ 1000000) (hi : i ≤ k + 1)  : CodeC Try.prog 2 220 toKB (toK (l) (sp := sp) i k) (.exit 2) (toK (l) (sp := sp) i k) := by
  exact CodeC.cast (by
    first
      | rfl) (toKz_0 l i k h1 hs hi )

theorem toYgo_0 {sp : List Sp} (l : List (Ix sp))  (a m b i j : Nat) (x y : (Ix sp)) (hij : i < j) (hs : j ≤ 1000000) (hx : l[m]? = some x) (hy : l[((i + j) / 2)]? = some y) (hb : toLt (sp := sp) x y = false) : CodeC Try.prog 2 220 toYB (toY (l) (sp := sp) a m b i j) (Ex.normal) ({ env := [((0 : Nat), V.own (0 : Nat)), ((1 : Nat), I (Int.ofNat a)), ((2 : Nat), I (Int.ofNat m)), ((3 : Nat), I (Int.ofNat b)), ((4 : Nat), V.clo (Fn.func (28 : Nat)) [] [V.ptr (1 : Nat) (0 : Nat) (0 : Nat) (0 : Nat)]), ((14 : Nat), I (Int.ofNat ((i + j) / (2 : Nat) + (1 : Nat)))), ((15 : Nat), I (Int.ofNat j))], st := [((0 : Nat), Obj.arr (1 : Nat) (List.map Ix.row l)), ((1 : Nat), Obj.box [V.sl (10 : Nat) (List.map Sp.row sp)])], ids := [(0 : Nat), (1 : Nat), (0 : Nat), (1 : Nat)] }) :=
  runP hmix [.reg 15 [(2, [], some true)], .reg 16 [(5, [.be (I ((((i + j) / 2) : Nat) : Int))], none)], .reg 17 [(4, [.row (Ix.row x)], none), (8, [.row (Ix.row y)], none), (9, [.call [1] [] (I ((cmpX) x y)) [some (.box [.sl 10 (sp.map Sp.row)])]], none), (10, [], some false)], .reg 18 [(1, [.be (I ((((i + j) / 2) + 1 : Nat) : Int))], none)]] ⟨[0, 1, 2, 3, 4, 14, 15], [(0, 0), (1, 1)], []⟩ [
      decide (Int.ofNat i < Int.ofNat j) = true,
      IntKind.wrap IntKind.i64 (Int.fdiv (IntKind.wrap IntKind.u64 (IntKind.wrap IntKind.i64 (Int.ofNat (i + j)))) (2 : Int)) = Int.ofNat ((i + j) / (2 : Nat)),
      (0 : Int) ≤ Int.ofNat m,
      Int.ofNat m < Int.ofNat (List.length (List.map Ix.row l)),
      (List.map Ix.row l)[m]? = some (Ix.row x),
      (0 : Int) ≤ Int.ofNat ((i + j) / (2 : Nat)),
      Int.ofNat ((i + j) / (2 : Nat)) < Int.ofNat (List.length (List.map Ix.row l)),
      (List.map Ix.row l)[(i + j) / (2 : Nat)]? = some (Ix.row y),
      Contract Try.prog (28 : Nat) [I (Int.ofNat (Ix.n x)), I (Int.ofNat (Ix.n y)), V.ptr (0 : Nat) (0 : Nat) (0 : Nat) (0 : Nat)] [Obj.box [V.sl (10 : Nat) (List.map Sp.row sp)]] (I (cmpX x y)) [some (Obj.box [V.sl (10 : Nat) (List.map Sp.row sp)])],
      decide (cmpX x y < (0 : Int)) = false,
      IntKind.wrap IntKind.i64 (Int.ofNat ((i + j) / (2 : Nat) + (1 : Nat))) = Int.ofNat ((i + j) / (2 : Nat) + (1 : Nat))] (by kernel_rfl)
    (by
      simp only [allP]
      and_intros <;> first
        | (simp; omega)
        | (simp [hx]; done)
        | (simp [hy]; done)
        | exact i64_small (by simp; omega)
        | exact cK1 x y
        | exact hb
        | exact halfW (by omega)
        | (have q := (List.getElem?_eq_some_iff.1 hx).1; simp; omega)
        | (have q := (List.getElem?_eq_some_iff.1 hy).1; simp; omega))

theorem toYgo {sp : List Sp} (l : List (Ix sp))  (a m b i j : Nat) (x y : (Ix sp)) (hij : i < j) (hs : j ≤ 1000000) (hx : l[m]? = some x) (hy : l[((i + j) / 2)]? = some y) (hb : toLt (sp := sp) x y = false)  : CodeC Try.prog 2 220 toYB (toY (l) (sp := sp) a m b i j) .normal (toY (l) (sp := sp) a m b (((i + j) / 2) + 1) j) := by
  exact CodeC.cast (by
    first
      | rfl) (toYgo_0 l a m b i j x y hij hs hx hy hb )

theorem toYba_0 {sp : List Sp} (l : List (Ix sp))  (a m b i j : Nat) (x y : (Ix sp)) (hij : i < j) (hs : j ≤ 1000000) (hx : l[m]? = some x) (hy : l[((i + j) / 2)]? = some y) (hb : toLt (sp := sp) x y = true) : CodeC Try.prog 2 220 toYB (toY (l) (sp := sp) a m b i j) (Ex.normal) ({ env := [((0 : Nat), V.own (0 : Nat)), ((1 : Nat), I (Int.ofNat a)), ((2 : Nat), I (Int.ofNat m)), ((3 : Nat), I (Int.ofNat b)), ((4 : Nat), V.clo (Fn.func (28 : Nat)) [] [V.ptr (1 : Nat) (0 : Nat) (0 : Nat) (0 : Nat)]), ((14 : Nat), I (Int.ofNat i)), ((15 : Nat), I (Int.ofNat ((i + j) / (2 : Nat))))], st := [((0 : Nat), Obj.arr (1 : Nat) (List.map Ix.row l)), ((1 : Nat), Obj.box [V.sl (10 : Nat) (List.map Sp.row sp)])], ids := [(0 : Nat), (1 : Nat), (0 : Nat), (1 : Nat)] }) :=
  runP hmix [.reg 15 [(2, [], some true)], .reg 16 [(5, [.be (I ((((i + j) / 2) : Nat) : Int))], none)], .reg 17 [(4, [.row (Ix.row x)], none), (8, [.row (Ix.row y)], none), (9, [.call [1] [] (I ((cmpX) x y)) [some (.box [.sl 10 (sp.map Sp.row)])]], none), (10, [], some true)]] ⟨[0, 1, 2, 3, 4, 14, 15], [(0, 0), (1, 1)], []⟩ [
      decide (Int.ofNat i < Int.ofNat j) = true,
      IntKind.wrap IntKind.i64 (Int.fdiv (IntKind.wrap IntKind.u64 (IntKind.wrap IntKind.i64 (Int.ofNat (i + j)))) (2 : Int)) = Int.ofNat ((i + j) / (2 : Nat)),
      (0 : Int) ≤ Int.ofNat m,
      Int.ofNat m < Int.ofNat (List.length (List.map Ix.row l)),
      (List.map Ix.row l)[m]? = some (Ix.row x),
      (0 : Int) ≤ Int.ofNat ((i + j) / (2 : Nat)),
      Int.ofNat ((i + j) / (2 : Nat)) < Int.ofNat (List.length (List.map Ix.row l)),
      (List.map Ix.row l)[(i + j) / (2 : Nat)]? = some (Ix.row y),
      Contract Try.prog (28 : Nat) [I (Int.ofNat (Ix.n x)), I (Int.ofNat (Ix.n y)), V.ptr (0 : Nat) (0 : Nat) (0 : Nat) (0 : Nat)] [Obj.box [V.sl (10 : Nat) (List.map Sp.row sp)]] (I (cmpX x y)) [some (Obj.box [V.sl (10 : Nat) (List.map Sp.row sp)])],
      decide (cmpX x y < (0 : Int)) = true] (by kernel_rfl)
    (by
      simp only [allP]
      and_intros <;> first
        | (simp; omega)
        | (simp [hx]; done)
        | (simp [hy]; done)
        | exact cK1 x y
        | exact hb
        | exact halfW (by omega)
        | (have q := (List.getElem?_eq_some_iff.1 hx).1; simp; omega)
        | (have q := (List.getElem?_eq_some_iff.1 hy).1; simp; omega))

theorem toYba {sp : List Sp} (l : List (Ix sp))  (a m b i j : Nat) (x y : (Ix sp)) (hij : i < j) (hs : j ≤ 1000000) (hx : l[m]? = some x) (hy : l[((i + j) / 2)]? = some y) (hb : toLt (sp := sp) x y = true)  : CodeC Try.prog 2 220 toYB (toY (l) (sp := sp) a m b i j) .normal (toY (l) (sp := sp) a m b i ((i + j) / 2)) := by
  exact CodeC.cast (by
    first
      | rfl) (toYba_0 l a m b i j x y hij hs hx hy hb )

theorem toYz_0 {sp : List Sp} (l : List (Ix sp))  (a m b i j : Nat) (hij : j ≤ i) : CodeC Try.prog 2 220 toYB (toY (l) (sp := sp) a m b i j) (Ex.exit (4 : Nat)) ({ env := [((0 : Nat), V.own (0 : Nat)), ((1 : Nat), I (Int.ofNat a)), ((2 : Nat), I (Int.ofNat m)), ((3 : Nat), I (Int.ofNat b)), ((4 : Nat), V.clo (Fn.func (28 : Nat)) [] [V.ptr (1 : Nat) (0 : Nat) (0 : Nat) (0 : Nat)]), ((14 : Nat), I (Int.ofNat i)), ((15 : Nat), I (Int.ofNat j))], st := [((0 : Nat), Obj.arr (1 : Nat) (List.map Ix.row l)), ((1 : Nat), Obj.box [V.sl (10 : Nat) (List.map Sp.row sp)])], ids := [(0 : Nat), (1 : Nat), (0 : Nat), (1 : Nat)] }) :=
  runP hmix [.reg 15 [(2, [], some false)]] ⟨[0, 1, 2, 3, 4, 14, 15], [(0, 0), (1, 1)], []⟩ [
      decide (Int.ofNat i < Int.ofNat j) = false] (by kernel_rfl)
    (by
      simp only [allP]
      and_intros <;> first
        | (simp; omega))

theorem toYz {sp : List Sp} (l : List (Ix sp))  (a m b i j : Nat) (hij : j ≤ i)  : CodeC Try.prog 2 220 toYB (toY (l) (sp := sp) a m b i j) (.exit 4) (toY (l) (sp := sp) a m b i j) := by
  exact CodeC.cast (by
    first
      | rfl) (toYz_0 l a m b i j hij )

theorem toHgo_0 {sp : List Sp} (A B : List (Ix sp)) (x y : (Ix sp))  (i k : Nat) (hk : k = A.length + 1) (hi : i < k) (hl : A.length + B.length ≤ 1000000) : CodeC Try.prog 2 220 toHB (toH (A ++ y :: x :: B) (sp := sp) i k) (Ex.normal) ({ env := [((0 : Nat), V.own (0 : Nat)), ((14 : Nat), I (Int.ofNat i)), ((17 : Nat), I (Int.ofNat (List.length A)))], st := [((0 : Nat), Obj.arr (1 : Nat) (List.map Ix.row (A ++ x :: y :: B))), ((1 : Nat), Obj.box [V.sl (10 : Nat) (List.map Sp.row sp)])], ids := [(0 : Nat), (1 : Nat), (0 : Nat), (1 : Nat)] }) :=
  runP hmix [.reg 21 [(2, [], some true)], .reg 23 [(4, [.be (I ((A.length : Nat) : Int))], none), (7, [.be (I ((A.length : Nat) : Int))], none), (9, [.row (Ix.row y)], none), (13, [.row (Ix.row x)], none), (15, [.row (Ix.row x), .beO ((A ++ y :: y :: B).map Ix.row)], none), (17, [.row (Ix.row y), .beO ((A ++ x :: y :: B).map Ix.row)], none)], .reg 22 [(1, [.be (I ((A.length : Nat) : Int))], none)]] ⟨[0, 14, 17], [(0, 0), (1, 1)], []⟩ [
      decide (Int.ofNat k > Int.ofNat i) = true,
      IntKind.wrap IntKind.i64 (Int.ofNat k + (-1 : Int)) = Int.ofNat (List.length A),
      IntKind.wrap IntKind.i64 (Int.ofNat k + (-1 : Int)) = Int.ofNat (List.length A),
      (0 : Int) ≤ Int.ofNat (List.length A),
      Int.ofNat (List.length A) < Int.ofNat (List.length (List.map Ix.row (A ++ y :: x :: B))),
      (List.map Ix.row (A ++ y :: x :: B))[List.length A]? = some (Ix.row y),
      (0 : Int) ≤ Int.ofNat k,
      Int.ofNat k < Int.ofNat (List.length (List.map Ix.row (A ++ y :: x :: B))),
      (List.map Ix.row (A ++ y :: x :: B))[k]? = some (Ix.row x),
      (0 : Int) ≤ Int.ofNat k,
      Int.ofNat k < Int.ofNat (List.length (List.map Ix.row (A ++ y :: x :: B))),
      (List.map Ix.row (A ++ y :: x :: B))[k]? = some (Ix.row x),
      List.set (List.map Ix.row (A ++ y :: x :: B)) k [I (Int.ofNat (Ix.n y))] = List.map Ix.row (A ++ y :: y :: B),
      (0 : Int) ≤ Int.ofNat (List.length A),
      Int.ofNat (List.length A) < Int.ofNat (List.length (List.map Ix.row (A ++ y :: y :: B))),
      (List.map Ix.row (A ++ y :: y :: B))[List.length A]? = some (Ix.row y),
      List.set (List.map Ix.row (A ++ y :: y :: B)) (List.length A) [I (Int.ofNat (Ix.n x))] = List.map Ix.row (A ++ x :: y :: B),
      IntKind.wrap IntKind.i64 (Int.ofNat k + (-1 : Int)) = Int.ofNat (List.length A)] (by kernel_rfl)
    (by
      simp only [allP]
      and_intros <;> first
        | (simp; omega)
        | (rw [i64_small (by simp; omega)]; simp; omega)
        | exact at2 (by omega)
        | exact at1 (by omega)
        | exact set2 (by omega)
        | exact set1 (by omega)
        | (simp; done))

theorem toHgo {sp : List Sp} (A B : List (Ix sp)) (x y : (Ix sp))  (i k : Nat) (hk : k = A.length + 1) (hi : i < k) (hl : A.length + B.length ≤ 1000000)  : CodeC Try.prog 2 220 toHB (toH (A ++ y :: x :: B) (sp := sp) i k) .normal (toH (A ++ x :: y :: B) (sp := sp) i A.length) := by
  exact CodeC.cast (by
    first
      | rfl) (toHgo_0 A B x y i k hk hi hl )

theorem toHz_0 {sp : List Sp} (l : List (Ix sp))  (i k : Nat) (hi : k ≤ i) : CodeC Try.prog 2 220 toHB (toH (l) (sp := sp) i k) (Ex.exit (6 : Nat)) ({ env := [((0 : Nat), V.own (0 : Nat)), ((14 : Nat), I (Int.ofNat i)), ((17 : Nat), I (Int.ofNat k))], st := [((0 : Nat), Obj.arr (1 : Nat) (List.map Ix.row l)), ((1 : Nat), Obj.box [V.sl (10 : Nat) (List.map Sp.row sp)])], ids := [(0 : Nat), (1 : Nat), (0 : Nat), (1 : Nat)] }) :=
  runP hmix [.reg 21 [(2, [], some false)]] ⟨[0, 14, 17], [(0, 0), (1, 1)], []⟩ [
      decide (Int.ofNat k > Int.ofNat i) = false] (by kernel_rfl)
    (by
      simp only [allP]
      and_intros <;> first
        | (simp; omega))

theorem toHz {sp : List Sp} (l : List (Ix sp))  (i k : Nat) (hi : k ≤ i)  : CodeC Try.prog 2 220 toHB (toH (l) (sp := sp) i k) (.exit 6) (toH (l) (sp := sp) i k) := by
  exact CodeC.cast (by
    first
      | rfl) (toHz_0 l i k hi )

theorem toZgo_0 {sp : List Sp} (l : List (Ix sp))  (a m b mid n i j p : Nat) (x y : (Ix sp)) (hij : i < j) (hs : j ≤ 1000000) (hp : j ≤ p + 1) (hp2 : p ≤ 1000000) (hx : l[p - ((i + j) / 2)]? = some x) (hy : l[((i + j) / 2)]? = some y) (hb : toLt (sp := sp) x y = false) : CodeC Try.prog 2 220 toZB (toZ (l) (sp := sp) a m b mid n i j p) (Ex.normal) ({ env := [((0 : Nat), V.own (0 : Nat)), ((1 : Nat), I (Int.ofNat a)), ((2 : Nat), I (Int.ofNat m)), ((3 : Nat), I (Int.ofNat b)), ((4 : Nat), V.clo (Fn.func (28 : Nat)) [] [V.ptr (1 : Nat) (0 : Nat) (0 : Nat) (0 : Nat)]), ((18 : Nat), I (Int.ofNat mid)), ((19 : Nat), I (Int.ofNat n)), ((20 : Nat), I (Int.ofNat ((i + j) / (2 : Nat) + (1 : Nat)))), ((21 : Nat), I (Int.ofNat j)), ((22 : Nat), I (Int.ofNat p))], st := [((0 : Nat), Obj.arr (1 : Nat) (List.map Ix.row l)), ((1 : Nat), Obj.box [V.sl (10 : Nat) (List.map Sp.row sp)])], ids := [(0 : Nat), (1 : Nat), (0 : Nat), (1 : Nat)] }) :=
  runP hmix [.reg 33 [(2, [], some true)], .reg 34 [(5, [.be (I ((((i + j) / 2) : Nat) : Int))], none)], .reg 35 [(4, [.be (I ((p - ((i + j) / 2) : Nat) : Int))], none), (6, [.row (Ix.row x)], none), (10, [.row (Ix.row y)], none), (11, [.call [1] [] (I ((cmpX) x y)) [some (.box [.sl 10 (sp.map Sp.row)])]], none), (12, [], some false)], .reg 36 [(1, [.be (I ((((i + j) / 2) + 1 : Nat) : Int))], none)]] ⟨[0, 1, 2, 3, 4, 18, 19, 20, 21, 22], [(0, 0), (1, 1)], []⟩ [
      decide (Int.ofNat i < Int.ofNat j) = true,
      IntKind.wrap IntKind.i64 (Int.fdiv (IntKind.wrap IntKind.u64 (IntKind.wrap IntKind.i64 (Int.ofNat (i + j)))) (2 : Int)) = Int.ofNat ((i + j) / (2 : Nat)),
      IntKind.wrap IntKind.i64 (Int.ofNat p + -Int.ofNat ((i + j) / (2 : Nat))) = Int.ofNat (p - (i + j) / (2 : Nat)),
      (0 : Int) ≤ Int.ofNat (p - (i + j) / (2 : Nat)),
      Int.ofNat (p - (i + j) / (2 : Nat)) < Int.ofNat (List.length (List.map Ix.row l)),
      (List.map Ix.row l)[p - (i + j) / (2 : Nat)]? = some (Ix.row x),
      (0 : Int) ≤ Int.ofNat ((i + j) / (2 : Nat)),
      Int.ofNat ((i + j) / (2 : Nat)) < Int.ofNat (List.length (List.map Ix.row l)),
      (List.map Ix.row l)[(i + j) / (2 : Nat)]? = some (Ix.row y),
      Contract Try.prog (28 : Nat) [I (Int.ofNat (Ix.n x)), I (Int.ofNat (Ix.n y)), V.ptr (0 : Nat) (0 : Nat) (0 : Nat) (0 : Nat)] [Obj.box [V.sl (10 : Nat) (List.map Sp.row sp)]] (I (cmpX x y)) [some (Obj.box [V.sl (10 : Nat) (List.map Sp.row sp)])],
      decide (cmpX x y < (0 : Int)) = false,
      IntKind.wrap IntKind.i64 (Int.ofNat ((i + j) / (2 : Nat) + (1 : Nat))) = Int.ofNat ((i + j) / (2 : Nat) + (1 : Nat))] (by kernel_rfl)
    (by
      simp only [allP]
      and_intros <;> first
        | (simp; omega)
        | (simp [hx]; done)
        | (simp [hy]; done)
        | exact i64_small (by simp; omega)
        | (rw [i64_small (by simp; omega)]; simp; omega)
        | exact cK1 x y
        | exact hb
        | exact halfW (by omega)
        | (have q := (List.getElem?_eq_some_iff.1 hx).1; simp; omega)
        | (have q := (List.getElem?_eq_some_iff.1 hy).1; simp; omega))

theorem toZgo {sp : List Sp} (l : List (Ix sp))  (a m b mid n i j p : Nat) (x y : (Ix sp)) (hij : i < j) (hs : j ≤ 1000000) (hp : j ≤ p + 1) (hp2 : p ≤ 1000000) (hx : l[p - ((i + j) / 2)]? = some x) (hy : l[((i + j) / 2)]? = some y) (hb : toLt (sp := sp) x y = false)  : CodeC Try.prog 2 220 toZB (toZ (l) (sp := sp) a m b mid n i j p) .normal (toZ (l) (sp := sp) a m b mid n (((i + j) / 2) + 1) j p) := by
  exact CodeC.cast (by
    first
      | rfl) (toZgo_0 l a m b mid n i j p x y hij hs hp hp2 hx hy hb )

theorem toZba_0 {sp : List Sp} (l : List (Ix sp))  (a m b mid n i j p : Nat) (x y : (Ix sp)) (hij : i < j) (hs : j ≤ 1000000) (hp : j ≤ p + 1) (hp2 : p ≤ 1000000) (hx : l[p - ((i + j) / 2)]? = some x) (hy : l[((i + j) / 2)]? = some y) (hb : toLt (sp := sp) x y = true) : CodeC Try.prog 2 220 toZB (toZ (l) (sp := sp) a m b mid n i j p) (Ex.normal) ({ env := [((0 : Nat), V.own (0 : Nat)), ((1 : Nat), I (Int.ofNat a)), ((2 : Nat), I (Int.ofNat m)), ((3 : Nat), I (Int.ofNat b)), ((4 : Nat), V.clo (Fn.func (28 : Nat)) [] [V.ptr (1 : Nat) (0 : Nat) (0 : Nat) (0 : Nat)]), ((18 : Nat), I (Int.ofNat mid)), ((19 : Nat), I (Int.ofNat n)), ((20 : Nat), I (Int.ofNat i)), ((21 : Nat), I (Int.ofNat ((i + j) / (2 : Nat)))), ((22 : Nat), I (Int.ofNat p))], st := [((0 : Nat), Obj.arr (1 : Nat) (List.map Ix.row l)), ((1 : Nat), Obj.box [V.sl (10 : Nat) (List.map Sp.row sp)])], ids := [(0 : Nat), (1 : Nat), (0 : Nat), (1 : Nat)] }) :=
  runP hmix [.reg 33 [(2, [], some true)], .reg 34 [(5, [.be (I ((((i + j) / 2) : Nat) : Int))], none)], .reg 35 [(4, [.be (I ((p - ((i + j) / 2) : Nat) : Int))], none), (6, [.row (Ix.row x)], none), (10, [.row (Ix.row y)], none), (11, [.call [1] [] (I ((cmpX) x y)) [some (.box [.sl 10 (sp.map Sp.row)])]], none), (12, [], some true)]] ⟨[0, 1, 2, 3, 4, 18, 19, 20, 21, 22], [(0, 0), (1, 1)], []⟩ [
      decide (Int.ofNat i < Int.ofNat j) = true,
      IntKind.wrap IntKind.i64 (Int.fdiv (IntKind.wrap IntKind.u64 (IntKind.wrap IntKind.i64 (Int.ofNat (i + j)))) (2 : Int)) = Int.ofNat ((i + j) / (2 : Nat)),
      IntKind.wrap IntKind.i64 (Int.ofNat p + -Int.ofNat ((i + j) / (2 : Nat))) = Int.ofNat (p - (i + j) / (2 : Nat)),
      (0 : Int) ≤ Int.ofNat (p - (i + j) / (2 : Nat)),
      Int.ofNat (p - (i + j) / (2 : Nat)) < Int.ofNat (List.length (List.map Ix.row l)),
      (List.map Ix.row l)[p - (i + j) / (2 : Nat)]? = some (Ix.row x),
      (0 : Int) ≤ Int.ofNat ((i + j) / (2 : Nat)),
      Int.ofNat ((i + j) / (2 : Nat)) < Int.ofNat (List.length (List.map Ix.row l)),
      (List.map Ix.row l)[(i + j) / (2 : Nat)]? = some (Ix.row y),
      Contract Try.prog (28 : Nat) [I (Int.ofNat (Ix.n x)), I (Int.ofNat (Ix.n y)), V.ptr (0 : Nat) (0 : Nat) (0 : Nat) (0 : Nat)] [Obj.box [V.sl (10 : Nat) (List.map Sp.row sp)]] (I (cmpX x y)) [some (Obj.box [V.sl (10 : Nat) (List.map Sp.row sp)])],
      decide (cmpX x y < (0 : Int)) = true] (by kernel_rfl)
    (by
      simp only [allP]
      and_intros <;> first
        | (simp; omega)
        | (simp [hx]; done)
        | (simp [hy]; done)
        | (rw [i64_small (by simp; omega)]; simp; omega)
        | exact cK1 x y
        | exact hb
        | exact halfW (by omega)
        | (have q := (List.getElem?_eq_some_iff.1 hx).1; simp; omega)
        | (have q := (List.getElem?_eq_some_iff.1 hy).1; simp; omega))

theorem toZba {sp : List Sp} (l : List (Ix sp))  (a m b mid n i j p : Nat) (x y : (Ix sp)) (hij : i < j) (hs : j ≤ 1000000) (hp : j ≤ p + 1) (hp2 : p ≤ 1000000) (hx : l[p - ((i + j) / 2)]? = some x) (hy : l[((i + j) / 2)]? = some y) (hb : toLt (sp := sp) x y = true)  : CodeC Try.prog 2 220 toZB (toZ (l) (sp := sp) a m b mid n i j p) .normal (toZ (l) (sp := sp) a m b mid n i ((i + j) / 2) p) := by
  exact CodeC.cast (by
    first
      | rfl) (toZba_0 l a m b mid n i j p x y hij hs hp hp2 hx hy hb )

theorem toZz_0 {sp : List Sp} (l : List (Ix sp))  (a m b mid n i j p : Nat) (hij : j ≤ i) : CodeC Try.prog 2 220 toZB (toZ (l) (sp := sp) a m b mid n i j p) (Ex.exit (8 : Nat)) ({ env := [((0 : Nat), V.own (0 : Nat)), ((1 : Nat), I (Int.ofNat a)), ((2 : Nat), I (Int.ofNat m)), ((3 : Nat), I (Int.ofNat b)), ((4 : Nat), V.clo (Fn.func (28 : Nat)) [] [V.ptr (1 : Nat) (0 : Nat) (0 : Nat) (0 : Nat)]), ((18 : Nat), I (Int.ofNat mid)), ((19 : Nat), I (Int.ofNat n)), ((20 : Nat), I (Int.ofNat i)), ((21 : Nat), I (Int.ofNat j)), ((22 : Nat), I (Int.ofNat p))], st := [((0 : Nat), Obj.arr (1 : Nat) (List.map Ix.row l)), ((1 : Nat), Obj.box [V.sl (10 : Nat) (List.map Sp.row sp)])], ids := [(0 : Nat), (1 : Nat), (0 : Nat), (1 : Nat)] }) :=
  runP hmix [.reg 33 [(2, [], some false)]] ⟨[0, 1, 2, 3, 4, 18, 19, 20, 21, 22], [(0, 0), (1, 1)], []⟩ [
      decide (Int.ofNat i < Int.ofNat j) = false] (by kernel_rfl)
    (by
      simp only [allP]
      and_intros <;> first
        | (simp; omega))

theorem toZz {sp : List Sp} (l : List (Ix sp))  (a m b mid n i j p : Nat) (hij : j ≤ i)  : CodeC Try.prog 2 220 toZB (toZ (l) (sp := sp) a m b mid n i j p) (.exit 8) (toZ (l) (sp := sp) a m b mid n i j p) := by
  exact CodeC.cast (by
    first
      | rfl) (toZz_0 l a m b mid n i j p hij )

theorem toS1_0 {sp : List Sp} (l l' : List (Ix sp))  (a m b r k : Nat) (hm : m = a + 1) (hs : b ≤ 1000000) (hmb : m ≤ b) (hl : LoopC Try.prog 2 220 toXB (toX (l) (sp := sp) a m b m b) (.exit 0) (toX (l) (sp := sp) a m b r r)) (hk : LoopC Try.prog 2 220 toKB (toK (l) (sp := sp) r a) (.exit 2) (toK (l') (sp := sp) r k)) : Contract Try.prog 33 [.own 0, I (a : Int), I (m : Int), I (b : Int), .clo (.func 28) [] [.ptr 1 0 0 0]] [.arr 1 ((l).map Ix.row), .box [.sl 10 (sp.map Sp.row)]] (V.tup []) ([some (Obj.arr (1 : Nat) (List.map Ix.row l')), some (Obj.box [V.sl (10 : Nat) (List.map Sp.row sp)])]) :=
  vcP hmix [.reg 0 [(2, [.be (I ((m - a : Nat) : Int))], none), (3, [], some true)], .cut ⟨[0, 1, 2, 3, 4, 10, 11], [(0, 0), (1, 1)], []⟩ (.exit 0) (toX (l) (sp := sp) a m b r r), .cut ⟨[0, 10, 13], [(0, 0), (1, 1)], []⟩ (.exit 2) (toK (l') (sp := sp) r k)] [] [
      IntKind.wrap IntKind.i64 (Int.ofNat m + -Int.ofNat a) = Int.ofNat (m - a),
      (Int.ofNat (m - a) == (1 : Int)) = true,
      LoopC Try.prog (2 : Nat) (220 : Nat) toXB { env := [((0 : Nat), V.own (0 : Nat)), ((1 : Nat), I (Int.ofNat a)), ((2 : Nat), I (Int.ofNat m)), ((3 : Nat), I (Int.ofNat b)), ((4 : Nat), V.clo (Fn.func (28 : Nat)) [] [V.ptr (1 : Nat) (0 : Nat) (0 : Nat) (0 : Nat)]), ((10 : Nat), I (Int.ofNat m)), ((11 : Nat), I (Int.ofNat b))], st := [((0 : Nat), Obj.arr (1 : Nat) (List.map Ix.row l)), ((1 : Nat), Obj.box [V.sl (10 : Nat) (List.map Sp.row sp)])], ids := [(0 : Nat), (1 : Nat), (0 : Nat), (1 : Nat)] } (Ex.exit (0 : Nat)) { env := [((0 : Nat), V.own (0 : Nat)), ((1 : Nat), I (Int.ofNat a)), ((2 : Nat), I (Int.ofNat m)), ((3 : Nat), I (Int.ofNat b)), ((4 : Nat), V.clo (Fn.func (28 : Nat)) [] [V.ptr (1 : Nat) (0 : Nat) (0 : Nat) (0 : Nat)]), ((10 : Nat), I (Int.ofNat r)), ((11 : Nat), I (Int.ofNat r))], st := [((0 : Nat), Obj.arr (1 : Nat) (List.map Ix.row l)), ((1 : Nat), Obj.box [V.sl (10 : Nat) (List.map Sp.row sp)])], ids := [(0 : Nat), (1 : Nat), (0 : Nat), (1 : Nat)] },
      LoopC Try.prog (2 : Nat) (220 : Nat) toKB { env := [((0 : Nat), V.own (0 : Nat)), ((10 : Nat), I (Int.ofNat r)), ((13 : Nat), I (Int.ofNat a))], st := [((0 : Nat), Obj.arr (1 : Nat) (List.map Ix.row l)), ((1 : Nat), Obj.box [V.sl (10 : Nat) (List.map Sp.row sp)])], ids := [(0 : Nat), (1 : Nat), (0 : Nat), (1 : Nat)] } (Ex.exit (2 : Nat)) { env := [((0 : Nat), V.own (0 : Nat)), ((10 : Nat), I (Int.ofNat r)), ((13 : Nat), I (Int.ofNat k))], st := [((0 : Nat), Obj.arr (1 : Nat) (List.map Ix.row l')), ((1 : Nat), Obj.box [V.sl (10 : Nat) (List.map Sp.row sp)])], ids := [(0 : Nat), (1 : Nat), (0 : Nat), (1 : Nat)] }] (by kernel_rfl)
    (by
      simp only [allP]
      and_intros <;> first
        | (simp; omega)
        | exact hl
        | exact hk
        | (rw [i64_small (by simp; omega)]; simp; omega))

theorem toS1 {sp : List Sp} (l l' : List (Ix sp))  (a m b r k : Nat) (hm : m = a + 1) (hs : b ≤ 1000000) (hmb : m ≤ b) (hl : LoopC Try.prog 2 220 toXB (toX (l) (sp := sp) a m b m b) (.exit 0) (toX (l) (sp := sp) a m b r r)) (hk : LoopC Try.prog 2 220 toKB (toK (l) (sp := sp) r a) (.exit 2) (toK (l') (sp := sp) r k)) : Contract Try.prog 33 [.own 0, I (a : Int), I (m : Int), I (b : Int), .clo (.func 28) [] [.ptr 1 0 0 0]] [.arr 1 ((l).map Ix.row), .box [.sl 10 (sp.map Sp.row)]] (.tup []) [some (.arr 1 ((l').map Ix.row)), some (.box [.sl 10 (sp.map Sp.row)])] := by
  exact Contract.cast (by
    first
      | rfl) (by
    first
      | rfl) (toS1_0 l l' a m b r k hm hs hmb hl hk )

theorem toS2_0 {sp : List Sp} (l l' : List (Ix sp))  (a m b r k : Nat) (hm : m ≠ a + 1) (ham : a ≤ m) (hb : b = m + 1) (hs : b ≤ 1000000) (hl : LoopC Try.prog 2 220 toYB (toY (l) (sp := sp) a m b a m) (.exit 4) (toY (l) (sp := sp) a m b r r)) (hk : LoopC Try.prog 2 220 toHB (toH (l) (sp := sp) r m) (.exit 6) (toH (l') (sp := sp) r k)) : Contract Try.prog 33 [.own 0, I (a : Int), I (m : Int), I (b : Int), .clo (.func 28) [] [.ptr 1 0 0 0]] [.arr 1 ((l).map Ix.row), .box [.sl 10 (sp.map Sp.row)]] (V.tup []) ([some (Obj.arr (1 : Nat) (List.map Ix.row l')), some (Obj.box [V.sl (10 : Nat) (List.map Sp.row sp)])]) :=
  vcP hmix [.reg 0 [(2, [.be (I ((m - a : Nat) : Int))], none), (3, [], some false)], .reg 12 [(2, [.be (I ((b - m : Nat) : Int))], none), (3, [], some true)], .cut ⟨[0, 1, 2, 3, 4, 14, 15], [(0, 0), (1, 1)], []⟩ (.exit 4) (toY (l) (sp := sp) a m b r r), .cut ⟨[0, 14, 17], [(0, 0), (1, 1)], []⟩ (.exit 6) (toH (l') (sp := sp) r k)] [] [
      IntKind.wrap IntKind.i64 (Int.ofNat m + -Int.ofNat a) = Int.ofNat (m - a),
      (Int.ofNat (m - a) == (1 : Int)) = false,
      IntKind.wrap IntKind.i64 (Int.ofNat b + -Int.ofNat m) = Int.ofNat (b - m),
      (Int.ofNat (b - m) == (1 : Int)) = true,
      LoopC Try.prog (2 : Nat) (220 : Nat) toYB { env := [((0 : Nat), V.own (0 : Nat)), ((1 : Nat), I (Int.ofNat a)), ((2 : Nat), I (Int.ofNat m)), ((3 : Nat), I (Int.ofNat b)), ((4 : Nat), V.clo (Fn.func (28 : Nat)) [] [V.ptr (1 : Nat) (0 : Nat) (0 : Nat) (0 : Nat)]), ((14 : Nat), I (Int.ofNat a)), ((15 : Nat), I (Int.ofNat m))], st := [((0 : Nat), Obj.arr (1 : Nat) (List.map Ix.row l)), ((1 : Nat), Obj.box [V.sl (10 : Nat) (List.map Sp.row sp)])], ids := [(0 : Nat), (1 : Nat), (0 : Nat), (1 : Nat)] } (Ex.exit (4 : Nat)) { env := [((0 : Nat), V.own (0 : Nat)), ((1 : Nat), I (Int.ofNat a)), ((2 : Nat), I (Int.ofNat m)), ((3 : Nat), I (Int.ofNat b)), ((4 : Nat), V.clo (Fn.func (28 : Nat)) [] [V.ptr (1 : Nat) (0 : Nat) (0 : Nat) (0 : Nat)]), ((14 : Nat), I (Int.ofNat r)), ((15 : Nat), I (Int.ofNat r))], st := [((0 : Nat), Obj.arr (1 : Nat) (List.map Ix.row l)), ((1 : Nat), Obj.box [V.sl (10 : Nat) (List.map Sp.row sp)])], ids := [(0 : Nat), (1 : Nat), (0 : Nat), (1 : Nat)] },
      LoopC Try.prog (2 : Nat) (220 : Nat) toHB { env := [((0 : Nat), V.own (0 : Nat)), ((14 : Nat), I (Int.ofNat r)), ((17 : Nat), I (Int.ofNat m))], st := [((0 : Nat), Obj.arr (1 : Nat) (List.map Ix.row l)), ((1 : Nat), Obj.box [V.sl (10 : Nat) (List.map Sp.row sp)])], ids := [(0 : Nat), (1 : Nat), (0 : Nat), (1 : Nat)] } (Ex.exit (6 : Nat)) { env := [((0 : Nat), V.own (0 : Nat)), ((14 : Nat), I (Int.ofNat r)), ((17 : Nat), I (Int.ofNat k))], st := [((0 : Nat), Obj.arr (1 : Nat) (List.map Ix.row l')), ((1 : Nat), Obj.box [V.sl (10 : Nat) (List.map Sp.row sp)])], ids := [(0 : Nat), (1 : Nat), (0 : Nat), (1 : Nat)] }] (by kernel_rfl)
    (by
      simp only [allP]
      and_intros <;> first
        | (simp; omega)
        | exact hl
        | exact hk
        | (rw [i64_small (by simp; omega)]; simp; omega))

theorem toS2 {sp : List Sp} (l l' : List (Ix sp))  (a m b r k : Nat) (hm : m ≠ a + 1) (ham : a ≤ m) (hb : b = m + 1) (hs : b ≤ 1000000) (hl : LoopC Try.prog 2 220 toYB (toY (l) (sp := sp) a m b a m) (.exit 4) (toY (l) (sp := sp) a m b r r)) (hk : LoopC Try.prog 2 220 toHB (toH (l) (sp := sp) r m) (.exit 6) (toH (l') (sp := sp) r k)) : Contract Try.prog 33 [.own 0, I (a : Int), I (m : Int), I (b : Int), .clo (.func 28) [] [.ptr 1 0 0 0]] [.arr 1 ((l).map Ix.row), .box [.sl 10 (sp.map Sp.row)]] (.tup []) [some (.arr 1 ((l').map Ix.row)), some (.box [.sl 10 (sp.map Sp.row)])] := by
  exact Contract.cast (by
    first
      | rfl) (by
    first
      | rfl) (toS2_0 l l' a m b r k hm ham hb hs hl hk )

theorem toT3go_0 {sp : List Sp} (l r : List (Ix sp))  (a m b mid s e : Nat) (hq : mid < e ∧ e < b) (hc : Contract Try.prog 33 [.own 0, I ((mid : Nat) : Int), I ((e : Nat) : Int), I ((b : Nat) : Int), .clo (.func 28) [] [.ptr 1 0 0 0]] [.arr 1 ((l).map Ix.row), .box [.sl 10 (sp.map Sp.row)]] (.tup []) [some (.arr 1 ((r).map Ix.row)), some (.box [.sl 10 (sp.map Sp.row)])]) : CodeC Try.prog 2 220 toT3B (toT (l) (sp := sp) a m b mid s e) (Ex.normal) ({ env := [((0 : Nat), V.own (0 : Nat)), ((1 : Nat), I (Int.ofNat a)), ((2 : Nat), I (Int.ofNat m)), ((3 : Nat), I (Int.ofNat b)), ((4 : Nat), V.clo (Fn.func (28 : Nat)) [] [V.ptr (1 : Nat) (0 : Nat) (0 : Nat) (0 : Nat)]), ((18 : Nat), I (Int.ofNat mid)), ((20 : Nat), I (Int.ofNat s)), ((24 : Nat), I (Int.ofNat e))], st := [((0 : Nat), Obj.arr (1 : Nat) (List.map Ix.row r)), ((1 : Nat), Obj.box [V.sl (10 : Nat) (List.map Sp.row sp)])], ids := [(0 : Nat), (1 : Nat), (0 : Nat), (1 : Nat)] }) :=
  runP hmix [.reg 43 [(3, [], some true), (7, [], some true)], .reg 44 [(5, [.call [0, 1] [] (.tup []) [some (.arr 1 ((r).map Ix.row)), some (.box [.sl 10 (sp.map Sp.row)])]], none)]] ⟨[0, 1, 2, 3, 4, 18, 20, 24], [(0, 0), (1, 1)], []⟩ [
      decide (Int.ofNat mid < Int.ofNat e) = true,
      decide (Int.ofNat e < Int.ofNat b) = true,
      Contract Try.prog (33 : Nat) [V.own (0 : Nat), I (Int.ofNat mid), I (Int.ofNat e), I (Int.ofNat b), V.clo (Fn.func (28 : Nat)) [] [V.ptr (1 : Nat) (0 : Nat) (0 : Nat) (0 : Nat)]] [Obj.arr (1 : Nat) (List.map Ix.row l), Obj.box [V.sl (10 : Nat) (List.map Sp.row sp)]] (V.tup []) [some (Obj.arr (1 : Nat) (List.map Ix.row r)), some (Obj.box [V.sl (10 : Nat) (List.map Sp.row sp)])]] (by kernel_rfl)
    (by
      simp only [allP]
      and_intros <;> first
        | omega
        | (simp; omega))

theorem toT3go {sp : List Sp} (l r : List (Ix sp))  (a m b mid s e : Nat) (hq : mid < e ∧ e < b) (hc : Contract Try.prog 33 [.own 0, I ((mid : Nat) : Int), I ((e : Nat) : Int), I ((b : Nat) : Int), .clo (.func 28) [] [.ptr 1 0 0 0]] [.arr 1 ((l).map Ix.row), .box [.sl 10 (sp.map Sp.row)]] (.tup []) [some (.arr 1 ((r).map Ix.row)), some (.box [.sl 10 (sp.map Sp.row)])])  : CodeC Try.prog 2 220 toT3B (toT (l) (sp := sp) a m b mid s e) .normal (toT (r) (sp := sp) a m b mid s e) := by
  exact CodeC.cast (by
    first
      | rfl) (toT3go_0 l r a m b mid s e hq hc )

theorem toT3no_0 {sp : List Sp} (l : List (Ix sp))  (a m b mid s e : Nat) (hq : ¬ (mid < e ∧ e < b)) (tq0 : (decide (Int.ofNat mid < Int.ofNat e)) = true) : CodeC Try.prog 2 220 toT3B (toT (l) (sp := sp) a m b mid s e) (Ex.normal) ({ env := [((0 : Nat), V.own (0 : Nat)), ((1 : Nat), I (Int.ofNat a)), ((2 : Nat), I (Int.ofNat m)), ((3 : Nat), I (Int.ofNat b)), ((4 : Nat), V.clo (Fn.func (28 : Nat)) [] [V.ptr (1 : Nat) (0 : Nat) (0 : Nat) (0 : Nat)]), ((18 : Nat), I (Int.ofNat mid)), ((20 : Nat), I (Int.ofNat s)), ((24 : Nat), I (Int.ofNat e))], st := [((0 : Nat), Obj.arr (1 : Nat) (List.map Ix.row l)), ((1 : Nat), Obj.box [V.sl (10 : Nat) (List.map Sp.row sp)])], ids := [(0 : Nat), (1 : Nat), (0 : Nat), (1 : Nat)] }) :=
  runP hmix [.reg 43 [(3, [], some true), (7, [], some false)]] ⟨[0, 1, 2, 3, 4, 18, 20, 24], [(0, 0), (1, 1)], []⟩ [
      decide (Int.ofNat mid < Int.ofNat e) = true,
      decide (Int.ofNat e < Int.ofNat b) = false] (by kernel_rfl)
    (by
      have d0 := tq0
      try simp only [Int.ofNat_eq_natCast, List.length_map, Bool.not_eq_true', Bool.not_eq_false', decide_eq_true_eq, decide_eq_false_iff_not] at d0
      simp only [allP]
      and_intros <;> first
        | omega
        | (simp; omega))

theorem toT3no_1 {sp : List Sp} (l : List (Ix sp))  (a m b mid s e : Nat) (hq : ¬ (mid < e ∧ e < b)) (tq0 : (decide (Int.ofNat mid < Int.ofNat e)) = false) : CodeC Try.prog 2 220 toT3B (toT (l) (sp := sp) a m b mid s e) (Ex.normal) ({ env := [((0 : Nat), V.own (0 : Nat)), ((1 : Nat), I (Int.ofNat a)), ((2 : Nat), I (Int.ofNat m)), ((3 : Nat), I (Int.ofNat b)), ((4 : Nat), V.clo (Fn.func (28 : Nat)) [] [V.ptr (1 : Nat) (0 : Nat) (0 : Nat) (0 : Nat)]), ((18 : Nat), I (Int.ofNat mid)), ((20 : Nat), I (Int.ofNat s)), ((24 : Nat), I (Int.ofNat e))], st := [((0 : Nat), Obj.arr (1 : Nat) (List.map Ix.row l)), ((1 : Nat), Obj.box [V.sl (10 : Nat) (List.map Sp.row sp)])], ids := [(0 : Nat), (1 : Nat), (0 : Nat), (1 : Nat)] }) :=
  runP hmix [.reg 43 [(3, [], some false), (7, [], some false)]] ⟨[0, 1, 2, 3, 4, 18, 20, 24], [(0, 0), (1, 1)], []⟩ [
      decide (Int.ofNat mid < Int.ofNat e) = false,
      false = false] (by kernel_rfl)
    (by
      have d0 := tq0
      try simp only [Int.ofNat_eq_natCast, List.length_map, Bool.not_eq_true', Bool.not_eq_false', decide_eq_true_eq, decide_eq_false_iff_not] at d0
      simp only [allP]
      and_intros <;> first
        | omega
        | (simp; done))

theorem toT3no {sp : List Sp} (l : List (Ix sp))  (a m b mid s e : Nat) (hq : ¬ (mid < e ∧ e < b))  : CodeC Try.prog 2 220 toT3B (toT (l) (sp := sp) a m b mid s e) .normal (toT (l) (sp := sp) a m b mid s e) := by
  rcases tf (decide (Int.ofNat mid < Int.ofNat e)) with tq0 | tq0
  · exact CodeC.cast (by
      first
        | rfl) (toT3no_0 l a m b mid s e hq tq0)
  · exact CodeC.cast (by
      first
        | rfl) (toT3no_1 l a m b mid s e hq tq0)

theorem toT2go_0 {sp : List Sp} (l l1 r : List (Ix sp))  (a m b mid s e : Nat) (hq : a < s ∧ s < mid) (hc : Contract Try.prog 33 [.own 0, I ((a : Nat) : Int), I ((s : Nat) : Int), I ((mid : Nat) : Int), .clo (.func 28) [] [.ptr 1 0 0 0]] [.arr 1 ((l).map Ix.row), .box [.sl 10 (sp.map Sp.row)]] (.tup []) [some (.arr 1 ((l1).map Ix.row)), some (.box [.sl 10 (sp.map Sp.row)])]) (hn : CodeC Try.prog 2 220 toT3B (toT (l1) (sp := sp) a m b mid s e) .normal (toT (r) (sp := sp) a m b mid s e)) : CodeC Try.prog 2 220 toT2B (toT (l) (sp := sp) a m b mid s e) (Ex.normal) ({ env := [((0 : Nat), V.own (0 : Nat)), ((1 : Nat), I (Int.ofNat a)), ((2 : Nat), I (Int.ofNat m)), ((3 : Nat), I (Int.ofNat b)), ((4 : Nat), V.clo (Fn.func (28 : Nat)) [] [V.ptr (1 : Nat) (0 : Nat) (0 : Nat) (0 : Nat)]), ((18 : Nat), I (Int.ofNat mid)), ((20 : Nat), I (Int.ofNat s)), ((24 : Nat), I (Int.ofNat e))], st := [((0 : Nat), Obj.arr (1 : Nat) (List.map Ix.row r)), ((1 : Nat), Obj.box [V.sl (10 : Nat) (List.map Sp.row sp)])], ids := [(0 : Nat), (1 : Nat), (0 : Nat), (1 : Nat)] }) :=
  runP hmix [.reg 41 [(3, [], some true), (7, [], some true)], .reg 42 [(5, [.call [0, 1] [] (.tup []) [some (.arr 1 ((l1).map Ix.row)), some (.box [.sl 10 (sp.map Sp.row)])]], none)], .tail 43 ⟨[0, 1, 2, 3, 4, 18, 20, 24], [(0, 0), (1, 1)], []⟩ .normal (toT (r) (sp := sp) a m b mid s e)] ⟨[0, 1, 2, 3, 4, 18, 20, 24], [(0, 0), (1, 1)], []⟩ [
      decide (Int.ofNat a < Int.ofNat s) = true,
      decide (Int.ofNat s < Int.ofNat mid) = true,
      Contract Try.prog (33 : Nat) [V.own (0 : Nat), I (Int.ofNat a), I (Int.ofNat s), I (Int.ofNat mid), V.clo (Fn.func (28 : Nat)) [] [V.ptr (1 : Nat) (0 : Nat) (0 : Nat) (0 : Nat)]] [Obj.arr (1 : Nat) (List.map Ix.row l), Obj.box [V.sl (10 : Nat) (List.map Sp.row sp)]] (V.tup []) [some (Obj.arr (1 : Nat) (List.map Ix.row l1)), some (Obj.box [V.sl (10 : Nat) (List.map Sp.row sp)])],
      CodeC Try.prog (2 : Nat) (220 : Nat) toT3B { env := [((0 : Nat), V.own (0 : Nat)), ((1 : Nat), I (Int.ofNat a)), ((2 : Nat), I (Int.ofNat m)), ((3 : Nat), I (Int.ofNat b)), ((4 : Nat), V.clo (Fn.func (28 : Nat)) [] [V.ptr (1 : Nat) (0 : Nat) (0 : Nat) (0 : Nat)]), ((18 : Nat), I (Int.ofNat mid)), ((20 : Nat), I (Int.ofNat s)), ((24 : Nat), I (Int.ofNat e))], st := [((0 : Nat), Obj.arr (1 : Nat) (List.map Ix.row l1)), ((1 : Nat), Obj.box [V.sl (10 : Nat) (List.map Sp.row sp)])], ids := [(0 : Nat), (1 : Nat), (0 : Nat), (1 : Nat)] } Ex.normal { env := [((0 : Nat), V.own (0 : Nat)), ((1 : Nat), I (Int.ofNat a)), ((2 : Nat), I (Int.ofNat m)), ((3 : Nat), I (Int.ofNat b)), ((4 : Nat), V.clo (Fn.func (28 : Nat)) [] [V.ptr (1 : Nat) (0 : Nat) (0 : Nat) (0 : Nat)]), ((18 : Nat), I (Int.ofNat mid)), ((20 : Nat), I (Int.ofNat s)), ((24 : Nat), I (Int.ofNat e))], st := [((0 : Nat), Obj.arr (1 : Nat) (List.map Ix.row r)), ((1 : Nat), Obj.box [V.sl (10 : Nat) (List.map Sp.row sp)])], ids := [(0 : Nat), (1 : Nat), (0 : Nat), (1 : Nat)] }] (by kernel_rfl)
    (by
      simp only [allP]
      and_intros <;> first
        | omega
        | (simp; omega)
        | exact hn)

theorem toT2go {sp : List Sp} (l l1 r : List (Ix sp))  (a m b mid s e : Nat) (hq : a < s ∧ s < mid) (hc : Contract Try.prog 33 [.own 0, I ((a : Nat) : Int), I ((s : Nat) : Int), I ((mid : Nat) : Int), .clo (.func 28) [] [.ptr 1 0 0 0]] [.arr 1 ((l).map Ix.row), .box [.sl 10 (sp.map Sp.row)]] (.tup []) [some (.arr 1 ((l1).map Ix.row)), some (.box [.sl 10 (sp.map Sp.row)])]) (hn : CodeC Try.prog 2 220 toT3B (toT (l1) (sp := sp) a m b mid s e) .normal (toT (r) (sp := sp) a m b mid s e))  : CodeC Try.prog 2 220 toT2B (toT (l) (sp := sp) a m b mid s e) .normal (toT (r) (sp := sp) a m b mid s e) := by
  exact CodeC.cast (by
    first
      | rfl) (toT2go_0 l l1 r a m b mid s e hq hc hn )

theorem toT2no_0 {sp : List Sp} (l r : List (Ix sp))  (a m b mid s e : Nat) (hq : ¬ (a < s ∧ s < mid)) (hn : CodeC Try.prog 2 220 toT3B (toT (l) (sp := sp) a m b mid s e) .normal (toT (r) (sp := sp) a m b mid s e)) (tq0 : (decide (Int.ofNat a < Int.ofNat s)) = true) : CodeC Try.prog 2 220 toT2B (toT (l) (sp := sp) a m b mid s e) (Ex.normal) ({ env := [((0 : Nat), V.own (0 : Nat)), ((1 : Nat), I (Int.ofNat a)), ((2 : Nat), I (Int.ofNat m)), ((3 : Nat), I (Int.ofNat b)), ((4 : Nat), V.clo (Fn.func (28 : Nat)) [] [V.ptr (1 : Nat) (0 : Nat) (0 : Nat) (0 : Nat)]), ((18 : Nat), I (Int.ofNat mid)), ((20 : Nat), I (Int.ofNat s)), ((24 : Nat), I (Int.ofNat e))], st := [((0 : Nat), Obj.arr (1 : Nat) (List.map Ix.row r)), ((1 : Nat), Obj.box [V.sl (10 : Nat) (List.map Sp.row sp)])], ids := [(0 : Nat), (1 : Nat), (0 : Nat), (1 : Nat)] }) :=
  runP hmix [.reg 41 [(3, [], some true), (7, [], some false)], .tail 43 ⟨[0, 1, 2, 3, 4, 18, 20, 24], [(0, 0), (1, 1)], []⟩ .normal (toT (r) (sp := sp) a m b mid s e)] ⟨[0, 1, 2, 3, 4, 18, 20, 24], [(0, 0), (1, 1)], []⟩ [
      decide (Int.ofNat a < Int.ofNat s) = true,
      decide (Int.ofNat s < Int.ofNat mid) = false,
      CodeC Try.prog (2 : Nat) (220 : Nat) toT3B { env := [((0 : Nat), V.own (0 : Nat)), ((1 : Nat), I (Int.ofNat a)), ((2 : Nat), I (Int.ofNat m)), ((3 : Nat), I (Int.ofNat b)), ((4 : Nat), V.clo (Fn.func (28 : Nat)) [] [V.ptr (1 : Nat) (0 : Nat) (0 : Nat) (0 : Nat)]), ((18 : Nat), I (Int.ofNat mid)), ((20 : Nat), I (Int.ofNat s)), ((24 : Nat), I (Int.ofNat e))], st := [((0 : Nat), Obj.arr (1 : Nat) (List.map Ix.row l)), ((1 : Nat), Obj.box [V.sl (10 : Nat) (List.map Sp.row sp)])], ids := [(0 : Nat), (1 : Nat), (0 : Nat), (1 : Nat)] } Ex.normal { env := [((0 : Nat), V.own (0 : Nat)), ((1 : Nat), I (Int.ofNat a)), ((2 : Nat), I (Int.ofNat m)), ((3 : Nat), I (Int.ofNat b)), ((4 : Nat), V.clo (Fn.func (28 : Nat)) [] [V.ptr (1 : Nat) (0 : Nat) (0 : Nat) (0 : Nat)]), ((18 : Nat), I (Int.ofNat mid)), ((20 : Nat), I (Int.ofNat s)), ((24 : Nat), I (Int.ofNat e))], st := [((0 : Nat), Obj.arr (1 : Nat) (List.map Ix.row r)), ((1 : Nat), Obj.box [V.sl (10 : Nat) (List.map Sp.row sp)])], ids := [(0 : Nat), (1 : Nat), (0 : Nat), (1 : Nat)] }] (by kernel_rfl)
    (by
      have d0 := tq0
      try simp only [Int.ofNat_eq_natCast, List.length_map, Bool.not_eq_true', Bool.not_eq_false', decide_eq_true_eq, decide_eq_false_iff_not] at d0
      simp only [allP]
      and_intros <;> first
        | omega
        | (simp; omega)
        | exact hn)

theorem toT2no_1 {sp : List Sp} (l r : List (Ix sp))  (a m b mid s e : Nat) (hq : ¬ (a < s ∧ s < mid)) (hn : CodeC Try.prog 2 220 toT3B (toT (l) (sp := sp) a m b mid s e) .normal (toT (r) (sp := sp) a m b mid s e)) (tq0 : (decide (Int.ofNat a < Int.ofNat s)) = false) : CodeC Try.prog 2 220 toT2B (toT (l) (sp := sp) a m b mid s e) (Ex.normal) ({ env := [((0 : Nat), V.own (0 : Nat)), ((1 : Nat), I (Int.ofNat a)), ((2 : Nat), I (Int.ofNat m)), ((3 : Nat), I (Int.ofNat b)), ((4 : Nat), V.clo (Fn.func (28 : Nat)) [] [V.ptr (1 : Nat) (0 : Nat) (0 : Nat) (0 : Nat)]), ((18 : Nat), I (Int.ofNat mid)), ((20 : Nat), I (Int.ofNat s)), ((24 : Nat), I (Int.ofNat e))], st := [((0 : Nat), Obj.arr (1 : Nat) (List.map Ix.row r)), ((1 : Nat), Obj.box [V.sl (10 : Nat) (List.map Sp.row sp)])], ids := [(0 : Nat), (1 : Nat), (0 : Nat), (1 : Nat)] }) :=
  runP hmix [.reg 41 [(3, [], some false), (7, [], some false)], .tail 43 ⟨[0, 1, 2, 3, 4, 18, 20, 24], [(0, 0), (1, 1)], []⟩ .normal (toT (r) (sp := sp) a m b mid s e)] ⟨[0, 1, 2, 3, 4, 18, 20, 24], [(0, 0), (1, 1)], []⟩ [
      decide (Int.ofNat a < Int.ofNat s) = false,
      false = false,
      CodeC Try.prog (2 : Nat) (220 : Nat) toT3B { env := [((0 : Nat), V.own (0 : Nat)), ((1 : Nat), I (Int.ofNat a)), ((2 : Nat), I (Int.ofNat m)), ((3 : Nat), I (Int.ofNat b)), ((4 : Nat), V.clo (Fn.func (28 : Nat)) [] [V.ptr (1 : Nat) (0 : Nat) (0 : Nat) (0 : Nat)]), ((18 : Nat), I (Int.ofNat mid)), ((20 : Nat), I (Int.ofNat s)), ((24 : Nat), I (Int.ofNat e))], st := [((0 : Nat), Obj.arr (1 : Nat) (List.map Ix.row l)), ((1 : Nat), Obj.box [V.sl (10 : Nat) (List.map Sp.row sp)])], ids := [(0 : Nat), (1 : Nat), (0 : Nat), (1 : Nat)] } Ex.normal { env := [((0 : Nat), V.own (0 : Nat)), ((1 : Nat), I (Int.ofNat a)), ((2 : Nat), I (Int.ofNat m)), ((3 : Nat), I (Int.ofNat b)), ((4 : Nat), V.clo (Fn.func (28 : Nat)) [] [V.ptr (1 : Nat) (0 : Nat) (0 : Nat) (0 : Nat)]), ((18 : Nat), I (Int.ofNat mid)), ((20 : Nat), I (Int.ofNat s)), ((24 : Nat), I (Int.ofNat e))], st := [((0 : Nat), Obj.arr (1 : Nat) (List.map Ix.row r)), ((1 : Nat), Obj.box [V.sl (10 : Nat) (List.map Sp.row sp)])], ids := [(0 : Nat), (1 : Nat), (0 : Nat), (1 : Nat)] }] (by kernel_rfl)
    (by
      have d0 := tq0
      try simp only [Int.ofNat_eq_natCast, List.length_map, Bool.not_eq_true', Bool.not_eq_false', decide_eq_true_eq, decide_eq_false_iff_not] at d0
      simp only [allP]
      and_intros <;> first
        | omega
        | exact hn
        | (simp; done))

theorem toT2no {sp : List Sp} (l r : List (Ix sp))  (a m b mid s e : Nat) (hq : ¬ (a < s ∧ s < mid)) (hn : CodeC Try.prog 2 220 toT3B (toT (l) (sp := sp) a m b mid s e) .normal (toT (r) (sp := sp) a m b mid s e))  : CodeC Try.prog 2 220 toT2B (toT (l) (sp := sp) a m b mid s e) .normal (toT (r) (sp := sp) a m b mid s e) := by
  rcases tf (decide (Int.ofNat a < Int.ofNat s)) with tq0 | tq0
  · exact CodeC.cast (by
      first
        | rfl) (toT2no_0 l r a m b mid s e hq hn tq0)
  · exact CodeC.cast (by
      first
        | rfl) (toT2no_1 l r a m b mid s e hq hn tq0)

theorem toT1go_0 {sp : List Sp} (l l1 r : List (Ix sp))  (a m b mid s e : Nat) (hq : s < m ∧ m < e) (hc : Contract Try.prog 34 [.own 0, I ((s : Nat) : Int), I ((m : Nat) : Int), I ((e : Nat) : Int), .clo (.func 28) [] [.ptr 1 0 0 0]] [.arr 1 ((l).map Ix.row), .box [.sl 10 (sp.map Sp.row)]] (.tup []) [some (.arr 1 ((l1).map Ix.row)), some (.box [.sl 10 (sp.map Sp.row)])]) (hn : CodeC Try.prog 2 220 toT2B (toT (l1) (sp := sp) a m b mid s e) .normal (toT (r) (sp := sp) a m b mid s e)) : CodeC Try.prog 2 220 toT1B (toT (l) (sp := sp) a m b mid s e) (Ex.normal) ({ env := [((0 : Nat), V.own (0 : Nat)), ((1 : Nat), I (Int.ofNat a)), ((2 : Nat), I (Int.ofNat m)), ((3 : Nat), I (Int.ofNat b)), ((4 : Nat), V.clo (Fn.func (28 : Nat)) [] [V.ptr (1 : Nat) (0 : Nat) (0 : Nat) (0 : Nat)]), ((18 : Nat), I (Int.ofNat mid)), ((20 : Nat), I (Int.ofNat s)), ((24 : Nat), I (Int.ofNat e))], st := [((0 : Nat), Obj.arr (1 : Nat) (List.map Ix.row r)), ((1 : Nat), Obj.box [V.sl (10 : Nat) (List.map Sp.row sp)])], ids := [(0 : Nat), (1 : Nat), (0 : Nat), (1 : Nat)] }) :=
  runP hmix [.reg 39 [(3, [], some true), (7, [], some true)], .reg 40 [(5, [.call [0, 1] [] (.tup []) [some (.arr 1 ((l1).map Ix.row)), some (.box [.sl 10 (sp.map Sp.row)])]], none)], .tail 41 ⟨[0, 1, 2, 3, 4, 18, 20, 24], [(0, 0), (1, 1)], []⟩ .normal (toT (r) (sp := sp) a m b mid s e)] ⟨[0, 1, 2, 3, 4, 18, 20, 24], [(0, 0), (1, 1)], []⟩ [
      decide (Int.ofNat s < Int.ofNat m) = true,
      decide (Int.ofNat m < Int.ofNat e) = true,
      Contract Try.prog (34 : Nat) [V.own (0 : Nat), I (Int.ofNat s), I (Int.ofNat m), I (Int.ofNat e), V.clo (Fn.func (28 : Nat)) [] [V.ptr (1 : Nat) (0 : Nat) (0 : Nat) (0 : Nat)]] [Obj.arr (1 : Nat) (List.map Ix.row l), Obj.box [V.sl (10 : Nat) (List.map Sp.row sp)]] (V.tup []) [some (Obj.arr (1 : Nat) (List.map Ix.row l1)), some (Obj.box [V.sl (10 : Nat) (List.map Sp.row sp)])],
      CodeC Try.prog (2 : Nat) (220 : Nat) toT2B { env := [((0 : Nat), V.own (0 : Nat)), ((1 : Nat), I (Int.ofNat a)), ((2 : Nat), I (Int.ofNat m)), ((3 : Nat), I (Int.ofNat b)), ((4 : Nat), V.clo (Fn.func (28 : Nat)) [] [V.ptr (1 : Nat) (0 : Nat) (0 : Nat) (0 : Nat)]), ((18 : Nat), I (Int.ofNat mid)), ((20 : Nat), I (Int.ofNat s)), ((24 : Nat), I (Int.ofNat e))], st := [((0 : Nat), Obj.arr (1 : Nat) (List.map Ix.row l1)), ((1 : Nat), Obj.box [V.sl (10 : Nat) (List.map Sp.row sp)])], ids := [(0 : Nat), (1 : Nat), (0 : Nat), (1 : Nat)] } Ex.normal { env := [((0 : Nat), V.own (0 : Nat)), ((1 : Nat), I (Int.ofNat a)), ((2 : Nat), I (Int.ofNat m)), ((3 : Nat), I (Int.ofNat b)), ((4 : Nat), V.clo (Fn.func (28 : Nat)) [] [V.ptr (1 : Nat) (0 : Nat) (0 : Nat) (0 : Nat)]), ((18 : Nat), I (Int.ofNat mid)), ((20 : Nat), I (Int.ofNat s)), ((24 : Nat), I (Int.ofNat e))], st := [((0 : Nat), Obj.arr (1 : Nat) (List.map Ix.row r)), ((1 : Nat), Obj.box [V.sl (10 : Nat) (List.map Sp.row sp)])], ids := [(0 : Nat), (1 : Nat), (0 : Nat), (1 : Nat)] }] (by kernel_rfl)
    (by
      simp only [allP]
      and_intros <;> first
        | omega
        | (simp; omega)
        | exact hn)

theorem toT1go {sp : List Sp} (l l1 r : List (Ix sp))  (a m b mid s e : Nat) (hq : s < m ∧ m < e) (hc : Contract Try.prog 34 [.own 0, I ((s : Nat) : Int), I ((m : Nat) : Int), I ((e : Nat) : Int), .clo (.func 28) [] [.ptr 1 0 0 0]] [.arr 1 ((l).map Ix.row), .box [.sl 10 (sp.map Sp.row)]] (.tup []) [some (.arr 1 ((l1).map Ix.row)), some (.box [.sl 10 (sp.map Sp.row)])]) (hn : CodeC Try.prog 2 220 toT2B (toT (l1) (sp := sp) a m b mid s e) .normal (toT (r) (sp := sp) a m b mid s e))  : CodeC Try.prog 2 220 toT1B (toT (l) (sp := sp) a m b mid s e) .normal (toT (r) (sp := sp) a m b mid s e) := by
  exact CodeC.cast (by
    first
      | rfl) (toT1go_0 l l1 r a m b mid s e hq hc hn )

theorem toT1no_0 {sp : List Sp} (l r : List (Ix sp))  (a m b mid s e : Nat) (hq : ¬ (s < m ∧ m < e)) (hn : CodeC Try.prog 2 220 toT2B (toT (l) (sp := sp) a m b mid s e) .normal (toT (r) (sp := sp) a m b mid s e)) (tq0 : (decide (Int.ofNat s < Int.ofNat m)) = true) : CodeC Try.prog 2 220 toT1B (toT (l) (sp := sp) a m b mid s e) (Ex.normal) ({ env := [((0 : Nat), V.own (0 : Nat)), ((1 : Nat), I (Int.ofNat a)), ((2 : Nat), I (Int.ofNat m)), ((3 : Nat), I (Int.ofNat b)), ((4 : Nat), V.clo (Fn.func (28 : Nat)) [] [V.ptr (1 : Nat) (0 : Nat) (0 : Nat) (0 : Nat)]), ((18 : Nat), I (Int.ofNat mid)), ((20 : Nat), I (Int.ofNat s)), ((24 : Nat), I (Int.ofNat e))], st := [((0 : Nat), Obj.arr (1 : Nat) (List.map Ix.row r)), ((1 : Nat), Obj.box [V.sl (10 : Nat) (List.map Sp.row sp)])], ids := [(0 : Nat), (1 : Nat), (0 : Nat), (1 : Nat)] }) :=
  runP hmix [.reg 39 [(3, [], some true), (7, [], some false)], .tail 41 ⟨[0, 1, 2, 3, 4, 18, 20, 24], [(0, 0), (1, 1)], []⟩ .normal (toT (r) (sp := sp) a m b mid s e)] ⟨[0, 1, 2, 3, 4, 18, 20, 24], [(0, 0), (1, 1)], []⟩ [
      decide (Int.ofNat s < Int.ofNat m) = true,
      decide (Int.ofNat m < Int.ofNat e) = false,
      CodeC Try.prog (2 : Nat) (220 : Nat) toT2B { env := [((0 : Nat), V.own (0 : Nat)), ((1 : Nat), I (Int.ofNat a)), ((2 : Nat), I (Int.ofNat m)), ((3 : Nat), I (Int.ofNat b)), ((4 : Nat), V.clo (Fn.func (28 : Nat)) [] [V.ptr (1 : Nat) (0 : Nat) (0 : Nat) (0 : Nat)]), ((18 : Nat), I (Int.ofNat mid)), ((20 : Nat), I (Int.ofNat s)), ((24 : Nat), I (Int.ofNat e))], st := [((0 : Nat), Obj.arr (1 : Nat) (List.map Ix.row l)), ((1 : Nat), Obj.box [V.sl (10 : Nat) (List.map Sp.row sp)])], ids := [(0 : Nat), (1 : Nat), (0 : Nat), (1 : Nat)] } Ex.normal { env := [((0 : Nat), V.own (0 : Nat)), ((1 : Nat), I (Int.ofNat a)), ((2 : Nat), I (Int.ofNat m)), ((3 : Nat), I (Int.ofNat b)), ((4 : Nat), V.clo (Fn.func (28 : Nat)) [] [V.ptr (1 : Nat) (0 : Nat) (0 : Nat) (0 : Nat)]), ((18 : Nat), I (Int.ofNat mid)), ((20 : Nat), I (Int.ofNat s)), ((24 : Nat), I (Int.ofNat e))], st := [((0 : Nat), Obj.arr (1 : Nat) (List.map Ix.row r)), ((1 : Nat), Obj.box [V.sl (10 : Nat) (List.map Sp.row sp)])], ids := [(0 : Nat), (1 : Nat), (0 : Nat), (1 : Nat)] }] (by kernel_rfl)
    (by
      have d0 := tq0
      try simp only [Int.ofNat_eq_natCast, List.length_map, Bool.not_eq_true', Bool.not_eq_false', decide_eq_true_eq, decide_eq_false_iff_not] at d0
      simp only [allP]
      and_intros <;> first
        | omega
        | (simp; omega)
        | exact hn)

theorem toT1no_1 {sp : List Sp} (l r : List (Ix sp))  (a m b mid s e : Nat) (hq : ¬ (s < m ∧ m < e)) (hn : CodeC Try.prog 2 220 toT2B (toT (l) (sp := sp) a m b mid s e) .normal (toT (r) (sp := sp) a m b mid s e)) (tq0 : (decide (Int.ofNat s < Int.ofNat m)) = false) : CodeC Try.prog 2 220 toT1B (toT (l) (sp := sp) a m b mid s e) (Ex.normal) ({ env := [((0 : Nat), V.own (0 : Nat)), ((1 : Nat), I (Int.ofNat a)), ((2 : Nat), I (Int.ofNat m)), ((3 : Nat), I (Int.ofNat b)), ((4 : Nat), V.clo (Fn.func (28 : Nat)) [] [V.ptr (1 : Nat) (0 : Nat) (0 : Nat) (0 : Nat)]), ((18 : Nat), I (Int.ofNat mid)), ((20 : Nat), I (Int.ofNat s)), ((24 : Nat), I (Int.ofNat e))], st := [((0 : Nat), Obj.arr (1 : Nat) (List.map Ix.row r)), ((1 : Nat), Obj.box [V.sl (10 : Nat) (List.map Sp.row sp)])], ids := [(0 : Nat), (1 : Nat), (0 : Nat), (1 : Nat)] }) :=
  runP hmix [.reg 39 [(3, [], some false), (7, [], some false)], .tail 41 ⟨[0, 1, 2, 3, 4, 18, 20, 24], [(0, 0), (1, 1)], []⟩ .normal (toT (r) (sp := sp) a m b mid s e)] ⟨[0, 1, 2, 3, 4, 18, 20, 24], [(0, 0), (1, 1)], []⟩ [
      decide (Int.ofNat s < Int.ofNat m) = false,
      false = false,
      CodeC Try.prog (2 : Nat) (220 : Nat) toT2B { env := [((0 : Nat), V.own (0 : Nat)), ((1 : Nat), I (Int.ofNat a)), ((2 : Nat), I (Int.ofNat m)), ((3 : Nat), I (Int.ofNat b)), ((4 : Nat), V.clo (Fn.func (28 : Nat)) [] [V.ptr (1 : Nat) (0 : Nat) (0 : Nat) (0 : Nat)]), ((18 : Nat), I (Int.ofNat mid)), ((20 : Nat), I (Int.ofNat s)), ((24 : Nat), I (Int.ofNat e))], st := [((0 : Nat), Obj.arr (1 : Nat) (List.map Ix.row l)), ((1 : Nat), Obj.box [V.sl (10 : Nat) (List.map Sp.row sp)])], ids := [(0 : Nat), (1 : Nat), (0 : Nat), (1 : Nat)] } Ex.normal { env := [((0 : Nat), V.own (0 : Nat)), ((1 : Nat), I (Int.ofNat a)), ((2 : Nat), I (Int.ofNat m)), ((3 : Nat), I (Int.ofNat b)), ((4 : Nat), V.clo (Fn.func (28 : Nat)) [] [V.ptr (1 : Nat) (0 : Nat) (0 : Nat) (0 : Nat)]), ((18 : Nat), I (Int.ofNat mid)), ((20 : Nat), I (Int.ofNat s)), ((24 : Nat), I (Int.ofNat e))], st := [((0 : Nat), Obj.arr (1 : Nat) (List.map Ix.row r)), ((1 : Nat), Obj.box [V.sl (10 : Nat) (List.map Sp.row sp)])], ids := [(0 : Nat), (1 : Nat), (0 : Nat), (1 : Nat)] }] (by kernel_rfl)
    (by
      have d0 := tq0
      try simp only [Int.ofNat_eq_natCast, List.length_map, Bool.not_eq_true', Bool.not_eq_false', decide_eq_true_eq, decide_eq_false_iff_not] at d0
      simp only [allP]
      and_intros <;> first
        | omega
        | exact hn
        | (simp; done))

theorem toT1no {sp : List Sp} (l r : List (Ix sp))  (a m b mid s e : Nat) (hq : ¬ (s < m ∧ m < e)) (hn : CodeC Try.prog 2 220 toT2B (toT (l) (sp := sp) a m b mid s e) .normal (toT (r) (sp := sp) a m b mid s e))  : CodeC Try.prog 2 220 toT1B (toT (l) (sp := sp) a m b mid s e) .normal (toT (r) (sp := sp) a m b mid s e) := by
  rcases tf (decide (Int.ofNat s < Int.ofNat m)) with tq0 | tq0
  · exact CodeC.cast (by
      first
        | rfl) (toT1no_0 l r a m b mid s e hq hn tq0)
  · exact CodeC.cast (by
      first
        | rfl) (toT1no_1 l r a m b mid s e hq hn tq0)

theorem toTT {sp : List Sp} (l l1 l2 l3 : List (Ix sp))  (a m b mid s e : Nat) (hR : s < m ∧ m < e → Contract Try.prog 34 [.own 0, I ((s : Nat) : Int), I ((m : Nat) : Int), I ((e : Nat) : Int), .clo (.func 28) [] [.ptr 1 0 0 0]] [.arr 1 ((l).map Ix.row), .box [.sl 10 (sp.map Sp.row)]] (.tup []) [some (.arr 1 ((l1).map Ix.row)), some (.box [.sl 10 (sp.map Sp.row)])]) (hR0 : ¬ (s < m ∧ m < e) → l1 = l) (hS : a < s ∧ s < mid → Contract Try.prog 33 [.own 0, I ((a : Nat) : Int), I ((s : Nat) : Int), I ((mid : Nat) : Int), .clo (.func 28) [] [.ptr 1 0 0 0]] [.arr 1 ((l1).map Ix.row), .box [.sl 10 (sp.map Sp.row)]] (.tup []) [some (.arr 1 ((l2).map Ix.row)), some (.box [.sl 10 (sp.map Sp.row)])]) (hS0 : ¬ (a < s ∧ s < mid) → l2 = l1) (hT : mid < e ∧ e < b → Contract Try.prog 33 [.own 0, I ((mid : Nat) : Int), I ((e : Nat) : Int), I ((b : Nat) : Int), .clo (.func 28) [] [.ptr 1 0 0 0]] [.arr 1 ((l2).map Ix.row), .box [.sl 10 (sp.map Sp.row)]] (.tup []) [some (.arr 1 ((l3).map Ix.row)), some (.box [.sl 10 (sp.map Sp.row)])]) (hT0 : ¬ (mid < e ∧ e < b) → l3 = l2) : CodeC Try.prog 2 220 toT1B (toT (l) (sp := sp) a m b mid s e) .normal (toT (l3) (sp := sp) a m b mid s e) := by
  have k3 : CodeC Try.prog 2 220 toT3B (toT (l2) (sp := sp) a m b mid s e) .normal (toT (l3) (sp := sp) a m b mid s e) := by
    by_cases q : mid < e ∧ e < b
    · exact toT3go _ _ (sp := sp) a m b mid s e q (hT q)
    · rw [hT0 q]; exact toT3no _ (sp := sp) a m b mid s e q
  have k2 : CodeC Try.prog 2 220 toT2B (toT (l1) (sp := sp) a m b mid s e) .normal (toT (l3) (sp := sp) a m b mid s e) := by
    by_cases q : a < s ∧ s < mid
    · exact toT2go _ _ _ (sp := sp) a m b mid s e q (hS q) k3
    · rw [hS0 q] at k3; exact toT2no _ _ (sp := sp) a m b mid s e q k3
  by_cases q : s < m ∧ m < e
  · exact toT1go _ _ _ (sp := sp) a m b mid s e q (hR q) k2
  · rw [hR0 q] at k2; exact toT1no _ _ (sp := sp) a m b mid s e q k2

theorem toG0_0 {sp : List Sp} (l r : List (Ix sp))  (a m b mid s e : Nat) (hm : m ≠ a + 1) (hb : b ≠ m + 1) (ham : a < m) (hmb : m < b) (hs : b ≤ 1000000) (hmid : mid = (a + b) / 2) (hmg : ¬ (mid < m)) (he : e = mid + m - s) (hse : s ≤ mid + m) (hl : LoopC Try.prog 2 220 toZB (toZ (l) (sp := sp) a m b mid (mid + m) a m (mid + m - 1)) (.exit 8) (toZ (l) (sp := sp) a m b mid (mid + m) s s (mid + m - 1))) (ht : CodeC Try.prog 2 220 toT1B (toT (l) (sp := sp) a m b mid s e) .normal (toT (r) (sp := sp) a m b mid s e)) : Contract Try.prog 33 [.own 0, I (a : Int), I (m : Int), I (b : Int), .clo (.func 28) [] [.ptr 1 0 0 0]] [.arr 1 ((l).map Ix.row), .box [.sl 10 (sp.map Sp.row)]] (V.tup []) ([some (Obj.arr (1 : Nat) (List.map Ix.row r)), some (Obj.box [V.sl (10 : Nat) (List.map Sp.row sp)])]) :=
  vcP hmix [.reg 0 [(2, [.be (I ((m - a : Nat) : Int))], none), (3, [], some false)], .reg 12 [(2, [.be (I ((b - m : Nat) : Int))], none), (3, [], some false)], .reg 24 [(5, [.be (I ((mid : Nat) : Int))], none)], .reg 25 [(2, [.be (I ((mid + m : Nat) : Int))], none)], .reg 27 [(2, [], some false)], .reg 32 [(1, [.be (I ((mid + m - 1 : Nat) : Int))], none)], .cut ⟨[0, 1, 2, 3, 4, 18, 19, 20, 21, 22], [(0, 0), (1, 1)], []⟩ (.exit 8) (toZ (l) (sp := sp) a m b mid (mid + m) s s (mid + m - 1)), .reg 38 [(2, [.be (I ((e : Nat) : Int))], none)], .tail 39 ⟨[0, 1, 2, 3, 4, 18, 20, 24], [(0, 0), (1, 1)], []⟩ .normal (toT (r) (sp := sp) a m b mid s e)] [] [
      IntKind.wrap IntKind.i64 (Int.ofNat m + -Int.ofNat a) = Int.ofNat (m - a),
      (Int.ofNat (m - a) == (1 : Int)) = false,
      IntKind.wrap IntKind.i64 (Int.ofNat b + -Int.ofNat m) = Int.ofNat (b - m),
      (Int.ofNat (b - m) == (1 : Int)) = false,
      IntKind.wrap IntKind.i64 (Int.fdiv (IntKind.wrap IntKind.u64 (IntKind.wrap IntKind.i64 (Int.ofNat (a + b)))) (2 : Int)) = Int.ofNat mid,
      IntKind.wrap IntKind.i64 (Int.ofNat (mid + m)) = Int.ofNat (mid + m),
      decide (Int.ofNat m > Int.ofNat mid) = false,
      IntKind.wrap IntKind.i64 (Int.ofNat (mid + m) + (-1 : Int)) = Int.ofNat (mid + m - (1 : Nat)),
      LoopC Try.prog (2 : Nat) (220 : Nat) toZB { env := [((0 : Nat), V.own (0 : Nat)), ((1 : Nat), I (Int.ofNat a)), ((2 : Nat), I (Int.ofNat m)), ((3 : Nat), I (Int.ofNat b)), ((4 : Nat), V.clo (Fn.func (28 : Nat)) [] [V.ptr (1 : Nat) (0 : Nat) (0 : Nat) (0 : Nat)]), ((18 : Nat), I (Int.ofNat mid)), ((19 : Nat), I (Int.ofNat (mid + m))), ((20 : Nat), I (Int.ofNat a)), ((21 : Nat), I (Int.ofNat m)), ((22 : Nat), I (Int.ofNat (mid + m - (1 : Nat))))], st := [((0 : Nat), Obj.arr (1 : Nat) (List.map Ix.row l)), ((1 : Nat), Obj.box [V.sl (10 : Nat) (List.map Sp.row sp)])], ids := [(0 : Nat), (1 : Nat), (0 : Nat), (1 : Nat)] } (Ex.exit (8 : Nat)) { env := [((0 : Nat), V.own (0 : Nat)), ((1 : Nat), I (Int.ofNat a)), ((2 : Nat), I (Int.ofNat m)), ((3 : Nat), I (Int.ofNat b)), ((4 : Nat), V.clo (Fn.func (28 : Nat)) [] [V.ptr (1 : Nat) (0 : Nat) (0 : Nat) (0 : Nat)]), ((18 : Nat), I (Int.ofNat mid)), ((19 : Nat), I (Int.ofNat (mid + m))), ((20 : Nat), I (Int.ofNat s)), ((21 : Nat), I (Int.ofNat s)), ((22 : Nat), I (Int.ofNat (mid + m - (1 : Nat))))], st := [((0 : Nat), Obj.arr (1 : Nat) (List.map Ix.row l)), ((1 : Nat), Obj.box [V.sl (10 : Nat) (List.map Sp.row sp)])], ids := [(0 : Nat), (1 : Nat), (0 : Nat), (1 : Nat)] },
      IntKind.wrap IntKind.i64 (Int.ofNat (mid + m) + -Int.ofNat s) = Int.ofNat e,
      CodeC Try.prog (2 : Nat) (220 : Nat) toT1B { env := [((0 : Nat), V.own (0 : Nat)), ((1 : Nat), I (Int.ofNat a)), ((2 : Nat), I (Int.ofNat m)), ((3 : Nat), I (Int.ofNat b)), ((4 : Nat), V.clo (Fn.func (28 : Nat)) [] [V.ptr (1 : Nat) (0 : Nat) (0 : Nat) (0 : Nat)]), ((18 : Nat), I (Int.ofNat mid)), ((20 : Nat), I (Int.ofNat s)), ((24 : Nat), I (Int.ofNat e))], st := [((0 : Nat), Obj.arr (1 : Nat) (List.map Ix.row l)), ((1 : Nat), Obj.box [V.sl (10 : Nat) (List.map Sp.row sp)])], ids := [(0 : Nat), (1 : Nat), (0 : Nat), (1 : Nat)] } Ex.normal { env := [((0 : Nat), V.own (0 : Nat)), ((1 : Nat), I (Int.ofNat a)), ((2 : Nat), I (Int.ofNat m)), ((3 : Nat), I (Int.ofNat b)), ((4 : Nat), V.clo (Fn.func (28 : Nat)) [] [V.ptr (1 : Nat) (0 : Nat) (0 : Nat) (0 : Nat)]), ((18 : Nat), I (Int.ofNat mid)), ((20 : Nat), I (Int.ofNat s)), ((24 : Nat), I (Int.ofNat e))], st := [((0 : Nat), Obj.arr (1 : Nat) (List.map Ix.row r)), ((1 : Nat), Obj.box [V.sl (10 : Nat) (List.map Sp.row sp)])], ids := [(0 : Nat), (1 : Nat), (0 : Nat), (1 : Nat)] }] (by kernel_rfl)
    (by
      simp only [allP]
      and_intros <;> first
        | (simp; omega)
        | exact hl
        | exact ht
        | exact i64_small (by simp; omega)
        | (rw [i64_small (by simp; omega)]; simp; omega)
        | (rw [hmid]; exact halfW (by omega)))

theorem toG0 {sp : List Sp} (l r : List (Ix sp))  (a m b mid s e : Nat) (hm : m ≠ a + 1) (hb : b ≠ m + 1) (ham : a < m) (hmb : m < b) (hs : b ≤ 1000000) (hmid : mid = (a + b) / 2) (hmg : ¬ (mid < m)) (he : e = mid + m - s) (hse : s ≤ mid + m) (hl : LoopC Try.prog 2 220 toZB (toZ (l) (sp := sp) a m b mid (mid + m) a m (mid + m - 1)) (.exit 8) (toZ (l) (sp := sp) a m b mid (mid + m) s s (mid + m - 1))) (ht : CodeC Try.prog 2 220 toT1B (toT (l) (sp := sp) a m b mid s e) .normal (toT (r) (sp := sp) a m b mid s e)) : Contract Try.prog 33 [.own 0, I (a : Int), I (m : Int), I (b : Int), .clo (.func 28) [] [.ptr 1 0 0 0]] [.arr 1 ((l).map Ix.row), .box [.sl 10 (sp.map Sp.row)]] (.tup []) [some (.arr 1 ((r).map Ix.row)), some (.box [.sl 10 (sp.map Sp.row)])] := by
  exact Contract.cast (by
    first
      | rfl) (by
    first
      | rfl) (toG0_0 l r a m b mid s e hm hb ham hmb hs hmid hmg he hse hl ht )

theorem toG1_0 {sp : List Sp} (l r : List (Ix sp))  (a m b mid s e : Nat) (hm : m ≠ a + 1) (hb : b ≠ m + 1) (ham : a < m) (hmb : m < b) (hs : b ≤ 1000000) (hmid : mid = (a + b) / 2) (hmg : (mid < m)) (he : e = mid + m - s) (hse : s ≤ mid + m) (hl : LoopC Try.prog 2 220 toZB (toZ (l) (sp := sp) a m b mid (mid + m) (mid + m - b) mid (mid + m - 1)) (.exit 8) (toZ (l) (sp := sp) a m b mid (mid + m) s s (mid + m - 1))) (ht : CodeC Try.prog 2 220 toT1B (toT (l) (sp := sp) a m b mid s e) .normal (toT (r) (sp := sp) a m b mid s e)) : Contract Try.prog 33 [.own 0, I (a : Int), I (m : Int), I (b : Int), .clo (.func 28) [] [.ptr 1 0 0 0]] [.arr 1 ((l).map Ix.row), .box [.sl 10 (sp.map Sp.row)]] (V.tup []) ([some (Obj.arr (1 : Nat) (List.map Ix.row r)), some (Obj.box [V.sl (10 : Nat) (List.map Sp.row sp)])]) :=
  vcP hmix [.reg 0 [(2, [.be (I ((m - a : Nat) : Int))], none), (3, [], some false)], .reg 12 [(2, [.be (I ((b - m : Nat) : Int))], none), (3, [], some false)], .reg 24 [(5, [.be (I ((mid : Nat) : Int))], none)], .reg 25 [(2, [.be (I ((mid + m : Nat) : Int))], none)], .reg 27 [(2, [], some true)], .reg 28 [(2, [.be (I ((mid + m - b : Nat) : Int))], none)], .reg 32 [(1, [.be (I ((mid + m - 1 : Nat) : Int))], none)], .cut ⟨[0, 1, 2, 3, 4, 18, 19, 20, 21, 22], [(0, 0), (1, 1)], []⟩ (.exit 8) (toZ (l) (sp := sp) a m b mid (mid + m) s s (mid + m - 1)), .reg 38 [(2, [.be (I ((e : Nat) : Int))], none)], .tail 39 ⟨[0, 1, 2, 3, 4, 18, 20, 24], [(0, 0), (1, 1)], []⟩ .normal (toT (r) (sp := sp) a m b mid s e)] [] [
      IntKind.wrap IntKind.i64 (Int.ofNat m + -Int.ofNat a) = Int.ofNat (m - a),
      (Int.ofNat (m - a) == (1 : Int)) = false,
      IntKind.wrap IntKind.i64 (Int.ofNat b + -Int.ofNat m) = Int.ofNat (b - m),
      (Int.ofNat (b - m) == (1 : Int)) = false,
      IntKind.wrap IntKind.i64 (Int.fdiv (IntKind.wrap IntKind.u64 (IntKind.wrap IntKind.i64 (Int.ofNat (a + b)))) (2 : Int)) = Int.ofNat mid,
      IntKind.wrap IntKind.i64 (Int.ofNat (mid + m)) = Int.ofNat (mid + m),
      decide (Int.ofNat m > Int.ofNat mid) = true,
      IntKind.wrap IntKind.i64 (Int.ofNat (mid + m) + -Int.ofNat b) = Int.ofNat (mid + m - b),
      IntKind.wrap IntKind.i64 (Int.ofNat (mid + m) + (-1 : Int)) = Int.ofNat (mid + m - (1 : Nat)),
      LoopC Try.prog (2 : Nat) (220 : Nat) toZB { env := [((0 : Nat), V.own (0 : Nat)), ((1 : Nat), I (Int.ofNat a)), ((2 : Nat), I (Int.ofNat m)), ((3 : Nat), I (Int.ofNat b)), ((4 : Nat), V.clo (Fn.func (28 : Nat)) [] [V.ptr (1 : Nat) (0 : Nat) (0 : Nat) (0 : Nat)]), ((18 : Nat), I (Int.ofNat mid)), ((19 : Nat), I (Int.ofNat (mid + m))), ((20 : Nat), I (Int.ofNat (mid + m - b))), ((21 : Nat), I (Int.ofNat mid)), ((22 : Nat), I (Int.ofNat (mid + m - (1 : Nat))))], st := [((0 : Nat), Obj.arr (1 : Nat) (List.map Ix.row l)), ((1 : Nat), Obj.box [V.sl (10 : Nat) (List.map Sp.row sp)])], ids := [(0 : Nat), (1 : Nat), (0 : Nat), (1 : Nat)] } (Ex.exit (8 : Nat)) { env := [((0 : Nat), V.own (0 : Nat)), ((1 : Nat), I (Int.ofNat a)), ((2 : Nat), I (Int.ofNat m)), ((3 : Nat), I (Int.ofNat b)), ((4 : Nat), V.clo (Fn.func (28 : Nat)) [] [V.ptr (1 : Nat) (0 : Nat) (0 : Nat) (0 : Nat)]), ((18 : Nat), I (Int.ofNat mid)), ((19 : Nat), I (Int.ofNat (mid + m))), ((20 : Nat), I (Int.ofNat s)), ((21 : Nat), I (Int.ofNat s)), ((22 : Nat), I (Int.ofNat (mid + m - (1 : Nat))))], st := [((0 : Nat), Obj.arr (1 : Nat) (List.map Ix.row l)), ((1 : Nat), Obj.box [V.sl (10 : Nat) (List.map Sp.row sp)])], ids := [(0 : Nat), (1 : Nat), (0 : Nat), (1 : Nat)] },
      IntKind.wrap IntKind.i64 (Int.ofNat (mid + m) + -Int.ofNat s) = Int.ofNat e,
      CodeC Try.prog (2 : Nat) (220 : Nat) toT1B { env := [((0 : Nat), V.own (0 : Nat)), ((1 : Nat), I (Int.ofNat a)), ((2 : Nat), I (Int.ofNat m)), ((3 : Nat), I (Int.ofNat b)), ((4 : Nat), V.clo (Fn.func (28 : Nat)) [] [V.ptr (1 : Nat) (0 : Nat) (0 : Nat) (0 : Nat)]), ((18 : Nat), I (Int.ofNat mid)), ((20 : Nat), I (Int.ofNat s)), ((24 : Nat), I (Int.ofNat e))], st := [((0 : Nat), Obj.arr (1 : Nat) (List.map Ix.row l)), ((1 : Nat), Obj.box [V.sl (10 : Nat) (List.map Sp.row sp)])], ids := [(0 : Nat), (1 : Nat), (0 : Nat), (1 : Nat)] } Ex.normal { env := [((0 : Nat), V.own (0 : Nat)), ((1 : Nat), I (Int.ofNat a)), ((2 : Nat), I (Int.ofNat m)), ((3 : Nat), I (Int.ofNat b)), ((4 : Nat), V.clo (Fn.func (28 : Nat)) [] [V.ptr (1 : Nat) (0 : Nat) (0 : Nat) (0 : Nat)]), ((18 : Nat), I (Int.ofNat mid)), ((20 : Nat), I (Int.ofNat s)), ((24 : Nat), I (Int.ofNat e))], st := [((0 : Nat), Obj.arr (1 : Nat) (List.map Ix.row r)), ((1 : Nat), Obj.box [V.sl (10 : Nat) (List.map Sp.row sp)])], ids := [(0 : Nat), (1 : Nat), (0 : Nat), (1 : Nat)] }] (by kernel_rfl)
    (by
      simp only [allP]
      and_intros <;> first
        | (simp; omega)
        | exact hl
        | exact ht
        | exact i64_small (by simp; omega)
        | (rw [i64_small (by simp; omega)]; simp; omega)
        | (rw [hmid]; exact halfW (by omega)))

theorem toG1 {sp : List Sp} (l r : List (Ix sp))  (a m b mid s e : Nat) (hm : m ≠ a + 1) (hb : b ≠ m + 1) (ham : a < m) (hmb : m < b) (hs : b ≤ 1000000) (hmid : mid = (a + b) / 2) (hmg : (mid < m)) (he : e = mid + m - s) (hse : s ≤ mid + m) (hl : LoopC Try.prog 2 220 toZB (toZ (l) (sp := sp) a m b mid (mid + m) (mid + m - b) mid (mid + m - 1)) (.exit 8) (toZ (l) (sp := sp) a m b mid (mid + m) s s (mid + m - 1))) (ht : CodeC Try.prog 2 220 toT1B (toT (l) (sp := sp) a m b mid s e) .normal (toT (r) (sp := sp) a m b mid s e)) : Contract Try.prog 33 [.own 0, I (a : Int), I (m : Int), I (b : Int), .clo (.func 28) [] [.ptr 1 0 0 0]] [.arr 1 ((l).map Ix.row), .box [.sl 10 (sp.map Sp.row)]] (.tup []) [some (.arr 1 ((r).map Ix.row)), some (.box [.sl 10 (sp.map Sp.row)])] := by
  exact Contract.cast (by
    first
      | rfl) (by
    first
      | rfl) (toG1_0 l r a m b mid s e hm hb ham hmb hs hmid hmg he hse hl ht )

end Go.Proofs.Ythhggnnfiohnpaa

/- Parts of lists in order. -/
namespace Go.Proofs.Ythhggnnfiohnpaa
open Go
theorem all_take {α : Type} {B : List α} {r : Nat} {p : α → Prop} (h : ∀ k z, k < r → B[k]? = some z → p z) : ∀ y ∈ B.take r, p y := by
  intro y hy
  obtain ⟨k, hk⟩ := List.mem_iff_getElem?.1 hy
  rw [List.getElem?_take] at hk
  split at hk
  · exact h k y ‹_› hk
  · cases hk
theorem all_drop {α : Type} {B : List α} {r : Nat} {p : α → Prop} (h : ∀ k z, r ≤ k → B[k]? = some z → p z) : ∀ y ∈ B.drop r, p y := by
  intro y hy
  obtain ⟨k, hk⟩ := List.mem_iff_getElem?.1 hy
  rw [List.getElem?_drop] at hk
  exact h _ y (by omega) hk
theorem Swo.irrefl {α : Type} {lt : α → α → Bool} (ho : Swo lt) (a : α) : lt a a = false := by
  cases h : lt a a with
  | false => rfl
  | true => rw [ho.asymm h] at h; cases h
theorem Srt.le {α : Type} {lt : α → α → Bool} (ho : Swo lt) {B : List α} (h : Srt lt B) {i j : Nat} {x y : α} (hij : i ≤ j) (hi : B[i]? = some x) (hj : B[j]? = some y) : lt y x = false := by
  obtain ⟨i1, i2⟩ := List.getElem?_eq_some_iff.1 hi
  obtain ⟨j1, j2⟩ := List.getElem?_eq_some_iff.1 hj
  by_cases e : i = j
  · subst e
    rw [hi] at hj
    cases hj
    exact ho.irrefl _
  · have := List.pairwise_iff_getElem.1 h i j i1 j1 (by omega)
    rw [i2, j2] at this
    exact this
theorem Srt.take {α : Type} {lt : α → α → Bool} {B : List α} (h : Srt lt B) (n : Nat) : Srt lt (B.take n) := List.Pairwise.sublist (List.take_sublist _ _) h
theorem Srt.drop {α : Type} {lt : α → α → Bool} {B : List α} (h : Srt lt B) (n : Nat) : Srt lt (B.drop n) := List.Pairwise.sublist (List.drop_sublist _ _) h
/-- What stands in the first, and in the second, of two parts. -/
theorem at_fst {α : Type} {P A B Q : List α} {h : Nat} (h1 : P.length ≤ h) (h2 : h < P.length + A.length) : ∃ z, (P ++ A ++ B ++ Q)[h]? = some z ∧ A[h - P.length]? = some z := by
  refine ⟨A[h - P.length]'(by omega), ?_, List.getElem?_eq_getElem (by omega)⟩
  rw [List.append_assoc, List.append_assoc, List.getElem?_append_right h1, List.getElem?_append_left (by omega)]
  exact List.getElem?_eq_getElem (by omega)
theorem at_snd {α : Type} {P A B Q : List α} {h : Nat} (h1 : P.length + A.length ≤ h) (h2 : h < P.length + A.length + B.length) : ∃ z, (P ++ A ++ B ++ Q)[h]? = some z ∧ B[h - (P.length + A.length)]? = some z := by
  refine ⟨B[h - (P.length + A.length)]'(by omega), ?_, List.getElem?_eq_getElem (by omega)⟩
  rw [List.append_assoc, List.getElem?_append_right (by simp; omega), List.getElem?_append_left (by simp; omega)]
  simp only [List.length_append]
  exact List.getElem?_eq_getElem (by omega)
/-- The second list is the first one with every `bs` of it put in order. -/
inductive Chk {α : Type} (lt : α → α → Bool) (bs : Nat) : List α → List α → Prop
  | last (l : List α) : l.length < bs → Chk lt bs l (srt lt l)
  | cons (c l r : List α) : c.length = bs → Chk lt bs l r → Chk lt bs (c ++ l) (srt lt c ++ r)
theorem Chk.len {α : Type} {lt : α → α → Bool} {bs : Nat} {l r : List α} (h : Chk lt bs l r) : r.length = l.length := by
  induction h with
  | last l h => exact srt_len l
  | cons c l r hc h ih => simp [srt_len, ih]
theorem Chk.done {α : Type} {lt : α → α → Bool} {bs : Nat} {l r : List α} (h : Chk lt bs l r) (hl : l.length ≤ bs) : r = srt lt l := by
  cases h with
  | last l h => rfl
  | cons c l r hc h =>
    simp only [List.length_append] at hl
    have : l = [] := List.eq_nil_of_length_eq_zero (by omega)
    subst this
    have : r = [] := List.eq_nil_of_length_eq_zero h.len
    subst this
    simp
theorem Chk.two {α : Type} {lt : α → α → Bool} {bs : Nat} {l r : List α} (h : Chk lt bs l r) (hl : bs < l.length) : ∃ c l' r', l = c ++ l' ∧ r = srt lt c ++ r' ∧ c.length = bs ∧ Chk lt bs l' r' := by
  cases h with
  | last l h => omega
  | cons c l r hc h => exact ⟨c, l, r, rfl, rfl, hc, h⟩
end Go.Proofs.Ythhggnnfiohnpaa

/- sorting int: merging in place, the law. -/
namespace Go.Proofs.Ythhggnnfiohnpaa
open E
set_option maxRecDepth 100000
set_option linter.unusedVariables false
set_option linter.unusedSimpArgs false

theorem toKin {sp : List Sp}  (x : (Ix sp)) (R : List (Ix sp)) (i : Nat) : ∀ (B1 A : List (Ix sp)), i = A.length + B1.length + 1 → A.length + B1.length + R.length + 1 ≤ 1000000 →
    ∃ k, LoopC Try.prog 2 220 toKB (toK (A ++ x :: (B1 ++ R)) (sp := sp) i A.length) (.exit 2) (toK (A ++ (B1 ++ x :: R)) (sp := sp) i k)
  | [], A, hi, hs => ⟨A.length, by
      simp only [List.nil_append]
      exact LoopC.last (toKz _ (sp := sp) i _ (by omega) (by simp at hi hs; omega) (by simp at hi; omega)) (by simp)⟩
  | y :: B1, A, hi, hs => by
    simp only [List.length_cons] at hi hs
    obtain ⟨k, hk⟩ := toKin (sp := sp) x R i B1 (A ++ [y]) (by simp; omega) (by simp; omega)
    refine ⟨k, ?_⟩
    have hr := toKgo A (B1 ++ R) x y (sp := sp) i A.length rfl (by omega) (by omega) (by simp; omega)
    rw [show (A ++ [y]).length = A.length + 1 by simp] at hk
    simp only [List.append_assoc, List.cons_append, List.nil_append] at hr hk ⊢
    exact LoopC.next hr hk
theorem toHin {sp : List Sp}  (x : (Ix sp)) (A A2 : List (Ix sp)) : ∀ R : List (Ix sp), A.length + A2.length + R.length + 1 ≤ 1000000 →
    ∃ k, LoopC Try.prog 2 220 toHB (toH (A ++ (A2 ++ x :: R)) (sp := sp) A.length (A.length + A2.length)) (.exit 6) (toH (A ++ x :: (A2 ++ R)) (sp := sp) A.length k) := by
  refine snoc_ind (P := fun A2 => ∀ R : List (Ix sp), A.length + A2.length + R.length + 1 ≤ 1000000 →
    ∃ k, LoopC Try.prog 2 220 toHB (toH (A ++ (A2 ++ x :: R)) (sp := sp) A.length (A.length + A2.length)) (.exit 6) (toH (A ++ x :: (A2 ++ R)) (sp := sp) A.length k)) ?_ ?_ A2
  · intro R hs
    refine ⟨A.length, ?_⟩
    simp only [List.nil_append, List.length_nil, Nat.add_zero]
    exact LoopC.last (toHz _ (sp := sp) _ _ (Nat.le_refl _)) (by simp)
  · intro A2 y ih R hs
    simp only [List.length_append, List.length_cons, List.length_nil] at hs ⊢
    obtain ⟨k, hk⟩ := ih (y :: R) (by simp; omega)
    refine ⟨k, ?_⟩
    have hr := toHgo (A ++ A2) R x y (sp := sp) A.length (A.length + (A2.length + 1)) (by simp; omega) (by omega) (by simp; omega)
    rw [show (A ++ A2).length = A.length + A2.length by simp] at hr
    simp only [List.append_assoc, List.cons_append, List.nil_append] at hr hk ⊢
    exact LoopC.next hr hk
/-- One before a part. -/
theorem toSym1 {sp : List Sp}  (ho : Swo (toLt (sp := sp))) (P : List (Ix sp)) (x : (Ix sp)) (B Q : List (Ix sp)) (a m b : Nat) (hB : Srt (toLt (sp := sp)) B) (ha : a = P.length) (hm : m = P.length + 1) (hb : b = P.length + 1 + B.length) (hs : P.length + 1 + B.length + Q.length ≤ 500000) :
    Contract Try.prog 33 [.own 0, I ((a : Nat) : Int), I ((m : Nat) : Int), I ((b : Nat) : Int), .clo (.func 28) [] [.ptr 1 0 0 0]] [.arr 1 ((P ++ [x] ++ B ++ Q).map Ix.row), .box [.sl 10 (sp.map Sp.row)]] (.tup []) [some (.arr 1 ((P ++ mrg (toLt (sp := sp)) [x] B ++ Q).map Ix.row)), some (.box [.sl 10 (sp.map Sp.row)])] := by
  have hat : ∀ h, m ≤ h → h < b → ∃ z, (P ++ [x] ++ B ++ Q)[h]? = some z ∧ B[h - m]? = some z := fun h h1 h2 => by
    have := at_snd (P := P) (A := [x]) (B := B) (Q := Q) (h := h) (by simp; omega) (by simp; omega)
    simpa [← hm] using this
  have hx : (P ++ [x] ++ B ++ Q)[a]? = some x := by subst ha; simp
  obtain ⟨r, r1, r2, r3, r4, r5⟩ := LoopC.half (fun h => (B[h - m]?).elim false (fun z => (toLt (sp := sp)) z x)) (fun i j => toX (P ++ [x] ++ B ++ Q) (sp := sp) a m b i j) (e := .exit 0) (by simp) m b
    (fun i j h1 h2 h3 hp => by
      obtain ⟨z, z1, z2⟩ := hat j (by omega) h3
      obtain ⟨w, w1, w2⟩ := hat i h1 (by omega)
      simp only [z2, w2, Option.elim_some] at hp ⊢
      exact ho.lt_of_le_lt (Srt.le ho hB (by omega) w2 z2) hp)
    (fun i j h1 h2 h3 hp => by
      obtain ⟨z, z1, z2⟩ := hat ((i + j) / 2) (by omega) (by omega)
      simp only [z2, Option.elim_some] at hp
      exact toXgo _ (sp := sp) a m b i j z x h2 (by omega) z1 hx hp)
    (fun i j h1 h2 h3 hp => by
      obtain ⟨z, z1, z2⟩ := hat ((i + j) / 2) (by omega) (by omega)
      simp only [z2, Option.elim_some] at hp
      exact toXba _ (sp := sp) a m b i j z x h2 (by omega) z1 hx hp)
    (fun i h1 h2 => toXz _ (sp := sp) a m b i i (Nat.le_refl _)) (by omega)
  obtain ⟨B1, B2, hB12, lB1, t1, t2⟩ : ∃ B1 B2, B = B1 ++ B2 ∧ B1.length = r - m ∧ (∀ y ∈ B1, (toLt (sp := sp)) y x = true) ∧ (∀ y ∈ B2, (toLt (sp := sp)) y x = false) :=
    ⟨B.take (r - m), B.drop (r - m), (List.take_append_drop _ _).symm, (by rw [List.length_take]; omega), all_take (fun k z hk hz => by
      have := r3 (m + k) (by omega) (by omega)
      simp only [show m + k - m = k by omega, hz, Option.elim_some] at this
      exact this), all_drop (fun k z hk hz => by
      have hk' := (List.getElem?_eq_some_iff.1 hz).1
      have := r4 (m + k) (by omega) (by omega)
      simp only [show m + k - m = k by omega, hz, Option.elim_some] at this
      exact this)⟩
  subst hB12
  simp only [List.length_append] at hb hs
  obtain ⟨k, hk⟩ := toKin (sp := sp) x (B2 ++ Q) r B1 P (by omega) (by simp; omega)
  rw [mrg_one_l ho B1 x B2 t1 t2]
  rw [← ha] at hk
  simp only [List.append_assoc, List.cons_append, List.nil_append] at r5 hk ⊢
  exact toS1 _ _ (sp := sp) a m b r k (by omega) (by omega) (by omega) r5 hk
/-- One behind a part. -/
theorem toSym2 {sp : List Sp}  (ho : Swo (toLt (sp := sp))) (P : List (Ix sp)) (y : (Ix sp)) (A Q : List (Ix sp)) (a m b : Nat) (hA : Srt (toLt (sp := sp)) A) (h1 : A.length ≠ 1) (ha : a = P.length) (hm : m = P.length + A.length) (hb : b = P.length + A.length + 1) (hs : P.length + 1 + A.length + Q.length ≤ 500000) :
    Contract Try.prog 33 [.own 0, I ((a : Nat) : Int), I ((m : Nat) : Int), I ((b : Nat) : Int), .clo (.func 28) [] [.ptr 1 0 0 0]] [.arr 1 ((P ++ A ++ [y] ++ Q).map Ix.row), .box [.sl 10 (sp.map Sp.row)]] (.tup []) [some (.arr 1 ((P ++ mrg (toLt (sp := sp)) A [y] ++ Q).map Ix.row)), some (.box [.sl 10 (sp.map Sp.row)])] := by
  have hat : ∀ h, a ≤ h → h < m → ∃ z, (P ++ A ++ [y] ++ Q)[h]? = some z ∧ A[h - a]? = some z := fun h h1 h2 => by
    have := at_fst (P := P) (A := A) (B := [y]) (Q := Q) (h := h) (by omega) (by omega)
    rwa [← ha] at this
  have hy : (P ++ A ++ [y] ++ Q)[m]? = some y := by subst hm; simp
  obtain ⟨r, r1, r2, r3, r4, r5⟩ := LoopC.half (fun h => (A[h - a]?).elim false (fun z => !((toLt (sp := sp)) y z))) (fun i j => toY (P ++ A ++ [y] ++ Q) (sp := sp) a m b i j) (e := .exit 4) (by simp) a m
    (fun i j h1 h2 h3 hp => by
      obtain ⟨z, z1, z2⟩ := hat j (by omega) h3
      obtain ⟨w, w1, w2⟩ := hat i h1 (by omega)
      simp only [z2, w2, Option.elim_some, Bool.not_eq_true'] at hp ⊢
      exact ho.trans (Srt.le ho hA (by omega) w2 z2) hp)
    (fun i j h1 h2 h3 hp => by
      obtain ⟨z, z1, z2⟩ := hat ((i + j) / 2) (by omega) (by omega)
      simp only [z2, Option.elim_some, Bool.not_eq_true'] at hp
      exact toYgo _ (sp := sp) a m b i j y z h2 (by omega) hy z1 hp)
    (fun i j h1 h2 h3 hp => by
      obtain ⟨z, z1, z2⟩ := hat ((i + j) / 2) (by omega) (by omega)
      simp only [z2, Option.elim_some, Bool.not_eq_false'] at hp
      exact toYba _ (sp := sp) a m b i j y z h2 (by omega) hy z1 hp)
    (fun i h1 h2 => toYz _ (sp := sp) a m b i i (Nat.le_refl _)) (by omega)
  obtain ⟨A1, A2, hA12, lA1, t1, t2⟩ : ∃ A1 A2, A = A1 ++ A2 ∧ A1.length = r - a ∧ (∀ z ∈ A1, (toLt (sp := sp)) y z = false) ∧ (∀ z ∈ A2, (toLt (sp := sp)) y z = true) :=
    ⟨A.take (r - a), A.drop (r - a), (List.take_append_drop _ _).symm, (by rw [List.length_take]; omega), all_take (fun k z hk hz => by
      have := r3 (a + k) (by omega) (by omega)
      simp only [show a + k - a = k by omega, hz, Option.elim_some, Bool.not_eq_true'] at this
      exact this), all_drop (fun k z hk hz => by
      have hk' := (List.getElem?_eq_some_iff.1 hz).1
      have := r4 (a + k) (by omega) (by omega)
      simp only [show a + k - a = k by omega, hz, Option.elim_some, Bool.not_eq_false'] at this
      exact this)⟩
  subst hA12
  simp only [List.length_append] at hb hs hm h1
  obtain ⟨k, hk⟩ := toHin (sp := sp) y (P ++ A1) A2 Q (by simp; omega)
  rw [mrg_one ho A1 y A2 t1 t2]
  rw [show (P ++ A1).length = r by simp; omega, show r + A2.length = m by omega] at hk
  simp only [List.append_assoc, List.cons_append, List.nil_append] at r5 hk ⊢
  exact toS2 _ _ (sp := sp) a m b r k (by omega) (by omega) (by omega) (by omega) r5 hk
theorem toG {sp : List Sp} (l l1 l2 l3 : List (Ix sp))  (a m b mid s e lo hi : Nat) (hm : m ≠ a + 1) (hb : b ≠ m + 1) (ham : a < m) (hmb : m < b) (hs : b ≤ 500000) (hmid : mid = (a + b) / 2) (he : e = mid + m - s) (hse : s ≤ mid + m) (hL : mid < m → lo = mid + m - b ∧ hi = mid) (hM : ¬ mid < m → lo = a ∧ hi = m) (hl : LoopC Try.prog 2 220 toZB (toZ l (sp := sp) a m b mid (mid + m) lo hi (mid + m - 1)) (.exit 8) (toZ l (sp := sp) a m b mid (mid + m) s s (mid + m - 1))) (hR : s < m ∧ m < e → Contract Try.prog 34 [.own 0, I ((s : Nat) : Int), I ((m : Nat) : Int), I ((e : Nat) : Int), .clo (.func 28) [] [.ptr 1 0 0 0]] [.arr 1 ((l).map Ix.row), .box [.sl 10 (sp.map Sp.row)]] (.tup []) [some (.arr 1 ((l1).map Ix.row)), some (.box [.sl 10 (sp.map Sp.row)])]) (hR0 : ¬ (s < m ∧ m < e) → l1 = l) (hS : a < s ∧ s < mid → Contract Try.prog 33 [.own 0, I ((a : Nat) : Int), I ((s : Nat) : Int), I ((mid : Nat) : Int), .clo (.func 28) [] [.ptr 1 0 0 0]] [.arr 1 ((l1).map Ix.row), .box [.sl 10 (sp.map Sp.row)]] (.tup []) [some (.arr 1 ((l2).map Ix.row)), some (.box [.sl 10 (sp.map Sp.row)])]) (hS0 : ¬ (a < s ∧ s < mid) → l2 = l1) (hT : mid < e ∧ e < b → Contract Try.prog 33 [.own 0, I ((mid : Nat) : Int), I ((e : Nat) : Int), I ((b : Nat) : Int), .clo (.func 28) [] [.ptr 1 0 0 0]] [.arr 1 ((l2).map Ix.row), .box [.sl 10 (sp.map Sp.row)]] (.tup []) [some (.arr 1 ((l3).map Ix.row)), some (.box [.sl 10 (sp.map Sp.row)])]) (hT0 : ¬ (mid < e ∧ e < b) → l3 = l2) :
    Contract Try.prog 33 [.own 0, I ((a : Nat) : Int), I ((m : Nat) : Int), I ((b : Nat) : Int), .clo (.func 28) [] [.ptr 1 0 0 0]] [.arr 1 ((l).map Ix.row), .box [.sl 10 (sp.map Sp.row)]] (.tup []) [some (.arr 1 ((l3).map Ix.row)), some (.box [.sl 10 (sp.map Sp.row)])] := by
  have ht := toTT l l1 l2 l3 (sp := sp) a m b mid s e hR hR0 hS hS0 hT hT0
  by_cases hmg : mid < m
  · obtain ⟨g1, g2⟩ := hL hmg
    rw [g1, g2] at hl
    exact toG1 _ _ (sp := sp) a m b mid s e hm hb ham hmb (by omega) hmid hmg he hse hl ht
  · obtain ⟨g1, g2⟩ := hM hmg
    rw [g1, g2] at hl
    exact toG0 _ _ (sp := sp) a m b mid s e hm hb ham hmb (by omega) hmid hmg he hse hl ht
/-- Two parts in order are merged in place. -/
theorem toSym {sp : List Sp}  (ho : Swo (toLt (sp := sp))) : ∀ (d : Nat) (P A B Q : List (Ix sp)) (a m b : Nat), A.length + B.length ≤ d → 0 < A.length → 0 < B.length → Srt (toLt (sp := sp)) A → Srt (toLt (sp := sp)) B → a = P.length → m = P.length + A.length → b = P.length + A.length + B.length → P.length + A.length + B.length + Q.length ≤ 500000 →
    Contract Try.prog 33 [.own 0, I ((a : Nat) : Int), I ((m : Nat) : Int), I ((b : Nat) : Int), .clo (.func 28) [] [.ptr 1 0 0 0]] [.arr 1 ((P ++ A ++ B ++ Q).map Ix.row), .box [.sl 10 (sp.map Sp.row)]] (.tup []) [some (.arr 1 ((P ++ mrg (toLt (sp := sp)) A B ++ Q).map Ix.row)), some (.box [.sl 10 (sp.map Sp.row)])]
  | 0, P, A, B, Q, a, m, b, hd, hA, _, _, _, _, _, _, _ => by omega
  | d + 1, P, A, B, Q, a, m, b, hd, hA, hB, sA, sB, ha, hm, hb, hs => by
    by_cases c1 : A.length = 1
    · obtain ⟨x, rfl⟩ := List.length_eq_one_iff.1 c1
      exact toSym1 (sp := sp) ho P x B Q a m b sB ha (by simpa using hm) (by simpa using hb) (by simpa using hs)
    by_cases c2 : B.length = 1
    · obtain ⟨y, rfl⟩ := List.length_eq_one_iff.1 c2
      exact toSym2 (sp := sp) ho P y A Q a m b sA c1 ha hm (by simpa using hb) (by simp at hs; omega)
    have hfst : ∀ h, a ≤ h → h < m → ∃ z, (P ++ A ++ B ++ Q)[h]? = some z ∧ A[h - a]? = some z := fun h h1 h2 => by
      have := at_fst (P := P) (A := A) (B := B) (Q := Q) (h := h) (by omega) (by omega)
      rwa [← ha] at this
    have hsnd : ∀ h, m ≤ h → h < b → ∃ z, (P ++ A ++ B ++ Q)[h]? = some z ∧ B[h - m]? = some z := fun h h1 h2 => by
      have := at_snd (P := P) (A := A) (B := B) (Q := Q) (h := h) (by omega) (by omega)
      rwa [← hm] at this
    generalize hmid : (a + b) / 2 = mid
    obtain ⟨lo, hi, hL, hM, b1, b2, b3, b4, b5⟩ : ∃ lo hi : Nat, (mid < m → lo = mid + m - b ∧ hi = mid) ∧ (¬ mid < m → lo = a ∧ hi = m) ∧ a ≤ lo ∧ lo ≤ hi ∧ hi ≤ m ∧ m + hi ≤ mid + m ∧ mid + m ≤ lo + b := by
      by_cases hmg : mid < m
      · exact ⟨mid + m - b, mid, fun _ => ⟨rfl, rfl⟩, fun h => absurd hmg h, by omega, by omega, by omega, by omega, by omega⟩
      · exact ⟨a, m, fun h => absurd h hmg, fun _ => ⟨rfl, rfl⟩, by omega, by omega, by omega, by omega, by omega⟩
    obtain ⟨s, r1, r2, r3, r4, r5⟩ := LoopC.half (fun h => (A[h - a]?).elim false (fun x => (B[mid + m - 1 - h - m]?).elim false (fun y => !((toLt (sp := sp)) y x)))) (fun i j => toZ (P ++ A ++ B ++ Q) (sp := sp) a m b mid (mid + m) i j (mid + m - 1)) (e := .exit 8) (by simp) lo hi
      (fun i j h1 h2 h3 hp => by
        obtain ⟨x, x1, x2⟩ := hfst j (by omega) (by omega)
        obtain ⟨y, y1, y2⟩ := hsnd (mid + m - 1 - j) (by omega) (by omega)
        obtain ⟨z, z1, z2⟩ := hfst i (by omega) (by omega)
        obtain ⟨w, w1, w2⟩ := hsnd (mid + m - 1 - i) (by omega) (by omega)
        simp only [x2, y2, z2, w2, Option.elim_some, Bool.not_eq_true'] at hp ⊢
        exact ho.trans (ho.trans (Srt.le ho sA (by omega) z2 x2) hp) (Srt.le ho sB (by omega) y2 w2))
      (fun i j h1 h2 h3 hp => by
        obtain ⟨x, x1, x2⟩ := hfst ((i + j) / 2) (by omega) (by omega)
        obtain ⟨y, y1, y2⟩ := hsnd (mid + m - 1 - (i + j) / 2) (by omega) (by omega)
        simp only [x2, y2, Option.elim_some, Bool.not_eq_true'] at hp
        exact toZgo _ (sp := sp) a m b mid (mid + m) i j (mid + m - 1) y x h2 (by omega) (by omega) (by omega) y1 x1 hp)
      (fun i j h1 h2 h3 hp => by
        obtain ⟨x, x1, x2⟩ := hfst ((i + j) / 2) (by omega) (by omega)
        obtain ⟨y, y1, y2⟩ := hsnd (mid + m - 1 - (i + j) / 2) (by omega) (by omega)
        simp only [x2, y2, Option.elim_some, Bool.not_eq_false'] at hp
        exact toZba _ (sp := sp) a m b mid (mid + m) i j (mid + m - 1) y x h2 (by omega) (by omega) (by omega) y1 x1 hp)
      (fun i h1 h2 => toZz _ (sp := sp) a m b mid (mid + m) i i (mid + m - 1) (Nat.le_refl _)) b2
    have k1 : ∀ i j x y, A[i]? = some x → B[j]? = some y → a + i < s → mid + m - s ≤ m + j → (toLt (sp := sp)) y x = false := fun i j x y hx hy g1 g2 => by
      have hj := (List.getElem?_eq_some_iff.1 hy).1
      by_cases hlo : s = lo
      · by_cases hmg : mid < m
        · have := hL hmg; omega
        · have := hM hmg; omega
      obtain ⟨x', x1, x2⟩ := hfst (s - 1) (by omega) (by omega)
      obtain ⟨y', y1, y2⟩ := hsnd (mid + m - 1 - (s - 1)) (by omega) (by omega)
      have hp := r3 (s - 1) (by omega) (by omega)
      simp only [x2, y2, Option.elim_some, Bool.not_eq_true'] at hp
      exact ho.trans (ho.trans (Srt.le ho sA (by omega) hx x2) hp) (Srt.le ho sB (by omega) y2 hy)
    have k2 : ∀ i j x y, A[i]? = some x → B[j]? = some y → s ≤ a + i → m + j < mid + m - s → (toLt (sp := sp)) y x = true := fun i j x y hx hy g1 g2 => by
      have hi' := (List.getElem?_eq_some_iff.1 hx).1
      by_cases hlo : s = hi
      · by_cases hmg : mid < m
        · have := hL hmg; omega
        · have := hM hmg; omega
      obtain ⟨x', x1, x2⟩ := hfst s (by omega) (by omega)
      obtain ⟨y', y1, y2⟩ := hsnd (mid + m - 1 - s) (by omega) (by omega)
      have hp := r4 s (by omega) (by omega)
      simp only [x2, y2, Option.elim_some, Bool.not_eq_false'] at hp
      exact ho.lt_of_lt_le (ho.lt_of_le_lt (Srt.le ho sB (by omega) hy y2) hp) (Srt.le ho sA (by omega) x2 hx)
    obtain ⟨A1, A2, B1, B2, hA12, hB12, lA1, lB1, sA1, sA2, sB1, sB2, t1, t2⟩ : ∃ A1 A2 B1 B2, A = A1 ++ A2 ∧ B = B1 ++ B2 ∧ A1.length = s - a ∧ B1.length = mid - s ∧ Srt (toLt (sp := sp)) A1 ∧ Srt (toLt (sp := sp)) A2 ∧ Srt (toLt (sp := sp)) B1 ∧ Srt (toLt (sp := sp)) B2 ∧ (∀ x ∈ A1, ∀ y ∈ B2, (toLt (sp := sp)) y x = false) ∧ (∀ y ∈ B1, ∀ x ∈ A2, (toLt (sp := sp)) y x = true) :=
      ⟨A.take (s - a), A.drop (s - a), B.take (mid - s), B.drop (mid - s), (List.take_append_drop _ _).symm, (List.take_append_drop _ _).symm, (by rw [List.length_take]; omega), (by rw [List.length_take]; omega),
        sA.take _, sA.drop _, sB.take _, sB.drop _,
        all_take (fun i x hi hx => all_drop (fun j y hj hy => k1 i j x y hx hy (by omega) (by omega))),
        all_take (fun j y hj hy => all_drop (fun i x hi hx => k2 i j x y hx hy (by omega) (by omega)))⟩
    subst hA12 hB12
    simp only [List.length_append] at hd hA hB hm hb hs c1 c2
    rw [mrg_append ho A1 B1 A2 B2 t1 t2]
    refine toG _ (P ++ A1 ++ B1 ++ A2 ++ B2 ++ Q) (P ++ mrg (toLt (sp := sp)) A1 B1 ++ A2 ++ B2 ++ Q) _ (sp := sp) a m b mid s (mid + m - s) lo hi (by omega) (by omega) (by omega) (by omega) (by omega) hmid.symm rfl (by omega) hL hM r5 ?_ ?_ ?_ ?_ ?_ ?_
    · intro q
      have := toRot (sp := sp) (P ++ A1) A2 B1 (B2 ++ Q) s m (mid + m - s) (by omega) (by omega) (by simp; omega) (by simp; omega) (by simp; omega) (by simp; omega)
      simp only [List.append_assoc, List.cons_append, List.nil_append] at this ⊢
      exact this
    · intro q
      have : A2 = [] ∨ B1 = [] := by
        rcases Nat.eq_zero_or_pos A2.length with h | h
        · exact .inl (List.eq_nil_of_length_eq_zero h)
        · rcases Nat.eq_zero_or_pos B1.length with h' | h'
          · exact .inr (List.eq_nil_of_length_eq_zero h')
          · exact absurd ⟨by omega, by omega⟩ q
      rcases this with rfl | rfl <;> simp
    · intro q
      have := toSym (sp := sp) ho d P A1 B1 (A2 ++ B2 ++ Q) a s mid (by omega) (by omega) (by omega) sA1 sB1 ha (by omega) (by omega) (by simp; omega)
      simp only [List.append_assoc, List.cons_append, List.nil_append] at this ⊢
      exact this
    · intro q
      have : A1 = [] ∨ B1 = [] := by
        rcases Nat.eq_zero_or_pos A1.length with h | h
        · exact .inl (List.eq_nil_of_length_eq_zero h)
        · rcases Nat.eq_zero_or_pos B1.length with h' | h'
          · exact .inr (List.eq_nil_of_length_eq_zero h')
          · exact absurd ⟨by omega, by omega⟩ q
      rcases this with rfl | rfl
      · rw [mrg_nil_l]; simp
      · rw [mrg_nil_r]; simp
    · intro q
      have := toSym (sp := sp) ho d (P ++ mrg (toLt (sp := sp)) A1 B1) A2 B2 Q mid (mid + m - s) b (by omega) (by omega) (by omega) sA2 sB2 (by simp [mrg_len]; omega) (by simp [mrg_len]; omega) (by simp [mrg_len]; omega) (by simp [mrg_len]; omega)
      simp only [List.append_assoc, List.cons_append, List.nil_append] at this ⊢
      exact this
    · intro q
      have : A2 = [] ∨ B2 = [] := by
        rcases Nat.eq_zero_or_pos A2.length with h | h
        · exact .inl (List.eq_nil_of_length_eq_zero h)
        · rcases Nat.eq_zero_or_pos B2.length with h' | h'
          · exact .inr (List.eq_nil_of_length_eq_zero h')
          · exact absurd ⟨by omega, by omega⟩ q
      rcases this with rfl | rfl
      · rw [mrg_nil_l]; simp
      · rw [mrg_nil_r]; simp
end Go.Proofs.Ythhggnnfiohnpaa

