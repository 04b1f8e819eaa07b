/- What all texts of a seat use. -/
import Derived.Test.YtfpdlamjlbpmkaaChecked
import Derived.Laws.Strings
import Derived.Test.YtfpdlamjlbpmkaaMgKeepsP2
namespace Go.Proofs.Ytfpdlamjlbpmkaa
open E
set_option maxRecDepth 100000

theorem hmix : Try.prog.follows .mixedOrders = true := by kernel_rfl

def U (n : Int) : V := .val (.int .u64 n)
end Go.Proofs.Ytfpdlamjlbpmkaa

/- Strings in their order, and what is compared by several parts. -/
namespace Go.Proofs.Ytfpdlamjlbpmkaa
open E
set_option maxRecDepth 100000

theorem bytesLess_lt : ∀ (x y : List UInt8), Op.bytesLess x y = true ↔ x < y
  | x, [] => by cases x <;> simp [Op.bytesLess]
  | [], _ :: _ => by simp [Op.bytesLess]
  | a :: x, b :: y => by simp [Op.bytesLess, List.cons_lt_cons_iff, bytesLess_lt x y]

def ltS (s t : ByteArray) : Bool := Op.bytesLess s.toList t.toList
/-- How two texts stand to one another: -1, 0, 1. -/
def cmpS (s t : ByteArray) : Int := bif ltS s t then -1 else bif (!(ltS s t || s.toList == t.toList)) then 1 else 0
def orI (a b : Int) : Int := bif a != 0 then a else b

theorem toList_inj {s t : ByteArray} (h : s.toList = t.toList) : s = t := by
  rw [ByteArray.toList_eq, ByteArray.toList_eq] at h
  have : s.data = t.data := Array.toList_inj.1 h
  cases s; cases t; simp_all

theorem ltS_iff (s t : ByteArray) : ltS s t = true ↔ s.toList < t.toList := bytesLess_lt _ _
theorem ltS_irrefl (s : ByteArray) : ltS s s = false := by
  rw [Bool.eq_false_iff, ne_eq, ltS_iff]; exact List.lt_irrefl _
theorem ltS_trans {s t u : ByteArray} (h : ltS s t = true) (k : ltS t u = true) : ltS s u = true := by
  rw [ltS_iff] at h k ⊢; exact List.lt_trans h k
theorem ltS_total {s t : ByteArray} (h : ltS s t = false) (k : ltS t s = false) : s = t := by
  rw [Bool.eq_false_iff, ne_eq, ltS_iff] at h k
  exact toList_inj (List.le_antisymm (List.not_lt.1 k) (List.not_lt.1 h))
theorem ltS_asymm {s t : ByteArray} (h : ltS s t = true) : ltS t s = false := by
  cases k : ltS t s with
  | false => rfl
  | true => have := ltS_trans h k; rw [ltS_irrefl] at this; cases this

theorem cmpS_cases (s t : ByteArray) : (cmpS s t = -1 ∧ ltS s t = true) ∨ (cmpS s t = 0 ∧ s = t) ∨ (cmpS s t = 1 ∧ ltS t s = true) := by
  unfold cmpS
  cases h : ltS s t with
  | true => left; simp
  | false =>
    right
    by_cases e : s = t
    · left; subst e; simp
    · right
      have hne : (s.toList == t.toList) = false := by
        rw [beq_eq_false_iff_ne]; exact fun h => e (toList_inj h)
      refine ⟨by simp [hne], ?_⟩
      cases k : ltS t s with
      | true => rfl
      | false => exact absurd (ltS_total h k) e

theorem cmpS_self (s : ByteArray) : cmpS s s = 0 := by
  rcases cmpS_cases s s with ⟨_, h⟩ | ⟨h, _⟩ | ⟨_, h⟩
  · rw [ltS_irrefl] at h; cases h
  · exact h
  · rw [ltS_irrefl] at h; cases h
theorem cmpS_zero {s t : ByteArray} : cmpS s t = 0 ↔ s = t := by
  constructor
  · intro h
    rcases cmpS_cases s t with ⟨k, _⟩ | ⟨_, e⟩ | ⟨k, _⟩
    · omega
    · exact e
    · omega
  · rintro rfl; exact cmpS_self s
theorem cmpS_neg {s t : ByteArray} : cmpS s t < 0 ↔ ltS s t = true := by
  constructor
  · intro h
    rcases cmpS_cases s t with ⟨_, e⟩ | ⟨k, _⟩ | ⟨k, _⟩
    · exact e
    · omega
    · omega
  · intro h
    rcases cmpS_cases s t with ⟨k, _⟩ | ⟨_, e⟩ | ⟨_, k⟩
    · omega
    · subst e; rw [ltS_irrefl] at h; cases h
    · rw [ltS_asymm h] at k; cases k
theorem cmpS_flip (s t : ByteArray) : cmpS t s = - cmpS s t := by
  rcases cmpS_cases s t with ⟨k, e⟩ | ⟨k, e⟩ | ⟨k, e⟩
  · rcases cmpS_cases t s with ⟨k2, e2⟩ | ⟨k2, e2⟩ | ⟨k2, e2⟩
    · rw [ltS_asymm e] at e2; cases e2
    · subst e2; rw [ltS_irrefl] at e; cases e
    · omega
  · subst e; rw [k]; rfl
  · rcases cmpS_cases t s with ⟨k2, e2⟩ | ⟨k2, e2⟩ | ⟨k2, e2⟩
    · omega
    · subst e2; rw [ltS_irrefl] at e; cases e
    · rw [ltS_asymm e] at e2; cases e2

theorem ba_beq (s t : ByteArray) : (s == t) = true ↔ s = t := by
  cases s with | mk a => cases t with | mk b =>
  show (a == b) = true ↔ _
  simp
theorem ba_refl (s : ByteArray) : (s == s) = true := (ba_beq s s).2 rfl

def FNaN : List V → Option V := fun _ => some (Bo false)
def FCmp : List V → Option V
  | [.val (.string a), .val (.string b)] => some (I (cmpS a b))
  | _ => none
def FOr : List V → Option V
  | [.sl _ [[.val (.int _ a)], [.val (.int _ b)]]] => some (I (orI a b))
  | [.sl _ [[.val (.int _ a)], [.val (.int _ b)], [.val (.int _ c)]]] => some (I (orI a (orI b c)))
  | [.sl _ [[.val (.int _ a)], [.val (.int _ b)], [.val (.int _ c)], [.val (.int _ d)]]] => some (I (orI a (orI b (orI c d))))
  | _ => none
end Go.Proofs.Ytfpdlamjlbpmkaa

/- spans. -/
namespace Go.Proofs.Ytfpdlamjlbpmkaa
open E
set_option maxRecDepth 100000
set_option linter.unusedVariables false
set_option linter.unusedSimpArgs false


/-- An attribute. -/
structure At where
  key : ByteArray
  val : ByteArray
def At.row (a : At) : List V := [Sg a.key, Sg a.val]
def At.v (a : At) : V := .agg a.row
/-- A span. -/
structure Sp where
  hi : Int
  lo : Int
  id : Int
  par : Int
  svc : ByteArray
  op : ByteArray
  start : Int
  dur : Int
  err : Bool
  attrs : List At
def Sp.row (s : Sp) : List V := [U s.hi, U s.lo, U s.id, U s.par, Sg s.svc, Sg s.op, I s.start, I s.dur, Bo s.err, .sl 2 (s.attrs.map At.row)]
def Sp.v (s : Sp) : V := .agg s.row
def withinB (n lo hi : Int) : Bool := decide (n ≥ lo) && decide (n ≤ hi)
def nameB (s : ByteArray) : Bool := withinB (s.size : Int) 1 16
def pKey (a y : At) : Bool := y.key.toList == a.key.toList
def FName : List V → Option V
  | [.val (.string s)] => some (Bo (nameB s))
  | _ => none
/-- What is wrong with an attribute. -/
def badA (l : List At) (i : Nat) (a : At) : Bool := !nameB a.key || decide ((a.val.size : Int) > 16) || decide (0 ≤ idxI (pKey a) (l.take i))
def attrsB (l : List At) : Bool := (List.range l.length).all (fun i => match l[i]? with
  | some a => !badA l i a
  | none => true) && decide ((l.length : Int) ≤ 4)
def rightS (s : Sp) : Bool := nameB s.svc && nameB s.op && withinB s.start 0 1099511627776 && withinB s.dur 0 1073741824 && decide ((s.attrs.length : Int) ≤ 4) && attrsB s.attrs
theorem all_of_idx {α : Type} {p : α → Bool} {l : List α} (h : ∀ (i : Nat) (x : α), l[i]? = some x → p x = false) : l.all (fun a => !p a) = true := by
  rw [List.all_eq_true]
  intro x hx
  obtain ⟨i, hi⟩ := List.mem_iff_getElem?.1 hx
  rw [h i x hi]; rfl
theorem all_not {α : Type} {p : α → Bool} {l : List α} {i : Nat} {x : α} (h : l[i]? = some x) (hp : p x = true) : l.all (fun a => !p a) = false := by
  rw [List.all_eq_false]
  exact ⟨x, List.mem_of_getElem? h, by rw [hp]; simp⟩
theorem attrs_bad {l : List At} {i : Nat} {a : At} (h : l[i]? = some a) (hb : badA l i a = true) : attrsB l = false := by
  unfold attrsB
  rw [Bool.and_eq_false_iff]
  left
  rw [List.all_eq_false]
  exact ⟨i, List.mem_range.2 (List.getElem?_eq_some_iff.1 h).1, by rw [h]; simp [hb]⟩
theorem attrs_good {l : List At} (h : ∀ (i : Nat) (a : At), l[i]? = some a → badA l i a = false) : attrsB l = decide ((l.length : Int) ≤ 4) := by
  unfold attrsB
  have : ((List.range l.length).all fun i => match l[i]? with
    | some a => !badA l i a
    | none => true) = true := by
    rw [List.all_eq_true]
    intro i hi
    cases hx : l[i]? with
    | none => rfl
    | some a => simp [h i a hx]
  rw [this, Bool.true_and]
end Go.Proofs.Ytfpdlamjlbpmkaa

/- Sorting that keeps the order of equals: plain lists. -/
namespace Go.Proofs.Ytfpdlamjlbpmkaa
set_option linter.unusedVariables false
set_option linter.unusedSimpArgs false

section
variable {α : Type} (lt : α → α → Bool)
/-- Two lists, merged: the first one's is ahead but where the second one's is less. -/
def mrg : List α → List α → List α
  | [], B => B
  | A, [] => A
  | a :: A, b :: B => bif lt b a then b :: mrg (a :: A) B else a :: mrg A (b :: B)
termination_by A B => A.length + B.length
variable {lt}
theorem mrg_nil_l (B : List α) : mrg lt [] B = B := by rw [mrg]
theorem mrg_nil_r : ∀ A : List α, mrg lt A [] = A
  | [] => by rw [mrg]
  | a :: A => by rw [mrg]; simp
theorem mrg_cons (a b : α) (A B : List α) : mrg lt (a :: A) (b :: B) = bif lt b a then b :: mrg lt (a :: A) B else a :: mrg lt A (b :: B) := by rw [mrg]

/-- A strict weak order. -/
structure Swo (lt : α → α → Bool) : Prop where
  asymm : ∀ {a b}, lt a b = true → lt b a = false
  trans : ∀ {a b c}, lt b a = false → lt c b = false → lt c a = false       -- a ≤ b ≤ c
variable (lt) in
/-- In order. -/
def Srt (l : List α) : Prop := l.Pairwise (fun a b => lt b a = false)

theorem Swo.lt_of_lt_le {lt : α → α → Bool} (h : Swo lt) {a b c : α} (h1 : lt a b = true) (h2 : lt c b = false) : lt a c = true := by
  -- a < b ≤ c
  cases h3 : lt a c with
  | true => rfl
  | false =>
    have := h.trans (a := b) (b := c) (c := a) h2 h3
    rw [this] at h1; cases h1
theorem Swo.lt_of_le_lt {lt : α → α → Bool} (h : Swo lt) {a b c : α} (h1 : lt b a = false) (h2 : lt b c = true) : lt a c = true := by
  -- a ≤ b < c
  cases h3 : lt a c with
  | true => rfl
  | false =>
    have := h.trans (a := c) (b := a) (c := b) h3 h1
    rw [this] at h2; cases h2

theorem mrg_len : ∀ A B : List α, (mrg lt A B).length = A.length + B.length
  | [], B => by rw [mrg_nil_l]; simp
  | a :: A, [] => by rw [mrg_nil_r]; simp
  | a :: A, b :: B => by
    rw [mrg_cons]
    cases lt b a with
    | true => simp only [cond_true, List.length_cons, mrg_len (a :: A) B]; omega
    | false => simp only [cond_false, List.length_cons, mrg_len A (b :: B)]; omega
termination_by A B => A.length + B.length

theorem mrg_mem : ∀ (A B : List α) (z : α), z ∈ mrg lt A B → z ∈ A ∨ z ∈ B
  | [], B, z, h => by rw [mrg_nil_l] at h; exact .inr h
  | a :: A, [], z, h => by rw [mrg_nil_r] at h; exact .inl h
  | a :: A, b :: B, z, h => by
    rw [mrg_cons] at h
    cases hb : lt b a with
    | true =>
      rw [hb] at h
      simp only [cond_true, List.mem_cons] at h
      rcases h with rfl | h
      · exact .inr (by simp)
      · rcases mrg_mem (a :: A) B z h with h | h
        · exact .inl h
        · exact .inr (by simp [h])
    | false =>
      rw [hb] at h
      simp only [cond_false, List.mem_cons] at h
      rcases h with rfl | h
      · exact .inl (by simp)
      · rcases mrg_mem A (b :: B) z h with h | h
        · exact .inl (by simp [h])
        · exact .inr h
termination_by A B => A.length + B.length

theorem mrg_srt (ho : Swo lt) : ∀ {A B : List α}, Srt lt A → Srt lt B → Srt lt (mrg lt A B)
  | [], B, _, h => by rw [mrg_nil_l]; exact h
  | a :: A, [], h, _ => by rw [mrg_nil_r]; exact h
  | a :: A, b :: B, hA, hB => by
    have hA' := List.pairwise_cons.1 hA
    have hB' := List.pairwise_cons.1 hB
    rw [mrg_cons]
    cases hb : lt b a with
    | true =>
      simp only [cond_true]
      refine List.pairwise_cons.2 ⟨fun z hz => ?_, mrg_srt ho hA hB'.2⟩
      rcases mrg_mem (a :: A) B z hz with h | h
      · have hba := ho.asymm hb
        rcases List.mem_cons.1 h with rfl | h
        · exact hba
        · exact ho.trans hba (hA'.1 z h)
      · exact hB'.1 z h
    | false =>
      simp only [cond_false]
      refine List.pairwise_cons.2 ⟨fun z hz => ?_, mrg_srt ho hA'.2 hB⟩
      rcases mrg_mem A (b :: B) z hz with h | h
      · exact hA'.1 z h
      · rcases List.mem_cons.1 h with rfl | h
        · exact hb
        · exact ho.trans hb (hB'.1 z h)
termination_by A B => A.length + B.length

/-- Cut at places that fit. -/
theorem mrg_append (ho : Swo lt) : ∀ (A1 B1 A2 B2 : List α), (∀ x ∈ A1, ∀ y ∈ B2, lt y x = false) → (∀ y ∈ B1, ∀ x ∈ A2, lt y x = true) → mrg lt (A1 ++ A2) (B1 ++ B2) = mrg lt A1 B1 ++ mrg lt A2 B2
  | [], [], A2, B2, _, _ => by rw [mrg_nil_l]; rfl
  | [], b :: B1, A2, B2, h1, h2 => by
    rw [mrg_nil_l]
    have ih := mrg_append ho [] B1 A2 B2 h1 (fun y hy => h2 y (by simp [hy]))
    rw [mrg_nil_l] at ih
    cases A2 with
    | nil => simp only [List.append_nil, List.nil_append, mrg_nil_l]
    | cons a A2 =>
      have := h2 b (by simp) a (by simp)
      simp only [List.nil_append, List.cons_append] at ih ⊢
      rw [mrg_cons, this]
      simp only [cond_true]
      rw [ih]
  | a :: A1, [], A2, B2, h1, h2 => by
    rw [mrg_nil_r]
    have ih := mrg_append ho A1 [] A2 B2 (fun x hx => h1 x (by simp [hx])) h2
    rw [mrg_nil_r] at ih
    cases B2 with
    | nil => simp only [List.append_nil, mrg_nil_r]
    | cons b B2 =>
      have := h1 a (by simp) b (by simp)
      simp only [List.nil_append, List.cons_append] at ih ⊢
      rw [mrg_cons, this]
      simp only [cond_false]
      rw [ih]
  | a :: A1, b :: B1, A2, B2, h1, h2 => by
    simp only [List.cons_append]
    rw [mrg_cons, mrg_cons]
    cases hb : lt b a with
    | true =>
      simp only [cond_true, List.cons_append]
      have ih := mrg_append ho (a :: A1) B1 A2 B2 h1 (fun y hy => h2 y (by simp [hy]))
      simp only [List.cons_append] at ih
      rw [ih]
    | false =>
      simp only [cond_false, List.cons_append]
      have ih := mrg_append ho A1 (b :: B1) A2 B2 (fun x hx => h1 x (by simp [hx])) h2
      simp only [List.cons_append] at ih
      rw [ih]
termination_by A1 B1 => A1.length + B1.length

theorem mrg_assoc (ho : Swo lt) : ∀ (A B C : List α), mrg lt (mrg lt A B) C = mrg lt A (mrg lt B C)
  | [], B, C => by rw [mrg_nil_l, mrg_nil_l]
  | a :: A, [], C => by rw [mrg_nil_r, mrg_nil_l]
  | a :: A, b :: B, [] => by rw [mrg_nil_r, mrg_nil_r]
  | a :: A, b :: B, c :: C => by
    rw [mrg_cons a b A B, mrg_cons b c B C]
    cases h1 : lt b a with
    | true =>
      cases h2 : lt c b with
      | true =>
        simp only [cond_true]
        rw [mrg_cons, h2]
        have h3 : lt c a = true := by
          have := ho.asymm h1
          exact ho.lt_of_lt_le h2 this
        rw [mrg_cons, h3]
        simp only [cond_true]
        have ih := mrg_assoc ho (a :: A) (b :: B) C
        rw [mrg_cons a b A B, h1] at ih
        simp only [cond_true] at ih
        rw [ih]
      | false =>
        simp only [cond_true, cond_false]
        rw [mrg_cons, h2]
        rw [mrg_cons, h1]
        simp only [cond_true, cond_false]
        rw [mrg_assoc ho (a :: A) B (c :: C)]
    | false =>
      cases h2 : lt c b with
      | true =>
        simp only [cond_true, cond_false]
        cases h3 : lt c a with
        | true =>
          rw [mrg_cons, h3, mrg_cons, h3]
          simp only [cond_true]
          have ih := mrg_assoc ho (a :: A) (b :: B) C
          rw [mrg_cons a b A B, h1] at ih
          simp only [cond_false] at ih
          rw [ih]
        | false =>
          rw [mrg_cons, h3, mrg_cons, h3]
          simp only [cond_false]
          have ih := mrg_assoc ho A (b :: B) (c :: C)
          rw [mrg_cons b c B C, h2] at ih
          simp only [cond_true] at ih
          rw [ih]
      | false =>
        simp only [cond_false]
        have h3 : lt c a = false := ho.trans h1 h2
        rw [mrg_cons, h3, mrg_cons, h1]
        simp only [cond_false]
        have ih := mrg_assoc ho A (b :: B) (c :: C)
        rw [mrg_cons b c B C, h2] at ih
        simp only [cond_false] at ih
        rw [ih]
termination_by A B C => A.length + B.length + C.length

variable (lt) in
/-- Sorted, equals in their order. -/
def srt (l : List α) : List α := l.foldl (fun L x => mrg lt L [x]) []
theorem srt_snoc (l : List α) (x : α) : srt lt (l ++ [x]) = mrg lt (srt lt l) [x] := by
  unfold srt; rw [List.foldl_append]; rfl
theorem srt_nil : srt lt ([] : List α) = [] := rfl
theorem snoc_ind {P : List α → Prop} (h0 : P []) (h1 : ∀ l a, P l → P (l ++ [a])) (l : List α) : P l := by
  have : ∀ l : List α, P l.reverse := by
    intro l
    induction l with
    | nil => exact h0
    | cons a l ih => rw [List.reverse_cons]; exact h1 _ _ ih
  have h := this l.reverse
  rwa [List.reverse_reverse] at h
theorem srt_len (l : List α) : (srt lt l).length = l.length := by
  refine snoc_ind (P := fun l => (srt lt l).length = l.length) rfl (fun l a ih => ?_) l
  rw [srt_snoc, mrg_len, ih]; simp
theorem srt_srt (ho : Swo lt) (l : List α) : Srt lt (srt lt l) := by
  refine snoc_ind (P := fun l => Srt lt (srt lt l)) List.Pairwise.nil (fun l a ih => ?_) l
  rw [srt_snoc]
  exact mrg_srt ho ih (List.pairwise_singleton _ _)
theorem srt_mem (l : List α) (z : α) : z ∈ srt lt l → z ∈ l := by
  refine snoc_ind (P := fun l => z ∈ srt lt l → z ∈ l) (fun h => h) (fun l a ih h => ?_) l
  rw [srt_snoc] at h
  rcases mrg_mem _ _ z h with h | h
  · simp [ih h]
  · simp at h; simp [h]
theorem srt_append (ho : Swo lt) (l1 l2 : List α) : srt lt (l1 ++ l2) = mrg lt (srt lt l1) (srt lt l2) := by
  refine snoc_ind (P := fun l2 => srt lt (l1 ++ l2) = mrg lt (srt lt l1) (srt lt l2)) ?_ (fun l a ih => ?_) l2
  · rw [List.append_nil, srt_nil, mrg_nil_r]
  · rw [← List.append_assoc, srt_snoc, ih, srt_snoc, mrg_assoc ho]
/-- One put into a list that is in order. -/
theorem mrg_one (ho : Swo lt) : ∀ (A1 : List α) (x : α) (A2 : List α), (∀ y ∈ A1, lt x y = false) → (∀ y ∈ A2, lt x y = true) → mrg lt (A1 ++ A2) [x] = A1 ++ x :: A2 := by
  intro A1 x A2 h1 h2
  have := mrg_append ho A1 [] A2 [x] (fun y hy z hz => by simp at hz; subst hz; exact h1 y hy) (by simp)
  rw [List.nil_append, mrg_nil_r] at this
  rw [this]
  congr 1
  cases A2 with
  | nil => rw [mrg_nil_l]
  | cons a A2 =>
    rw [mrg_cons, h2 a (by simp)]
    simp only [cond_true]
    rw [mrg_nil_r]
theorem mrg_one_l (ho : Swo lt) : ∀ (B1 : List α) (x : α) (B2 : List α), (∀ y ∈ B1, lt y x = true) → (∀ y ∈ B2, lt y x = false) → mrg lt [x] (B1 ++ B2) = B1 ++ x :: B2 := by
  intro B1 x B2 h1 h2
  have := mrg_append ho [] B1 [x] B2 (by simp) (fun y hy z hz => by simp at hz; subst hz; exact h1 y hy)
  rw [List.nil_append, mrg_nil_l] at this
  rw [this]
  congr 1
  cases B2 with
  | nil => rw [mrg_nil_r]
  | cons b B2 =>
    rw [mrg_cons, h2 b (by simp)]
    simp only [cond_false]
    rw [mrg_nil_l]
theorem srt_of_sorted (ho : Swo lt) {l : List α} (h : Srt lt l) : srt lt l = l := by
  refine snoc_ind (P := fun l => Srt lt l → srt lt l = l) (fun _ => rfl) (fun l a ih h => ?_) l h
  have h' := List.pairwise_append.1 h
  rw [srt_snoc, ih h'.1]
  have := mrg_one ho l a [] (fun y hy => h'.2.2 y hy a (by simp)) (by simp)
  simpa using this
end

/-- A place where a test turns, looked for by halves. -/
theorem half_lt {i j : Nat} (h : i < j) : i ≤ (i + j) / 2 ∧ (i + j) / 2 < j := by omega

end Go.Proofs.Ytfpdlamjlbpmkaa

/- A loop that looks by halves; swapping in lists. -/
namespace Go.Proofs.Ytfpdlamjlbpmkaa.E
open Go
set_option linter.unusedSimpArgs false

/-- A loop that looks, by halves, for the place where a test turns. -/
theorem LoopC.half {P : Program} {k n : Nat} {c : Code} (pr : Nat → Bool) (S : Nat → Nat → SL) {e : Ex} (he : e ≠ .normal) (lo hi : Nat) (hmono : ∀ i j, lo ≤ i → i ≤ j → j < hi → pr j = true → pr i = true)
    (hgo : ∀ i j, lo ≤ i → i < j → j ≤ hi → pr ((i + j) / 2) = true → CodeC P k n c (S i j) .normal (S ((i + j) / 2 + 1) j))
    (hback : ∀ i j, lo ≤ i → i < j → j ≤ hi → pr ((i + j) / 2) = false → CodeC P k n c (S i j) .normal (S i ((i + j) / 2)))
    (hend : ∀ i, lo ≤ i → i ≤ hi → CodeC P k n c (S i i) e (S i i)) (hl : lo ≤ hi) :
    ∃ r, lo ≤ r ∧ r ≤ hi ∧ (∀ q, lo ≤ q → q < r → pr q = true) ∧ (∀ q, r ≤ q → q < hi → pr q = false) ∧ LoopC P k n c (S lo hi) e (S r r) := by
  have key : ∀ (d i j : Nat), j - i ≤ d → lo ≤ i → i ≤ j → j ≤ hi → (∀ q, lo ≤ q → q < i → pr q = true) → (∀ q, j ≤ q → q < hi → pr q = false) →
      ∃ r, lo ≤ r ∧ r ≤ hi ∧ (∀ q, lo ≤ q → q < r → pr q = true) ∧ (∀ q, r ≤ q → q < hi → pr q = false) ∧ LoopC P k n c (S i j) e (S r r) := by
    intro d
    induction d with
    | zero =>
      intro i j hd h1 h2 h3 ht hf
      have : i = j := by omega
      subst this
      exact ⟨i, h1, h3, ht, hf, LoopC.last (hend i h1 h3) he⟩
    | succ d ih =>
      intro i j hd h1 h2 h3 ht hf
      by_cases hij : i = j
      · subst hij
        exact ⟨i, h1, h3, ht, hf, LoopC.last (hend i h1 h3) he⟩
      · have hm : i ≤ (i + j) / 2 ∧ (i + j) / 2 < j := by omega
        cases hp : pr ((i + j) / 2) with
        | true =>
          obtain ⟨r, r1, r2, r3, r4, r5⟩ := ih ((i + j) / 2 + 1) j (by omega) (by omega) (by omega) h3
            (fun q q1 q2 => hmono q ((i + j) / 2) q1 (by omega) (by omega) hp) hf
          exact ⟨r, r1, r2, r3, r4, LoopC.next (hgo i j h1 (by omega) h3 hp) r5⟩
        | false =>
          obtain ⟨r, r1, r2, r3, r4, r5⟩ := ih i ((i + j) / 2) (by omega) h1 (by omega) (by omega) ht
            (fun q q1 q2 => by
              cases hq : pr q with
              | false => rfl
              | true => have := hmono ((i + j) / 2) q (by omega) q1 q2 hq; rw [this] at hp; cases hp)
          exact ⟨r, r1, r2, r3, r4, LoopC.next (hback i j h1 (by omega) h3 hp) r5⟩
  exact key (hi - lo) lo hi (Nat.le_refl _) (Nat.le_refl _) hl (Nat.le_refl _) (fun q q1 q2 => by omega) (fun q q1 q2 => by omega)

/-! ### what stands where in a list that is written out -/
section
variable {α : Type} {f : α → List V}
theorem at1 {A B : List α} {x : α} {j : Nat} (h : j = A.length) : ((A ++ x :: B).map f)[j]? = some (f x) := by subst h; simp
theorem at2 {A B : List α} {y x : α} {j : Nat} (h : j = A.length + 1) : ((A ++ y :: x :: B).map f)[j]? = some (f x) := by
  subst h
  rw [List.map_append, List.getElem?_append_right (by simp)]
  simp
theorem at3 {A M B : List α} {x y : α} {j : Nat} (h : j = A.length + 1 + M.length) : ((A ++ x :: (M ++ y :: B)).map f)[j]? = some (f y) := by
  subst h
  rw [List.map_append, List.getElem?_append_right (by simp; omega)]
  simp only [List.length_map, List.map_cons]
  rw [show A.length + 1 + M.length - A.length = M.length + 1 by omega, List.getElem?_cons_succ, List.map_append, List.getElem?_append_right (by simp)]
  simp
theorem set1 {A B : List α} {x z : α} {j : Nat} (h : j = A.length) : ((A ++ x :: B).map f).set j (f z) = (A ++ z :: B).map f := by
  subst h
  rw [← List.map_set]
  congr 1
  rw [List.set_append_right _ _ (by first | omega | (simp; omega))]
  simp
theorem set2 {A B : List α} {y x z : α} {j : Nat} (h : j = A.length + 1) : ((A ++ y :: x :: B).map f).set j (f z) = (A ++ y :: z :: B).map f := by
  subst h
  rw [← List.map_set]
  congr 1
  rw [List.set_append_right _ _ (by first | omega | (simp; omega))]
  simp
theorem set3 {A M B : List α} {x y z : α} {j : Nat} (h : j = A.length + 1 + M.length) : ((A ++ x :: (M ++ y :: B)).map f).set j (f z) = (A ++ x :: (M ++ z :: B)).map f := by
  subst h
  rw [← List.map_set]
  congr 1
  rw [List.set_append_right _ _ (by first | omega | (simp; omega)), show A.length + 1 + M.length - A.length = M.length + 1 by omega, List.set_cons_succ, List.set_append_right _ _ (by first | omega | (simp; omega))]
  simp
end
end Go.Proofs.Ytfpdlamjlbpmkaa.E
namespace Go.Proofs.Ytfpdlamjlbpmkaa.E
open Go
theorem halfW {i j : Nat} (h : i + j ≤ 4000000) : IntKind.i64.wrap (Int.fdiv (IntKind.u64.wrap (IntKind.i64.wrap (Int.ofNat (i + j)))) 2) = Int.ofNat ((i + j) / 2) := by
  rw [i64_small (n := Int.ofNat (i + j)) (by simp only [Int.ofNat_eq_natCast]; omega), u64_small (by simp only [Int.ofNat_eq_natCast]; omega), Int.fdiv_eq_ediv_of_nonneg _ (by omega)]
  simp only [Int.ofNat_eq_natCast]
  rw [i64_small (by omega)]
  omega
end Go.Proofs.Ytfpdlamjlbpmkaa.E

/- episodes: what compares them. -/
namespace Go.Proofs.Ytfpdlamjlbpmkaa
open E
set_option maxRecDepth 100000
set_option linter.unusedVariables false
set_option linter.unusedSimpArgs false


/-- An episode. -/
structure Ep where
  hi : Int
  lo : Int
  first : Int
  last : Int
  sure : Bool
  spans : List Sp
def Ep.row (e : Ep) : List V := [U e.hi, U e.lo, I e.first, I e.last, Bo e.sure, .sl 10 (e.spans.map Sp.row)]
def Ep.v (e : Ep) : V := .agg e.row
def cmpI (a b : Int) : Int := bif decide (a < b) then -1 else bif decide (a > b) then 1 else 0
def or2 (a b : Int) : Int := bif a != 0 then a else b
/-- Which episode's trace is ahead. -/
def cmpE (a b : Ep) : Int := or2 (cmpI a.hi b.hi) (cmpI a.lo b.lo)
def FNaI : List V → Option V := fun _ => some (Bo false)
def FCmpI : List V → Option V
  | [.val (.int _ a), .val (.int _ b)] => some (I (cmpI a b))
  | _ => none
def FOr2 : List V → Option V
  | [.sl _ [[.val (.int _ a)], [.val (.int _ b)]]] => some (I (or2 a b))
  | _ => none
theorem cNaI_0 (n : Int)  : Contract Try.prog 43 [U n] [] (Bo false) ([]) :=
  vcP hmix [.reg 1 [(2, [], some false)]] [] [
      (n != n) = false] (by kernel_rfl)
    (by
      simp only [allP]
      and_intros <;> first
        | (simp; done))

theorem cNaI (n : Int)  : Contract Try.prog 43 [U n] [] (Bo false) [] := by
  exact Contract.cast (by
    first
      | rfl) (by
    first
      | rfl) (cNaI_0 n  )

theorem cCmpI_0 (a b : Int)  (tq0 : (decide (a < b)) = true) : Contract Try.prog 38 [U a, U b] [] (I (-1 : Int)) ([]) :=
  vcP hmix [.reg 9 [(2, [], some true)], .tab [(43, FNaI)]] [] [
      Contract Try.prog (43 : Nat) [V.val (Value.int IntKind.u64 a)] [] (Bo false) [],
      Contract Try.prog (43 : Nat) [V.val (Value.int IntKind.u64 b)] [] (Bo false) [],
      decide (a < b) = true] (by kernel_rfl)
    (by
      have d0 := tq0
      try simp only [Int.ofNat_eq_natCast, List.length_map, Bool.not_eq_true', Bool.not_eq_false', decide_eq_true_eq, decide_eq_false_iff_not] at d0
      simp only [allP]
      and_intros <;> first
        | omega
        | exact cNaI _)

theorem cCmpI_1 (a b : Int)  (tq0 : (decide (a < b)) = false) (tq1 : (decide (a > b)) = true) : Contract Try.prog 38 [U a, U b] [] (I (1 : Int)) ([]) :=
  vcP hmix [.reg 9 [(2, [], some false)], .reg 11 [(2, [], some true)], .tab [(43, FNaI)]] [] [
      Contract Try.prog (43 : Nat) [V.val (Value.int IntKind.u64 a)] [] (Bo false) [],
      Contract Try.prog (43 : Nat) [V.val (Value.int IntKind.u64 b)] [] (Bo false) [],
      decide (a < b) = false,
      decide (a > b) = true] (by kernel_rfl)
    (by
      have d0 := tq0
      have d1 := tq1
      try simp only [Int.ofNat_eq_natCast, List.length_map, Bool.not_eq_true', Bool.not_eq_false', decide_eq_true_eq, decide_eq_false_iff_not] at d0 d1
      simp only [allP]
      and_intros <;> first
        | omega
        | exact cNaI _)

theorem cCmpI_2 (a b : Int)  (tq0 : (decide (a < b)) = false) (tq1 : (decide (a > b)) = false) : Contract Try.prog 38 [U a, U b] [] (I (0 : Int)) ([]) :=
  vcP hmix [.reg 9 [(2, [], some false)], .reg 11 [(2, [], some false)], .tab [(43, FNaI)]] [] [
      Contract Try.prog (43 : Nat) [V.val (Value.int IntKind.u64 a)] [] (Bo false) [],
      Contract Try.prog (43 : Nat) [V.val (Value.int IntKind.u64 b)] [] (Bo false) [],
      decide (a < b) = false,
      decide (a > b) = false] (by kernel_rfl)
    (by
      have d0 := tq0
      have d1 := tq1
      try simp only [Int.ofNat_eq_natCast, List.length_map, Bool.not_eq_true', Bool.not_eq_false', decide_eq_true_eq, decide_eq_false_iff_not] at d0 d1
      simp only [allP]
      and_intros <;> first
        | omega
        | exact cNaI _)

theorem cCmpI (a b : Int)  : Contract Try.prog 38 [U a, U b] [] (I (cmpI a b)) [] := by
  rcases tf (decide (a < b)) with tq0 | tq0
  · exact Contract.cast (by
      first
        | (simp only [cmpI, tq0, cond_true, cond_false]; done)) (by
      first
        | rfl) (cCmpI_0 a b  tq0)
  · rcases tf (decide (a > b)) with tq1 | tq1
    · exact Contract.cast (by
        first
          | (simp only [cmpI, tq0, tq1, cond_true, cond_false]; done)) (by
        first
          | rfl) (cCmpI_1 a b  tq0 tq1)
    · exact Contract.cast (by
        first
          | (simp only [cmpI, tq0, tq1, cond_true, cond_false]; done)) (by
        first
          | rfl) (cCmpI_2 a b  tq0 tq1)

theorem cOr2_0 (a b : Int)  (tq0 : (a != (0 : Int)) = true) : Contract Try.prog 37 [.sl 1 [[I a], [I b]]] [] (I a) ([]) :=
  vcP hmix [.unroll 4, .reg 5 [(2, [], some true)]] [] [
      (0 : Int) ≤ (0 : Int),
      (0 : Int) < (2 : Int),
      (a != (0 : Int)) = true] (by kernel_rfl)
    (by
      have d0 := tq0
      try simp only [Int.ofNat_eq_natCast, List.length_map, Bool.not_eq_true', Bool.not_eq_false', decide_eq_true_eq, decide_eq_false_iff_not] at d0
      simp only [allP]
      and_intros <;> first
        | omega)

theorem cOr2_1 (a b : Int)  (tq0 : (a != (0 : Int)) = false) (tq1 : (b != (0 : Int)) = true) : Contract Try.prog 37 [.sl 1 [[I a], [I b]]] [] (I b) ([]) :=
  vcP hmix [.unroll 4, .reg 5 [(2, [], some false)], .reg 5 [(2, [], some true)]] [] [
      (0 : Int) ≤ (0 : Int),
      (0 : Int) < (2 : Int),
      (a != (0 : Int)) = false,
      (0 : Int) ≤ (1 : Int),
      (1 : Int) < (2 : Int),
      (b != (0 : Int)) = true] (by kernel_rfl)
    (by
      have d0 := tq0
      have d1 := tq1
      try simp only [Int.ofNat_eq_natCast, List.length_map, Bool.not_eq_true', Bool.not_eq_false', decide_eq_true_eq, decide_eq_false_iff_not] at d0 d1
      simp only [allP]
      and_intros <;> first
        | omega)

theorem cOr2_2 (a b : Int)  (tq0 : (a != (0 : Int)) = false) (tq1 : (b != (0 : Int)) = false) : Contract Try.prog 37 [.sl 1 [[I a], [I b]]] [] (I (0 : Int)) ([]) :=
  vcP hmix [.unroll 4, .reg 5 [(2, [], some false)], .reg 5 [(2, [], some false)]] [] [
      (0 : Int) ≤ (0 : Int),
      (0 : Int) < (2 : Int),
      (a != (0 : Int)) = false,
      (0 : Int) ≤ (1 : Int),
      (1 : Int) < (2 : Int),
      (b != (0 : Int)) = false] (by kernel_rfl)
    (by
      have d0 := tq0
      have d1 := tq1
      try simp only [Int.ofNat_eq_natCast, List.length_map, Bool.not_eq_true', Bool.not_eq_false', decide_eq_true_eq, decide_eq_false_iff_not] at d0 d1
      simp only [allP]
      and_intros <;> first
        | omega)

theorem cOr2 (a b : Int)  : Contract Try.prog 37 [.sl 1 [[I a], [I b]]] [] (I (or2 a b)) [] := by
  rcases tf (a != (0 : Int)) with tq0 | tq0
  · exact Contract.cast (by
      first
        | (simp only [or2, tq0, cond_true, cond_false]; done)) (by
      first
        | rfl) (cOr2_0 a b  tq0)
  · rcases tf (b != (0 : Int)) with tq1 | tq1
    · exact Contract.cast (by
        first
          | (simp only [or2, tq0, tq1, cond_true, cond_false]; done)) (by
        first
          | rfl) (cOr2_1 a b  tq0 tq1)
    · exact Contract.cast (by
        first
          | ((try simp only [Int.ofNat_eq_natCast, List.length_map, Bool.not_eq_true', Bool.not_eq_false', decide_eq_true_eq, decide_eq_false_iff_not] at tq0 tq1); simp only [or2, Bool.cond_eq_ite, Bool.and_eq_true, Bool.or_eq_true, Bool.not_eq_true', decide_eq_true_eq, beq_iff_eq, beq_eq_false_iff_ne, ne_eq]; (repeat' split) <;> first | rfl | (exfalso; omega) | omega | (simp_all; done) | (exfalso; simp_all; omega))) (by
        first
          | rfl) (cOr2_2 a b  tq0 tq1)

theorem cCompare_0 (a b : Ep)  : Contract Try.prog 30 [a.v, b.v] [] (I (or2 (cmpI (Ep.hi a) (Ep.hi b)) (cmpI (Ep.lo a) (Ep.lo b)))) ([]) :=
  vcP hmix [.tab [(38, FCmpI), (37, FOr2)]] [] [
      Contract Try.prog (38 : Nat) [V.val (Value.int IntKind.u64 (Ep.hi a)), V.val (Value.int IntKind.u64 (Ep.hi b))] [] (I (cmpI (Ep.hi a) (Ep.hi b))) [],
      Contract Try.prog (38 : Nat) [V.val (Value.int IntKind.u64 (Ep.lo a)), V.val (Value.int IntKind.u64 (Ep.lo b))] [] (I (cmpI (Ep.lo a) (Ep.lo b))) [],
      Contract Try.prog (37 : Nat) [V.sl (1 : Nat) [[I (cmpI (Ep.hi a) (Ep.hi b))], [I (cmpI (Ep.lo a) (Ep.lo b))]]] [] (I (or2 (cmpI (Ep.hi a) (Ep.hi b)) (cmpI (Ep.lo a) (Ep.lo b)))) [],
      true = true] (by kernel_rfl)
    (by
      simp only [allP]
      and_intros <;> first
        | exact cCmpI _ _
        | exact cOr2 _ _
        | (simp; done))

theorem cCompare (a b : Ep)  : Contract Try.prog 30 [a.v, b.v] [] (I (cmpE a b)) [] := by
  exact Contract.cast (by
    first
      | rfl) (by
    first
      | rfl) (cCompare_0 a b  )

end Go.Proofs.Ytfpdlamjlbpmkaa

/- copies of episodes. -/
namespace Go.Proofs.Ytfpdlamjlbpmkaa
open E
set_option maxRecDepth 100000
set_option linter.unusedVariables false
set_option linter.unusedSimpArgs false


/-- Small enough to be copied. -/
def smS (s : Sp) : Prop := s.attrs.length ≤ 1000000
def smE (e : Ep) : Prop := e.spans.length ≤ 1000000 ∧ ∀ s ∈ e.spans, smS s
def scS (l : List Sp) (i : Nat) : SL := ⟨[(0, .own 0), (7, I (l.length : Int)), (8, I (i : Int))], [(0, .arr 10 (l.map Sp.row))], [0]⟩
def ecS (l R : List Ep) (i : Nat) : SL := ⟨[(3, .own 0), (6, .sl 6 (l.map Ep.row)), (7, I (l.length : Int)), (8, I (i : Int))], [(0, .arr 6 (R.map Ep.row))], [0]⟩
noncomputable def scB : Code := codeAt Try.prog 40 [true, true, false, true, false, false]

noncomputable def ecB : Code := codeAt Try.prog 28 [true, true, false, true, false, false]

theorem set_same {α β : Type} {l : List α} {f : α → β} {i : Nat} {x : α} (h : l[i]? = some x) : (l.map f).set i (f x) = l.map f := by
  obtain ⟨h1, h2⟩ := List.getElem?_eq_some_iff.1 h
  rw [← List.map_set, ← h2, List.set_getElem_self]
theorem clfNil_0 (c : Nat)  : Contract Try.prog 45 [.val (.slice none 0 c)] [] (V.sl (2 : Nat) []) ([]) :=
  vcP hmix [.reg 2 [(0, [.idx 2, .idx 1], none)]] [] [
      ] (by kernel_rfl)
    trivial

theorem clfNil (c : Nat)  : Contract Try.prog 45 [.val (.slice none 0 c)] [] (.sl 2 []) [] := by
  exact Contract.cast (by
    first
      | rfl) (by
    first
      | rfl) (clfNil_0 c  )

theorem clfVal_0 (A : Addr) (c : Nat)  : Contract Try.prog 45 [.val (.slice (some A) 0 c)] [] (V.sl (2 : Nat) []) ([]) :=
  vcP hmix [.reg 3 [(3, [.idx 1], none)]] [] [
      (0 : Nat) ≤ (140737488355328 : Nat)] (by kernel_rfl)
    (by
      simp only [allP]
      and_intros <;> first
        | omega)

theorem clfVal (A : Addr) (c : Nat)  : Contract Try.prog 45 [.val (.slice (some A) 0 c)] [] (.sl 2 []) [] := by
  exact Contract.cast (by
    first
      | rfl) (by
    first
      | rfl) (clfVal_0 A c  )

theorem clfCons_0 (rows : List (List V)) (h : rows ≠ []) (hb : rows.length ≤ 1000000) : Contract Try.prog 45 [.sl 2 rows] [] (V.sl (2 : Nat) rows) ([]) :=
  vcP hmix [.reg 3 [(3, [.idx 1], none)]] [] [
      rows ≠ [],
      ((0 : Nat) + List.length rows) * (32 : Nat) ≤ (140737488355328 : Nat)] (by kernel_rfl)
    (by
      simp only [allP]
      and_intros <;> first
        | omega)

theorem clfCons (rows : List (List V)) (h : rows ≠ []) (hb : rows.length ≤ 1000000) : Contract Try.prog 45 [.sl 2 rows] [] (.sl 2 rows) [] := by
  exact Contract.cast (by
    first
      | rfl) (by
    first
      | rfl) (clfCons_0 rows h hb )

theorem clf (rows : List (List V)) (hb : rows.length ≤ 1000000) : Contract Try.prog 45 [.sl 2 rows] [] (.sl 2 rows) [] := by
  by_cases h : rows = []
  · subst h
    exact Contract.slNil clfNil clfVal
  · exact clfCons rows h hb

theorem sc_0 (l : List Sp) (x : Sp) (i : Nat) (hx : l[i]? = some x) (hs : l.length ≤ 1000000) (hm : smS x) : CodeC Try.prog 0 23 scB (scS l i) (Ex.normal) ({ env := [((0 : Nat), V.own (0 : Nat)), ((7 : Nat), I (Int.ofNat (List.length l))), ((8 : Nat), I (Int.ofNat (i + (1 : Nat))))], st := [((0 : Nat), Obj.arr (10 : Nat) (List.map Sp.row l))], ids := [(0 : Nat)] }) :=
  runP hmix [.reg 3 [(0, [], some true)], .reg 5 [(6, [.row (Sp.row x)], none), (7, [.call [] [] (.sl 2 (x.attrs.map At.row)) []], none), (10, [.row (Sp.row x), .beO (l.map Sp.row)], none)], .reg 6 [(0, [.be (I ((i + 1 : Nat) : Int))], none)]] ⟨[0, 7, 8], [(0, 0)], []⟩ [
      decide (Int.ofNat i < Int.ofNat (List.length l)) = true,
      (0 : Int) ≤ Int.ofNat i,
      Int.ofNat i < Int.ofNat (List.length (List.map Sp.row l)),
      (List.map Sp.row l)[i]? = some (Sp.row x),
      Contract Try.prog (45 : Nat) [V.sl (2 : Nat) (List.map At.row (Sp.attrs x))] [] (V.sl (2 : Nat) (List.map At.row (Sp.attrs x))) [],
      (0 : Int) ≤ Int.ofNat i,
      Int.ofNat i < Int.ofNat (List.length (List.map Sp.row l)),
      (List.map Sp.row l)[i]? = some (Sp.row x),
      List.set (List.map Sp.row l) i [V.val (Value.int IntKind.u64 (Sp.hi x)), V.val (Value.int IntKind.u64 (Sp.lo x)), V.val (Value.int IntKind.u64 (Sp.id x)), V.val (Value.int IntKind.u64 (Sp.par x)), Sg (Sp.svc x), Sg (Sp.op x), I (Sp.start x), I (Sp.dur x), Bo (Sp.err x), V.sl (2 : Nat) (List.map At.row (Sp.attrs x))] = List.map Sp.row l,
      IntKind.wrap IntKind.i64 (Int.ofNat (i + (1 : Nat))) = Int.ofNat (i + (1 : Nat))] (by kernel_rfl)
    (by
      simp only [allP]
      and_intros <;> first
        | (have q := (List.getElem?_eq_some_iff.1 hx).1; simp; omega)
        | (simp [hx]; done)
        | (have q := (List.getElem?_eq_some_iff.1 hx).1; exact i64_small (by simp; omega))
        | exact clf _ (by rw [List.length_map]; exact hm)
        | exact set_same hx)

theorem sc (l : List Sp) (x : Sp) (i : Nat) (hx : l[i]? = some x) (hs : l.length ≤ 1000000) (hm : smS x)  : CodeC Try.prog 0 23 scB (scS l i) .normal (scS l (i + 1)) := by
  exact CodeC.cast (by
    first
      | rfl) (sc_0 l x i hx hs hm )

theorem scE_0 (l : List Sp) (i : Nat) (h : l.length ≤ i) : CodeC Try.prog 0 23 scB (scS l i) (Ex.exit (0 : Nat)) ({ env := [((0 : Nat), V.own (0 : Nat)), ((7 : Nat), I (Int.ofNat (List.length l))), ((8 : Nat), I (Int.ofNat i))], st := [((0 : Nat), Obj.arr (10 : Nat) (List.map Sp.row l))], ids := [(0 : Nat)] }) :=
  runP hmix [.reg 3 [(0, [], some false)]] ⟨[0, 7, 8], [(0, 0)], []⟩ [
      decide (Int.ofNat i < Int.ofNat (List.length l)) = false] (by kernel_rfl)
    (by
      simp only [allP]
      and_intros <;> first
        | (simp; omega))

theorem scE (l : List Sp) (i : Nat) (h : l.length ≤ i)  : CodeC Try.prog 0 23 scB (scS l i) (.exit 0) (scS l i) := by
  exact CodeC.cast (by
    first
      | rfl) (scE_0 l i h )

theorem clnSNil (c : Nat) : Contract Try.prog 44 [.val (.slice none 0 c)] [] (.own 0) [some (.arr 10 [])] :=
  vcP hmix [.reg 2 [(0, [.idx 10], none)]] [401000] [
      ] (by kernel_rfl)
    trivial

theorem clnSVal (A : Addr) (c : Nat) : Contract Try.prog 44 [.val (.slice (some A) 0 c)] [] (.own 0) [some (.arr 10 [])] :=
  vcP hmix [] [603000] [
      (0 : Nat) ≤ (140737488355328 : Nat)] (by kernel_rfl)
    (by
      simp only [allP]
      and_intros <;> first
        | omega)

theorem clnSCons (rows : List (List V)) (h : rows ≠ []) (hb : rows.length * 112 ≤ 140737488355328) : Contract Try.prog 44 [.sl 10 rows] [] (.own 0) [some (.arr 10 rows)] :=
  vcP hmix [] [603000] [
      rows ≠ [],
      ((0 : Nat) + List.length rows) * (112 : Nat) ≤ (140737488355328 : Nat)] (by kernel_rfl)
    (by
      simp only [allP]
      and_intros <;> first
        | omega)

theorem clnS (rows : List (List V)) (hb : rows.length * 112 ≤ 140737488355328) : Contract Try.prog 44 [.sl 10 rows] [] (.own 0) [some (.arr 10 rows)] := by
  by_cases h : rows = []
  · subst h
    exact Contract.slNil clnSNil clnSVal
  · exact clnSCons rows h hb

end Go.Proofs.Ytfpdlamjlbpmkaa

/- sorting gleaning/api.Episode: insertion, swapping, rotating. -/
namespace Go.Proofs.Ytfpdlamjlbpmkaa
open E
set_option maxRecDepth 100000
set_option linter.unusedVariables false
set_option linter.unusedSimpArgs false

def soLt  (x y : Ep) : Bool := decide ((cmpE) x y < 0)
def soN (l : List Ep)  (a b i : Nat) : SL := ⟨[(0, .own 0), (1, I (a : Int)), (2, I (b : Int)), (3, .clo (.func 30) [] []), (8, I (i : Int))], [(0, .arr 6 (l.map Ep.row))], [0, 0]⟩
def soM (l : List Ep)  (a b i j : Nat) : SL := ⟨[(0, .own 0), (1, I (a : Int)), (2, I (b : Int)), (3, .clo (.func 30) [] []), (8, I (i : Int)), (9, I (j : Int))], [(0, .arr 6 (l.map Ep.row))], [0, 0]⟩
def soW (l : List Ep)  (a b n i : Nat) : SL := ⟨[(0, .own 0), (1, I (a : Int)), (2, I (b : Int)), (3, I (n : Int)), (10, I (i : Int))], [(0, .arr 6 (l.map Ep.row))], [0, 0]⟩
def soR (l : List Ep)  (m i j : Nat) : SL := ⟨[(0, .own 0), (2, I (m : Int)), (4, .clo (.func 30) [] []), (10, I (i : Int)), (11, I (j : Int))], [(0, .arr 6 (l.map Ep.row))], [0, 0]⟩
noncomputable def soNB : Code := codeAt Try.prog 41 [true, false, false]

noncomputable def soMB : Code := codeAt Try.prog 41 [true, false, false, true, false, false, true, false, false]

noncomputable def soWB : Code := codeAt Try.prog 47 [true, false, false]

noncomputable def soRB : Code := codeAt Try.prog 46 [true, true, false, false, false]

theorem soMgo_0 (A B : List Ep) (x y : Ep)  (a b i j : Nat) (hj : j = A.length + 1) (hl : A.length + B.length ≤ 1000000) (ha : a < j) (hb : soLt  x y = true) : CodeC Try.prog 1 53 soMB (soM (A ++ y :: x :: B)  a b i j) (Ex.normal) ({ env := [((0 : Nat), V.own (0 : Nat)), ((1 : Nat), I (Int.ofNat a)), ((2 : Nat), I (Int.ofNat b)), ((3 : Nat), V.clo (Fn.func (30 : Nat)) [] []), ((8 : Nat), I (Int.ofNat i)), ((9 : Nat), I (Int.ofNat (List.length A)))], st := [((0 : Nat), Obj.arr (6 : Nat) (List.map Ep.row (A ++ x :: y :: B)))], ids := [(0 : Nat), (0 : Nat)] }) :=
  runP hmix [.reg 4 [(3, [], some true), (8, [.row (Ep.row x)], none), (11, [.be (I ((A.length : Nat) : Int))], none), (13, [.row (Ep.row y)], none), (14, [.call [] [] (I ((cmpE) x y)) []], none), (15, [], some true)], .reg 6 [(4, [.be (I ((A.length : Nat) : Int))], none), (7, [.be (I ((A.length : Nat) : Int))], none), (9, [.row (Ep.row y)], none), (13, [.row (Ep.row x)], none), (15, [.row (Ep.row x), .beO ((A ++ y :: y :: B).map Ep.row)], none), (17, [.row (Ep.row y), .beO ((A ++ x :: y :: B).map Ep.row)], none)], .reg 5 [(1, [.be (I ((A.length : Nat) : Int))], none)]] ⟨[0, 1, 2, 3, 8, 9], [(0, 0)], []⟩ [
      decide (Int.ofNat j > Int.ofNat a) = true,
      (0 : Int) ≤ Int.ofNat j,
      Int.ofNat j < Int.ofNat (List.length (List.map Ep.row (A ++ y :: x :: B))),
      (List.map Ep.row (A ++ y :: x :: B))[j]? = some (Ep.row x),
      IntKind.wrap IntKind.i64 (Int.ofNat j + (-1 : Int)) = Int.ofNat (List.length A),
      (0 : Int) ≤ Int.ofNat (List.length A),
      Int.ofNat (List.length A) < Int.ofNat (List.length (List.map Ep.row (A ++ y :: x :: B))),
      (List.map Ep.row (A ++ y :: x :: B))[List.length A]? = some (Ep.row y),
      Contract Try.prog (30 : Nat) [V.agg [V.val (Value.int IntKind.u64 (Ep.hi x)), V.val (Value.int IntKind.u64 (Ep.lo x)), I (Ep.first x), I (Ep.last x), Bo (Ep.sure x), V.sl (10 : Nat) (List.map Sp.row (Ep.spans x))], V.agg [V.val (Value.int IntKind.u64 (Ep.hi y)), V.val (Value.int IntKind.u64 (Ep.lo y)), I (Ep.first y), I (Ep.last y), Bo (Ep.sure y), V.sl (10 : Nat) (List.map Sp.row (Ep.spans y))]] [] (I (cmpE x y)) [],
      decide (cmpE x y < (0 : Int)) = true,
      IntKind.wrap IntKind.i64 (Int.ofNat j + (-1 : Int)) = Int.ofNat (List.length A),
      IntKind.wrap IntKind.i64 (Int.ofNat j + (-1 : Int)) = Int.ofNat (List.length A),
      (0 : Int) ≤ Int.ofNat (List.length A),
      Int.ofNat (List.length A) < Int.ofNat (List.length (List.map Ep.row (A ++ y :: x :: B))),
      (List.map Ep.row (A ++ y :: x :: B))[List.length A]? = some (Ep.row y),
      (0 : Int) ≤ Int.ofNat j,
      Int.ofNat j < Int.ofNat (List.length (List.map Ep.row (A ++ y :: x :: B))),
      (List.map Ep.row (A ++ y :: x :: B))[j]? = some (Ep.row x),
      (0 : Int) ≤ Int.ofNat j,
      Int.ofNat j < Int.ofNat (List.length (List.map Ep.row (A ++ y :: x :: B))),
      (List.map Ep.row (A ++ y :: x :: B))[j]? = some (Ep.row x),
      List.set (List.map Ep.row (A ++ y :: x :: B)) j [V.val (Value.int IntKind.u64 (Ep.hi y)), V.val (Value.int IntKind.u64 (Ep.lo y)), I (Ep.first y), I (Ep.last y), Bo (Ep.sure y), V.sl (10 : Nat) (List.map Sp.row (Ep.spans y))] = List.map Ep.row (A ++ y :: y :: B),
      (0 : Int) ≤ Int.ofNat (List.length A),
      Int.ofNat (List.length A) < Int.ofNat (List.length (List.map Ep.row (A ++ y :: y :: B))),
      (List.map Ep.row (A ++ y :: y :: B))[List.length A]? = some (Ep.row y),
      List.set (List.map Ep.row (A ++ y :: y :: B)) (List.length A) [V.val (Value.int IntKind.u64 (Ep.hi x)), V.val (Value.int IntKind.u64 (Ep.lo x)), I (Ep.first x), I (Ep.last x), Bo (Ep.sure x), V.sl (10 : Nat) (List.map Sp.row (Ep.spans x))] = List.map Ep.row (A ++ x :: y :: B),
      IntKind.wrap IntKind.i64 (Int.ofNat j + (-1 : Int)) = Int.ofNat (List.length A)] (by kernel_rfl)
    (by
      simp only [allP]
      and_intros <;> first
        | exact cCompare x y
        | exact hb
        | (simp; omega)
        | (rw [i64_small (by simp; omega)]; simp; omega)
        | exact at2 (by omega)
        | exact at1 (by omega)
        | exact set2 (by omega)
        | exact set1 (by omega)
        | (subst hj; simp; done)
        | (simp; done))

theorem soMgo (A B : List Ep) (x y : Ep)  (a b i j : Nat) (hj : j = A.length + 1) (hl : A.length + B.length ≤ 1000000) (ha : a < j) (hb : soLt  x y = true)  : CodeC Try.prog 1 53 soMB (soM (A ++ y :: x :: B)  a b i j) .normal (soM (A ++ x :: y :: B)  a b i A.length) := by
  exact CodeC.cast (by
    first
      | rfl) (soMgo_0 A B x y a b i j hj hl ha hb )

theorem soMst_0 (A B : List Ep) (x y : Ep)  (a b i j : Nat) (hj : j = A.length + 1) (hl : A.length + B.length ≤ 1000000) (ha : a < j) (hb : soLt  x y = false) : CodeC Try.prog 1 53 soMB (soM (A ++ y :: x :: B)  a b i j) (Ex.exit (2 : Nat)) ({ env := [((0 : Nat), V.own (0 : Nat)), ((1 : Nat), I (Int.ofNat a)), ((2 : Nat), I (Int.ofNat b)), ((3 : Nat), V.clo (Fn.func (30 : Nat)) [] []), ((8 : Nat), I (Int.ofNat i)), ((9 : Nat), I (Int.ofNat j))], st := [((0 : Nat), Obj.arr (6 : Nat) (List.map Ep.row (A ++ y :: x :: B)))], ids := [(0 : Nat), (0 : Nat)] }) :=
  runP hmix [.reg 4 [(3, [], some true), (8, [.row (Ep.row x)], none), (11, [.be (I ((A.length : Nat) : Int))], none), (13, [.row (Ep.row y)], none), (14, [.call [] [] (I ((cmpE) x y)) []], none), (15, [], some false)]] ⟨[0, 1, 2, 3, 8, 9], [(0, 0)], []⟩ [
      decide (Int.ofNat j > Int.ofNat a) = true,
      (0 : Int) ≤ Int.ofNat j,
      Int.ofNat j < Int.ofNat (List.length (List.map Ep.row (A ++ y :: x :: B))),
      (List.map Ep.row (A ++ y :: x :: B))[j]? = some (Ep.row x),
      IntKind.wrap IntKind.i64 (Int.ofNat j + (-1 : Int)) = Int.ofNat (List.length A),
      (0 : Int) ≤ Int.ofNat (List.length A),
      Int.ofNat (List.length A) < Int.ofNat (List.length (List.map Ep.row (A ++ y :: x :: B))),
      (List.map Ep.row (A ++ y :: x :: B))[List.length A]? = some (Ep.row y),
      Contract Try.prog (30 : Nat) [V.agg [V.val (Value.int IntKind.u64 (Ep.hi x)), V.val (Value.int IntKind.u64 (Ep.lo x)), I (Ep.first x), I (Ep.last x), Bo (Ep.sure x), V.sl (10 : Nat) (List.map Sp.row (Ep.spans x))], V.agg [V.val (Value.int IntKind.u64 (Ep.hi y)), V.val (Value.int IntKind.u64 (Ep.lo y)), I (Ep.first y), I (Ep.last y), Bo (Ep.sure y), V.sl (10 : Nat) (List.map Sp.row (Ep.spans y))]] [] (I (cmpE x y)) [],
      decide (cmpE x y < (0 : Int)) = false] (by kernel_rfl)
    (by
      simp only [allP]
      and_intros <;> first
        | exact cCompare x y
        | exact hb
        | (simp; omega)
        | (rw [i64_small (by simp; omega)]; simp; omega)
        | exact at2 (by omega)
        | exact at1 (by omega)
        | (subst hj; simp; done)
        | (simp; done))

theorem soMst (A B : List Ep) (x y : Ep)  (a b i j : Nat) (hj : j = A.length + 1) (hl : A.length + B.length ≤ 1000000) (ha : a < j) (hb : soLt  x y = false)  : CodeC Try.prog 1 53 soMB (soM (A ++ y :: x :: B)  a b i j) (.exit 2) (soM (A ++ y :: x :: B)  a b i j) := by
  exact CodeC.cast (by
    first
      | rfl) (soMst_0 A B x y a b i j hj hl ha hb )

theorem soMz_0 (l : List Ep)  (a b i j : Nat) (ha : j ≤ a) : CodeC Try.prog 1 53 soMB (soM (l)  a b i j) (Ex.exit (2 : Nat)) ({ env := [((0 : Nat), V.own (0 : Nat)), ((1 : Nat), I (Int.ofNat a)), ((2 : Nat), I (Int.ofNat b)), ((3 : Nat), V.clo (Fn.func (30 : Nat)) [] []), ((8 : Nat), I (Int.ofNat i)), ((9 : Nat), I (Int.ofNat j))], st := [((0 : Nat), Obj.arr (6 : Nat) (List.map Ep.row l))], ids := [(0 : Nat), (0 : Nat)] }) :=
  runP hmix [.reg 4 [(3, [], some false)]] ⟨[0, 1, 2, 3, 8, 9], [(0, 0)], []⟩ [
      decide (Int.ofNat j > Int.ofNat a) = false] (by kernel_rfl)
    (by
      simp only [allP]
      and_intros <;> first
        | (simp; omega))

theorem soMz (l : List Ep)  (a b i j : Nat) (ha : j ≤ a)  : CodeC Try.prog 1 53 soMB (soM (l)  a b i j) (.exit 2) (soM (l)  a b i j) := by
  exact CodeC.cast (by
    first
      | rfl) (soMz_0 l a b i j ha )

theorem soMin  (ho : Swo (soLt )) (P : List Ep) (b i : Nat) (x : Ep) (S : List Ep) : Srt (soLt ) S → ∀ R : List Ep, P.length + S.length + R.length ≤ 1000000 →
    ∃ j', LoopC Try.prog 1 53 soMB (soM (P ++ S ++ x :: R)  P.length b i (P.length + S.length)) (.exit 2) (soM (P ++ mrg (soLt ) S [x] ++ R)  P.length b i j') := by
  refine snoc_ind (P := fun S => Srt (soLt ) S → ∀ R : List Ep, P.length + S.length + R.length ≤ 1000000 → ∃ j', LoopC Try.prog 1 53 soMB (soM (P ++ S ++ x :: R)  P.length b i (P.length + S.length)) (.exit 2) (soM (P ++ mrg (soLt ) S [x] ++ R)  P.length b i j')) ?_ ?_ S
  · intro _ R _
    refine ⟨P.length, ?_⟩
    rw [mrg_nil_l, List.append_nil, List.length_nil, Nat.add_zero]
    simp only [List.append_assoc, List.cons_append, List.nil_append]
    exact LoopC.last (soMz _  _ b i _ (Nat.le_refl _)) (by simp)
  · intro S y ih hs R hR
    have hs' := List.pairwise_append.1 hs
    simp only [List.length_append, List.length_cons, List.length_nil] at hR ⊢
    cases h : soLt  x y with
    | true =>
      obtain ⟨j', hj⟩ := ih hs'.1 (y :: R) (by simp; omega)
      have e : mrg (soLt ) (S ++ [y]) [x] = mrg (soLt ) S [x] ++ [y] := by
        have := mrg_append ho S [x] [y] [] (by simp) (fun z hz w hw => by simp at hz hw; subst hz hw; exact h)
        rwa [mrg_nil_r, List.append_nil] at this
      refine ⟨j', ?_⟩
      rw [e]
      have hr := soMgo (P ++ S) R x y  P.length b i (P.length + (S.length + 1)) (by simp; omega) (by simp; omega) (by omega) h
      rw [show (P ++ S).length = P.length + S.length by simp] at hr
      simp only [List.append_assoc, List.cons_append, List.nil_append] at hr hj ⊢
      exact LoopC.next hr hj
    | false =>
      have e : mrg (soLt ) (S ++ [y]) [x] = S ++ [y, x] := by
        have := mrg_one ho (S ++ [y]) x [] (fun z hz => by
          rcases List.mem_append.1 hz with hz | hz
          · exact ho.trans (hs'.2.2 z hz y (by simp)) h
          · simp at hz; subst hz; exact h) (by simp)
        simpa using this
      refine ⟨P.length + (S.length + 1), ?_⟩
      rw [e]
      have hr := soMst (P ++ S) R x y  P.length b i (P.length + (S.length + 1)) (by simp; omega) (by simp; omega) (by omega) h
      simp only [List.append_assoc, List.cons_append, List.nil_append] at hr ⊢
      exact LoopC.last hr (by simp)

theorem soNgo_0 (l l' : List Ep)  (a b i j : Nat) (hi : i < b) (hb : b ≤ 1000000) (hl : LoopC Try.prog 1 53 soMB (soM (l)  a b i i) (.exit 2) (soM (l')  a b i j)) : CodeC Try.prog 1 53 soNB (soN (l)  a b i) (Ex.normal) ({ env := [((0 : Nat), V.own (0 : Nat)), ((1 : Nat), I (Int.ofNat a)), ((2 : Nat), I (Int.ofNat b)), ((3 : Nat), V.clo (Fn.func (30 : Nat)) [] []), ((8 : Nat), I (Int.ofNat (i + (1 : Nat))))], st := [((0 : Nat), Obj.arr (6 : Nat) (List.map Ep.row l'))], ids := [(0 : Nat), (0 : Nat)] }) :=
  runP hmix [.reg 1 [(2, [], some true)], .cut ⟨[0, 1, 2, 3, 8, 9], [(0, 0)], []⟩ (.exit 2) (soM (l')  a b i j), .reg 2 [(1, [.be (I ((i + 1 : Nat) : Int))], none)]] ⟨[0, 1, 2, 3, 8], [(0, 0)], []⟩ [
      decide (Int.ofNat i < Int.ofNat b) = true,
      LoopC Try.prog (1 : Nat) (53 : Nat) soMB { env := [((0 : Nat), V.own (0 : Nat)), ((1 : Nat), I (Int.ofNat a)), ((2 : Nat), I (Int.ofNat b)), ((3 : Nat), V.clo (Fn.func (30 : Nat)) [] []), ((8 : Nat), I (Int.ofNat i)), ((9 : Nat), I (Int.ofNat i))], st := [((0 : Nat), Obj.arr (6 : Nat) (List.map Ep.row l))], ids := [(0 : Nat), (0 : Nat)] } (Ex.exit (2 : Nat)) { env := [((0 : Nat), V.own (0 : Nat)), ((1 : Nat), I (Int.ofNat a)), ((2 : Nat), I (Int.ofNat b)), ((3 : Nat), V.clo (Fn.func (30 : Nat)) [] []), ((8 : Nat), I (Int.ofNat i)), ((9 : Nat), I (Int.ofNat j))], st := [((0 : Nat), Obj.arr (6 : Nat) (List.map Ep.row l'))], ids := [(0 : Nat), (0 : Nat)] },
      IntKind.wrap IntKind.i64 (Int.ofNat (i + (1 : Nat))) = Int.ofNat (i + (1 : Nat))] (by kernel_rfl)
    (by
      simp only [allP]
      and_intros <;> first
        | (simp; omega)
        | exact hl
        | exact i64_small (by simp; omega))

theorem soNgo (l l' : List Ep)  (a b i j : Nat) (hi : i < b) (hb : b ≤ 1000000) (hl : LoopC Try.prog 1 53 soMB (soM (l)  a b i i) (.exit 2) (soM (l')  a b i j))  : CodeC Try.prog 1 53 soNB (soN (l)  a b i) .normal (soN (l')  a b (i + 1)) := by
  exact CodeC.cast (by
    first
      | rfl) (soNgo_0 l l' a b i j hi hb hl )

theorem soNz_0 (l : List Ep)  (a b i : Nat) (hi : b ≤ i) : CodeC Try.prog 1 53 soNB (soN (l)  a b i) (Ex.exit (0 : Nat)) ({ env := [((0 : Nat), V.own (0 : Nat)), ((1 : Nat), I (Int.ofNat a)), ((2 : Nat), I (Int.ofNat b)), ((3 : Nat), V.clo (Fn.func (30 : Nat)) [] []), ((8 : Nat), I (Int.ofNat i))], st := [((0 : Nat), Obj.arr (6 : Nat) (List.map Ep.row l))], ids := [(0 : Nat), (0 : Nat)] }) :=
  runP hmix [.reg 1 [(2, [], some false)]] ⟨[0, 1, 2, 3, 8], [(0, 0)], []⟩ [
      decide (Int.ofNat i < Int.ofNat b) = false] (by kernel_rfl)
    (by
      simp only [allP]
      and_intros <;> first
        | (simp; omega))

theorem soNz (l : List Ep)  (a b i : Nat) (hi : b ≤ i)  : CodeC Try.prog 1 53 soNB (soN (l)  a b i) (.exit 0) (soN (l)  a b i) := by
  exact CodeC.cast (by
    first
      | rfl) (soNz_0 l a b i hi )

theorem soI0_0 (l l' : List Ep)  (a b i : Nat) (ha : a ≤ 1000000) (hl : LoopC Try.prog 1 53 soNB (soN (l)  a b (a + 1)) (.exit 0) (soN (l')  a b i)) : Contract Try.prog 41 [.own 0, I (a : Int), I (b : Int), .clo (.func 30) [] []] [.arr 6 (l.map Ep.row)] (V.tup []) ([some (Obj.arr (6 : Nat) (List.map Ep.row l'))]) :=
  vcP hmix [.reg 0 [(1, [.be (I ((a + 1 : Nat) : Int))], none)], .cut ⟨[0, 1, 2, 3, 8], [(0, 0)], []⟩ (.exit 0) (soN (l')  a b i)] [] [
      IntKind.wrap IntKind.i64 (Int.ofNat (a + (1 : Nat))) = Int.ofNat (a + (1 : Nat)),
      LoopC Try.prog (1 : Nat) (53 : Nat) soNB { env := [((0 : Nat), V.own (0 : Nat)), ((1 : Nat), I (Int.ofNat a)), ((2 : Nat), I (Int.ofNat b)), ((3 : Nat), V.clo (Fn.func (30 : Nat)) [] []), ((8 : Nat), I (Int.ofNat (a + (1 : Nat))))], st := [((0 : Nat), Obj.arr (6 : Nat) (List.map Ep.row l))], ids := [(0 : Nat), (0 : Nat)] } (Ex.exit (0 : Nat)) { env := [((0 : Nat), V.own (0 : Nat)), ((1 : Nat), I (Int.ofNat a)), ((2 : Nat), I (Int.ofNat b)), ((3 : Nat), V.clo (Fn.func (30 : Nat)) [] []), ((8 : Nat), I (Int.ofNat i))], st := [((0 : Nat), Obj.arr (6 : Nat) (List.map Ep.row l'))], ids := [(0 : Nat), (0 : Nat)] }] (by kernel_rfl)
    (by
      simp only [allP]
      and_intros <;> first
        | exact hl
        | exact i64_small (by simp; omega))

theorem soI0 (l l' : List Ep)  (a b i : Nat) (ha : a ≤ 1000000) (hl : LoopC Try.prog 1 53 soNB (soN (l)  a b (a + 1)) (.exit 0) (soN (l')  a b i)) : Contract Try.prog 41 [.own 0, I (a : Int), I (b : Int), .clo (.func 30) [] []] [.arr 6 (l.map Ep.row)] (.tup []) [some (.arr 6 ((l').map Ep.row))] := by
  exact Contract.cast (by
    first
      | rfl) (by
    first
      | rfl) (soI0_0 l l' a b i ha hl )

theorem soNin  (ho : Swo (soLt )) (P : List Ep) (b : Nat) : ∀ (n : Nat) (S T R : List Ep), T.length = n → b = P.length + S.length + T.length → P.length + S.length + T.length + R.length ≤ 1000000 →
    LoopC Try.prog 1 53 soNB (soN (P ++ srt (soLt ) S ++ (T ++ R))  P.length b (P.length + S.length)) (.exit 0) (soN (P ++ srt (soLt ) (S ++ T) ++ R)  P.length b b)
  | 0, S, T, R, hn, hb, hs => by
    have : T = [] := List.eq_nil_of_length_eq_zero hn
    subst this
    simp only [List.length_nil, Nat.add_zero] at hb
    subst hb
    rw [List.append_nil, List.nil_append]
    exact LoopC.last (soNz _  _ _ _ (Nat.le_refl _)) (by simp)
  | n + 1, S, [], R, hn, hb, hs => by simp at hn
  | n + 1, S, x :: T, R, hn, hb, hs => by
    simp only [List.length_cons] at hn hb hs
    obtain ⟨j, hj⟩ := soMin  ho P b (P.length + S.length) x (srt (soLt ) S) (srt_srt ho S) (T ++ R) (by rw [srt_len]; simp; omega)
    rw [srt_len] at hj
    have hr := soNgo _ _  P.length b (P.length + S.length) j (by omega) (by omega) hj
    rw [← srt_snoc] at hr
    have ih := soNin  ho P b n (S ++ [x]) T R (by omega) (by simp; omega) (by simp; omega)
    rw [show P.length + (S ++ [x]).length = P.length + S.length + 1 by simp; omega] at ih
    simp only [List.append_assoc, List.cons_append, List.nil_append] at hr ih ⊢
    exact LoopC.next hr ih
/-- Insertion sorts a part. -/
theorem soIns  (ho : Swo (soLt )) (P S R : List Ep) (a b : Nat) (ha : a = P.length) (hb : b = P.length + S.length) (hs : P.length + S.length + R.length ≤ 1000000) :
    Contract Try.prog 41 [.own 0, I (a : Int), I (b : Int), .clo (.func 30) [] []] [.arr 6 ((P ++ S ++ R).map Ep.row)] (.tup []) [some (.arr 6 ((P ++ srt (soLt ) S ++ R).map Ep.row))] := by
  subst ha
  cases S with
  | nil =>
    refine soI0 _ _  _ _ (P.length + 1) (by omega) ?_
    exact LoopC.last (soNz _  _ _ _ (by simp at hb; omega)) (by simp)
  | cons x S =>
    refine soI0 _ _  _ _ b (by omega) ?_
    have h := soNin  ho P b S.length [x] S R rfl (by simp at hb ⊢; omega) (by simp at hs ⊢; omega)
    have e : srt (soLt ) [x] = [x] := mrg_nil_l _
    rw [e] at h
    simp only [List.append_assoc, List.cons_append, List.nil_append, List.length_cons, List.length_nil] at h ⊢
    exact h

theorem soWgo_0 (A M' B : List Ep) (x y : Ep)  (a b n i : Nat) (hi : i < n) (ha : a + i = A.length) (hb : b + i = A.length + 1 + M'.length) (hs : A.length + M'.length + B.length ≤ 1000000) : CodeC Try.prog 1 38 soWB (soW (A ++ x :: (M' ++ y :: B))  a b n i) (Ex.normal) ({ env := [((0 : Nat), V.own (0 : Nat)), ((1 : Nat), I (Int.ofNat a)), ((2 : Nat), I (Int.ofNat b)), ((3 : Nat), I (Int.ofNat n)), ((10 : Nat), I (Int.ofNat (i + (1 : Nat))))], st := [((0 : Nat), Obj.arr (6 : Nat) (List.map Ep.row (A ++ y :: (M' ++ x :: B))))], ids := [(0 : Nat), (0 : Nat)] }) :=
  runP hmix [.reg 1 [(2, [], some true)], .reg 3 [(3, [.be (I ((A.length : Nat) : Int))], none), (7, [.be (I ((A.length + 1 + M'.length : Nat) : Int))], none), (11, [.be (I ((A.length + 1 + M'.length : Nat) : Int))], none), (13, [.row (Ep.row y)], none), (17, [.be (I ((A.length : Nat) : Int))], none), (19, [.row (Ep.row x)], none), (21, [.row (Ep.row x), .beO ((A ++ y :: (M' ++ y :: B)).map Ep.row)], none), (23, [.row (Ep.row y), .beO ((A ++ y :: (M' ++ x :: B)).map Ep.row)], none)], .reg 2 [(1, [.be (I ((i + 1 : Nat) : Int))], none)]] ⟨[0, 1, 2, 3, 10], [(0, 0)], []⟩ [
      decide (Int.ofNat i < Int.ofNat n) = true,
      IntKind.wrap IntKind.i64 (Int.ofNat (a + i)) = Int.ofNat (List.length A),
      IntKind.wrap IntKind.i64 (Int.ofNat (b + i)) = Int.ofNat (List.length A + (1 : Nat) + List.length M'),
      IntKind.wrap IntKind.i64 (Int.ofNat (b + i)) = Int.ofNat (List.length A + (1 : Nat) + List.length M'),
      (0 : Int) ≤ Int.ofNat (List.length A + (1 : Nat) + List.length M'),
      Int.ofNat (List.length A + (1 : Nat) + List.length M') < Int.ofNat (List.length (List.map Ep.row (A ++ x :: (M' ++ y :: B)))),
      (List.map Ep.row (A ++ x :: (M' ++ y :: B)))[List.length A + (1 : Nat) + List.length M']? = some (Ep.row y),
      IntKind.wrap IntKind.i64 (Int.ofNat (a + i)) = Int.ofNat (List.length A),
      (0 : Int) ≤ Int.ofNat (List.length A),
      Int.ofNat (List.length A) < Int.ofNat (List.length (List.map Ep.row (A ++ x :: (M' ++ y :: B)))),
      (List.map Ep.row (A ++ x :: (M' ++ y :: B)))[List.length A]? = some (Ep.row x),
      (0 : Int) ≤ Int.ofNat (List.length A),
      Int.ofNat (List.length A) < Int.ofNat (List.length (List.map Ep.row (A ++ x :: (M' ++ y :: B)))),
      (List.map Ep.row (A ++ x :: (M' ++ y :: B)))[List.length A]? = some (Ep.row x),
      List.set (List.map Ep.row (A ++ x :: (M' ++ y :: B))) (List.length A) [V.val (Value.int IntKind.u64 (Ep.hi y)), V.val (Value.int IntKind.u64 (Ep.lo y)), I (Ep.first y), I (Ep.last y), Bo (Ep.sure y), V.sl (10 : Nat) (List.map Sp.row (Ep.spans y))] = List.map Ep.row (A ++ y :: (M' ++ y :: B)),
      (0 : Int) ≤ Int.ofNat (List.length A + (1 : Nat) + List.length M'),
      Int.ofNat (List.length A + (1 : Nat) + List.length M') < Int.ofNat (List.length (List.map Ep.row (A ++ y :: (M' ++ y :: B)))),
      (List.map Ep.row (A ++ y :: (M' ++ y :: B)))[List.length A + (1 : Nat) + List.length M']? = some (Ep.row y),
      List.set (List.map Ep.row (A ++ y :: (M' ++ y :: B))) (List.length A + (1 : Nat) + List.length M') [V.val (Value.int IntKind.u64 (Ep.hi x)), V.val (Value.int IntKind.u64 (Ep.lo x)), I (Ep.first x), I (Ep.last x), Bo (Ep.sure x), V.sl (10 : Nat) (List.map Sp.row (Ep.spans x))] = List.map Ep.row (A ++ y :: (M' ++ x :: B)),
      IntKind.wrap IntKind.i64 (Int.ofNat (i + (1 : Nat))) = Int.ofNat (i + (1 : Nat))] (by kernel_rfl)
    (by
      simp only [allP]
      and_intros <;> first
        | (simp; omega)
        | exact i64_small (by simp; omega)
        | (rw [i64_small (by simp; omega)]; simp; omega)
        | exact at3 (by omega)
        | exact at1 (by omega)
        | exact set3 (by omega)
        | exact set1 (by omega)
        | (simp; done))

theorem soWgo (A M' B : List Ep) (x y : Ep)  (a b n i : Nat) (hi : i < n) (ha : a + i = A.length) (hb : b + i = A.length + 1 + M'.length) (hs : A.length + M'.length + B.length ≤ 1000000)  : CodeC Try.prog 1 38 soWB (soW (A ++ x :: (M' ++ y :: B))  a b n i) .normal (soW (A ++ y :: (M' ++ x :: B))  a b n (i + 1)) := by
  exact CodeC.cast (by
    first
      | rfl) (soWgo_0 A M' B x y a b n i hi ha hb hs )

theorem soWz_0 (l : List Ep)  (a b n i : Nat) (hi : n ≤ i) : CodeC Try.prog 1 38 soWB (soW (l)  a b n i) (Ex.exit (0 : Nat)) ({ env := [((0 : Nat), V.own (0 : Nat)), ((1 : Nat), I (Int.ofNat a)), ((2 : Nat), I (Int.ofNat b)), ((3 : Nat), I (Int.ofNat n)), ((10 : Nat), I (Int.ofNat i))], st := [((0 : Nat), Obj.arr (6 : Nat) (List.map Ep.row l))], ids := [(0 : Nat), (0 : Nat)] }) :=
  runP hmix [.reg 1 [(2, [], some false)]] ⟨[0, 1, 2, 3, 10], [(0, 0)], []⟩ [
      decide (Int.ofNat i < Int.ofNat n) = false] (by kernel_rfl)
    (by
      simp only [allP]
      and_intros <;> first
        | (simp; omega))

theorem soWz (l : List Ep)  (a b n i : Nat) (hi : n ≤ i)  : CodeC Try.prog 1 38 soWB (soW (l)  a b n i) (.exit 0) (soW (l)  a b n i) := by
  exact CodeC.cast (by
    first
      | rfl) (soWz_0 l a b n i hi )

theorem soW0_0 (l l' : List Ep)  (a b n i : Nat) (hl : LoopC Try.prog 1 38 soWB (soW (l)  a b n 0) (.exit 0) (soW (l')  a b n i)) : Contract Try.prog 47 [.own 0, I (a : Int), I (b : Int), I (n : Int), .clo (.func 30) [] []] [.arr 6 (l.map Ep.row)] (V.tup []) ([some (Obj.arr (6 : Nat) (List.map Ep.row l'))]) :=
  vcP hmix [.cut ⟨[0, 1, 2, 3, 10], [(0, 0)], []⟩ (.exit 0) (soW (l')  a b n i)] [] [
      LoopC Try.prog (1 : Nat) (38 : Nat) soWB { env := [((0 : Nat), V.own (0 : Nat)), ((1 : Nat), I (Int.ofNat a)), ((2 : Nat), I (Int.ofNat b)), ((3 : Nat), I (Int.ofNat n)), ((10 : Nat), I (0 : Int))], st := [((0 : Nat), Obj.arr (6 : Nat) (List.map Ep.row l))], ids := [(0 : Nat), (0 : Nat)] } (Ex.exit (0 : Nat)) { env := [((0 : Nat), V.own (0 : Nat)), ((1 : Nat), I (Int.ofNat a)), ((2 : Nat), I (Int.ofNat b)), ((3 : Nat), I (Int.ofNat n)), ((10 : Nat), I (Int.ofNat i))], st := [((0 : Nat), Obj.arr (6 : Nat) (List.map Ep.row l'))], ids := [(0 : Nat), (0 : Nat)] }] (by kernel_rfl)
    (by
      simp only [allP]
      and_intros <;> first
        | exact hl)

theorem soW0 (l l' : List Ep)  (a b n i : Nat) (hl : LoopC Try.prog 1 38 soWB (soW (l)  a b n 0) (.exit 0) (soW (l')  a b n i)) : Contract Try.prog 47 [.own 0, I (a : Int), I (b : Int), I (n : Int), .clo (.func 30) [] []] [.arr 6 (l.map Ep.row)] (.tup []) [some (.arr 6 ((l').map Ep.row))] := by
  exact Contract.cast (by
    first
      | rfl) (by
    first
      | rfl) (soW0_0 l l' a b n i hl )

theorem soWin  (P M' Q : List Ep) (a b n : Nat) : ∀ (U V U' V' : List Ep), U.length = V.length → U'.length = V'.length → U'.length + U.length = n → a = P.length → b = P.length + n + M'.length → P.length + M'.length + Q.length + 2 * n ≤ 1000000 →
    LoopC Try.prog 1 38 soWB (soW (P ++ V' ++ U ++ M' ++ U' ++ V ++ Q)  a b n U'.length) (.exit 0) (soW (P ++ (V' ++ V) ++ M' ++ (U' ++ U) ++ Q)  a b n n)
  | [], [], U', V', h1, h2, h3, ha, hb, hs => by
    simp only [List.length_nil, Nat.add_zero] at h3
    subst h3
    simp only [List.append_nil]
    exact LoopC.last (soWz _  _ _ _ _ (Nat.le_refl _)) (by simp)
  | [], _ :: _, _, _, h1, _, _, _, _, _ => by simp at h1
  | _ :: _, [], _, _, h1, _, _, _, _, _ => by simp at h1
  | x :: U, y :: V, U', V', h1, h2, h3, ha, hb, hs => by
    simp only [List.length_cons] at h1 h3
    have hr := soWgo (P ++ V') (U ++ M' ++ U') (V ++ Q) x y  a b n U'.length (by omega) (by simp; omega) (by simp; omega) (by simp; omega)
    have ih := soWin  P M' Q a b n U V (U' ++ [x]) (V' ++ [y]) (by omega) (by simp; omega) (by simp; omega) ha hb hs
    rw [show (U' ++ [x]).length = U'.length + 1 by simp] at ih
    simp only [List.append_assoc, List.cons_append, List.nil_append] at hr ih ⊢
    exact LoopC.next hr ih
theorem soSwap  (P U M' V Q : List Ep) (a b n : Nat) (h1 : U.length = n) (h2 : V.length = n) (ha : a = P.length) (hb : b = P.length + n + M'.length) (hs : P.length + M'.length + Q.length + 2 * n ≤ 1000000) :
    Contract Try.prog 47 [.own 0, I (a : Int), I (b : Int), I (n : Int), .clo (.func 30) [] []] [.arr 6 ((P ++ U ++ M' ++ V ++ Q).map Ep.row)] (.tup []) [some (.arr 6 ((P ++ V ++ M' ++ U ++ Q).map Ep.row))] := by
  refine soW0 _ _  _ _ _ n ?_
  have h := soWin  P M' Q a b n U V [] [] (by omega) rfl (by simpa using h1) ha hb hs
  simpa using h

theorem soRgt_0 (l l' : List Ep)  (m i j : Nat) (hij : j < i) (hm : i ≤ m) (hs : m + j ≤ 1000000) (hc : Contract Try.prog 47 [.own 0, I ((m - i : Nat) : Int), I ((m : Nat) : Int), I ((j : Nat) : Int), .clo (.func 30) [] []] [.arr 6 (l.map Ep.row)] (.tup []) [some (.arr 6 ((l').map Ep.row))]) : CodeC Try.prog 1 58 soRB (soR (l)  m i j) (Ex.normal) ({ env := [((0 : Nat), V.own (0 : Nat)), ((2 : Nat), I (Int.ofNat m)), ((4 : Nat), V.clo (Fn.func (30 : Nat)) [] []), ((10 : Nat), I (Int.ofNat (i - j))), ((11 : Nat), I (Int.ofNat j))], st := [((0 : Nat), Obj.arr (6 : Nat) (List.map Ep.row l'))], ids := [(0 : Nat), (0 : Nat)] }) :=
  runP hmix [.reg 2 [(2, [], some true)], .reg 3 [(2, [], some true)], .reg 4 [(3, [.be (I ((m - i : Nat) : Int))], none), (7, [.call [0] [] (.tup []) [some (.arr 6 ((l').map Ep.row))]], none)], .reg 5 [(2, [.be (I ((i - j : Nat) : Int))], none)]] ⟨[0, 2, 4, 10, 11], [(0, 0)], []⟩ [
      (Int.ofNat i != Int.ofNat j) = true,
      decide (Int.ofNat i > Int.ofNat j) = true,
      IntKind.wrap IntKind.i64 (Int.ofNat m + -Int.ofNat i) = Int.ofNat (m - i),
      Contract Try.prog (47 : Nat) [V.own (0 : Nat), I (Int.ofNat (m - i)), I (Int.ofNat m), I (Int.ofNat j), V.clo (Fn.func (30 : Nat)) [] []] [Obj.arr (6 : Nat) (List.map Ep.row l)] (V.tup []) [some (Obj.arr (6 : Nat) (List.map Ep.row l'))],
      IntKind.wrap IntKind.i64 (Int.ofNat i + -Int.ofNat j) = Int.ofNat (i - j)] (by kernel_rfl)
    (by
      simp only [allP]
      and_intros <;> first
        | omega
        | (simp; omega)
        | (rw [i64_small (by simp; omega)]; simp; omega))

theorem soRgt (l l' : List Ep)  (m i j : Nat) (hij : j < i) (hm : i ≤ m) (hs : m + j ≤ 1000000) (hc : Contract Try.prog 47 [.own 0, I ((m - i : Nat) : Int), I ((m : Nat) : Int), I ((j : Nat) : Int), .clo (.func 30) [] []] [.arr 6 (l.map Ep.row)] (.tup []) [some (.arr 6 ((l').map Ep.row))])  : CodeC Try.prog 1 58 soRB (soR (l)  m i j) .normal (soR (l')  m (i - j) j) := by
  exact CodeC.cast (by
    first
      | rfl) (soRgt_0 l l' m i j hij hm hs hc )

theorem soRlt_0 (l l' : List Ep)  (m i j : Nat) (hij : i < j) (hm : i ≤ m) (hs : m + j ≤ 1000000) (hc : Contract Try.prog 47 [.own 0, I ((m - i : Nat) : Int), I ((m + j - i : Nat) : Int), I ((i : Nat) : Int), .clo (.func 30) [] []] [.arr 6 (l.map Ep.row)] (.tup []) [some (.arr 6 ((l').map Ep.row))]) : CodeC Try.prog 1 58 soRB (soR (l)  m i j) (Ex.normal) ({ env := [((0 : Nat), V.own (0 : Nat)), ((2 : Nat), I (Int.ofNat m)), ((4 : Nat), V.clo (Fn.func (30 : Nat)) [] []), ((10 : Nat), I (Int.ofNat i)), ((11 : Nat), I (Int.ofNat (j - i)))], st := [((0 : Nat), Obj.arr (6 : Nat) (List.map Ep.row l'))], ids := [(0 : Nat), (0 : Nat)] }) :=
  runP hmix [.reg 2 [(2, [], some true)], .reg 3 [(2, [], some false)], .reg 6 [(3, [.be (I ((m - i : Nat) : Int))], none), (6, [.be (I ((m + j : Nat) : Int))], none), (8, [.be (I ((m + j - i : Nat) : Int))], none), (11, [.call [0] [] (.tup []) [some (.arr 6 ((l').map Ep.row))]], none)], .reg 7 [(2, [.be (I ((j - i : Nat) : Int))], none)]] ⟨[0, 2, 4, 10, 11], [(0, 0)], []⟩ [
      (Int.ofNat i != Int.ofNat j) = true,
      decide (Int.ofNat i > Int.ofNat j) = false,
      IntKind.wrap IntKind.i64 (Int.ofNat m + -Int.ofNat i) = Int.ofNat (m - i),
      IntKind.wrap IntKind.i64 (Int.ofNat (m + j)) = Int.ofNat (m + j),
      IntKind.wrap IntKind.i64 (Int.ofNat (m + j) + -Int.ofNat i) = Int.ofNat (m + j - i),
      Contract Try.prog (47 : Nat) [V.own (0 : Nat), I (Int.ofNat (m - i)), I (Int.ofNat (m + j - i)), I (Int.ofNat i), V.clo (Fn.func (30 : Nat)) [] []] [Obj.arr (6 : Nat) (List.map Ep.row l)] (V.tup []) [some (Obj.arr (6 : Nat) (List.map Ep.row l'))],
      IntKind.wrap IntKind.i64 (Int.ofNat j + -Int.ofNat i) = Int.ofNat (j - i)] (by kernel_rfl)
    (by
      simp only [allP]
      and_intros <;> first
        | omega
        | (simp; omega)
        | exact i64_small (by simp; omega)
        | (rw [i64_small (by simp; omega)]; simp; omega))

theorem soRlt (l l' : List Ep)  (m i j : Nat) (hij : i < j) (hm : i ≤ m) (hs : m + j ≤ 1000000) (hc : Contract Try.prog 47 [.own 0, I ((m - i : Nat) : Int), I ((m + j - i : Nat) : Int), I ((i : Nat) : Int), .clo (.func 30) [] []] [.arr 6 (l.map Ep.row)] (.tup []) [some (.arr 6 ((l').map Ep.row))])  : CodeC Try.prog 1 58 soRB (soR (l)  m i j) .normal (soR (l')  m i (j - i)) := by
  exact CodeC.cast (by
    first
      | rfl) (soRlt_0 l l' m i j hij hm hs hc )

theorem soReq_0 (l : List Ep)  (m i : Nat)  : CodeC Try.prog 1 58 soRB (soR (l)  m i i) (Ex.exit (0 : Nat)) ({ env := [((0 : Nat), V.own (0 : Nat)), ((2 : Nat), I (Int.ofNat m)), ((4 : Nat), V.clo (Fn.func (30 : Nat)) [] []), ((10 : Nat), I (Int.ofNat i)), ((11 : Nat), I (Int.ofNat i))], st := [((0 : Nat), Obj.arr (6 : Nat) (List.map Ep.row l))], ids := [(0 : Nat), (0 : Nat)] }) :=
  runP hmix [.reg 2 [(2, [], some false)]] ⟨[0, 2, 4, 10, 11], [(0, 0)], []⟩ [
      (Int.ofNat i != Int.ofNat i) = false] (by kernel_rfl)
    (by
      simp only [allP]
      and_intros <;> first
        | (simp; done))

theorem soReq (l : List Ep)  (m i : Nat)   : CodeC Try.prog 1 58 soRB (soR (l)  m i i) (.exit 0) (soR (l)  m i i) := by
  exact CodeC.cast (by
    first
      | rfl) (soReq_0 l m i  )

theorem soR0_0 (l l1 l' : List Ep)  (a m b i : Nat) (ham : a ≤ m) (hmb : m ≤ b) (hs : b ≤ 1000000) (hi : i ≤ m) (hl : LoopC Try.prog 1 58 soRB (soR (l)  m (m - a) (b - m)) (.exit 0) (soR (l1)  m i i)) (hc : Contract Try.prog 47 [.own 0, I ((m - i : Nat) : Int), I (m : Int), I (i : Int), .clo (.func 30) [] []] [.arr 6 ((l1).map Ep.row)] (.tup []) [some (.arr 6 ((l').map Ep.row))]) : Contract Try.prog 46 [.own 0, I (a : Int), I (m : Int), I (b : Int), .clo (.func 30) [] []] [.arr 6 (l.map Ep.row)] (V.tup []) ([some (Obj.arr (6 : Nat) (List.map Ep.row l'))]) :=
  vcP hmix [.reg 0 [(2, [.be (I ((m - a : Nat) : Int))], none)], .reg 1 [(2, [.be (I ((b - m : Nat) : Int))], none)], .cut ⟨[0, 2, 4, 10, 11], [(0, 0)], []⟩ (.exit 0) (soR (l1)  m i i), .reg 8 [(3, [.be (I ((m - i : Nat) : Int))], none), (7, [.call [0] [] (.tup []) [some (.arr 6 ((l').map Ep.row))]], none)]] [] [
      IntKind.wrap IntKind.i64 (Int.ofNat m + -Int.ofNat a) = Int.ofNat (m - a),
      IntKind.wrap IntKind.i64 (Int.ofNat b + -Int.ofNat m) = Int.ofNat (b - m),
      LoopC Try.prog (1 : Nat) (58 : Nat) soRB { env := [((0 : Nat), V.own (0 : Nat)), ((2 : Nat), I (Int.ofNat m)), ((4 : Nat), V.clo (Fn.func (30 : Nat)) [] []), ((10 : Nat), I (Int.ofNat (m - a))), ((11 : Nat), I (Int.ofNat (b - m)))], st := [((0 : Nat), Obj.arr (6 : Nat) (List.map Ep.row l))], ids := [(0 : Nat), (0 : Nat)] } (Ex.exit (0 : Nat)) { env := [((0 : Nat), V.own (0 : Nat)), ((2 : Nat), I (Int.ofNat m)), ((4 : Nat), V.clo (Fn.func (30 : Nat)) [] []), ((10 : Nat), I (Int.ofNat i)), ((11 : Nat), I (Int.ofNat i))], st := [((0 : Nat), Obj.arr (6 : Nat) (List.map Ep.row l1))], ids := [(0 : Nat), (0 : Nat)] },
      IntKind.wrap IntKind.i64 (Int.ofNat m + -Int.ofNat i) = Int.ofNat (m - i),
      Contract Try.prog (47 : Nat) [V.own (0 : Nat), I (Int.ofNat (m - i)), I (Int.ofNat m), I (Int.ofNat i), V.clo (Fn.func (30 : Nat)) [] []] [Obj.arr (6 : Nat) (List.map Ep.row l1)] (V.tup []) [some (Obj.arr (6 : Nat) (List.map Ep.row l'))]] (by kernel_rfl)
    (by
      simp only [allP]
      and_intros <;> first
        | omega
        | exact hl
        | (rw [i64_small (by simp; omega)]; simp; omega))

theorem soR0 (l l1 l' : List Ep)  (a m b i : Nat) (ham : a ≤ m) (hmb : m ≤ b) (hs : b ≤ 1000000) (hi : i ≤ m) (hl : LoopC Try.prog 1 58 soRB (soR (l)  m (m - a) (b - m)) (.exit 0) (soR (l1)  m i i)) (hc : Contract Try.prog 47 [.own 0, I ((m - i : Nat) : Int), I (m : Int), I (i : Int), .clo (.func 30) [] []] [.arr 6 ((l1).map Ep.row)] (.tup []) [some (.arr 6 ((l').map Ep.row))]) : Contract Try.prog 46 [.own 0, I (a : Int), I (m : Int), I (b : Int), .clo (.func 30) [] []] [.arr 6 (l.map Ep.row)] (.tup []) [some (.arr 6 ((l').map Ep.row))] := by
  exact Contract.cast (by
    first
      | rfl) (by
    first
      | rfl) (soR0_0 l l1 l' a m b i ham hmb hs hi hl hc )

theorem soRin  (m : Nat) : ∀ (n : Nat) (P X Y Q : List Ep), X.length + Y.length ≤ n → 0 < X.length → 0 < Y.length → m = P.length + X.length → P.length + X.length + Y.length + Q.length ≤ 1000000 →
    ∃ (i : Nat) (P' U V Q' : List Ep), U.length = i ∧ V.length = i ∧ m = P'.length + i ∧ P'.length + Q'.length + 2 * i ≤ 1000000 ∧ P' ++ V ++ U ++ Q' = P ++ Y ++ X ++ Q ∧
      LoopC Try.prog 1 58 soRB (soR (P ++ X ++ Y ++ Q)  m X.length Y.length) (.exit 0) (soR (P' ++ U ++ V ++ Q')  m i i)
  | 0, P, X, Y, Q, hn, h1, h2, hm, hs => by omega
  | n + 1, P, X, Y, Q, hn, h1, h2, hm, hs => by
    rcases Nat.lt_trichotomy X.length Y.length with h | h | h
    · -- the second one is longer: its end goes ahead
      have hY : Y.take (Y.length - X.length) ++ Y.drop (Y.length - X.length) = Y := List.take_append_drop _ _
      generalize hU : Y.take (Y.length - X.length) = U at hY
      generalize hV : Y.drop (Y.length - X.length) = V at hY
      have lU : U.length = Y.length - X.length := by rw [← hU]; simp
      have lV : V.length = X.length := by rw [← hV]; simp; omega
      have hc := soSwap  P X U V Q (m - X.length) (m + Y.length - X.length) X.length rfl lV (by omega) (by omega) (by omega)
      obtain ⟨i, P', U', V', Q', q1, q2, q3, q4, q5, q6⟩ := soRin  m n P V U (X ++ Q) (by omega) (by omega) (by omega) (by omega) (by simp; omega)
      refine ⟨i, P', U', V', Q', q1, q2, q3, q4, ?_, ?_⟩
      · rw [q5, ← hY]; simp
      · have hr := soRlt (P ++ X ++ U ++ V ++ Q) (P ++ V ++ U ++ X ++ Q)  m X.length Y.length h (by omega) (by omega) hc
        rw [lV, lU] at q6
        rw [← hY] at hr ⊢
        simp only [List.append_assoc, List.length_append] at hr q6 ⊢
        rw [show U.length + V.length - X.length = U.length by omega] at hr
        rw [show U.length + V.length = Y.length by omega] at hr ⊢
        rw [show Y.length - X.length = U.length by omega] at q6
        exact LoopC.next hr q6
    · -- both are as long
      refine ⟨X.length, P, X, Y, Q, rfl, by omega, hm, by omega, rfl, ?_⟩
      rw [← h]
      exact LoopC.last (soReq _  m _) (by simp)
    · -- the first one is longer: its beginning goes behind
      have hX : X.take Y.length ++ X.drop Y.length = X := List.take_append_drop _ _
      generalize hU : X.take Y.length = U at hX
      generalize hV : X.drop Y.length = V at hX
      have lU : U.length = Y.length := by rw [← hU]; simp; omega
      have lV : V.length = X.length - Y.length := by rw [← hV]; simp
      have hc := soSwap  P U V Y Q (m - X.length) m Y.length lU rfl (by omega) (by omega) (by omega)
      obtain ⟨i, P', U', V', Q', q1, q2, q3, q4, q5, q6⟩ := soRin  m n (P ++ Y) V U Q (by omega) (by omega) (by omega) (by simp; omega) (by simp; omega)
      refine ⟨i, P', U', V', Q', q1, q2, q3, q4, ?_, ?_⟩
      · rw [q5, ← hX]; simp
      · have hr := soRgt (P ++ U ++ V ++ Y ++ Q) (P ++ Y ++ V ++ U ++ Q)  m X.length Y.length h (by omega) (by omega) hc
        rw [lV, lU] at q6
        rw [← hX] at hr ⊢
        simp only [List.append_assoc, List.length_append] at hr q6 ⊢
        rw [show U.length + V.length - Y.length = V.length by omega] at hr
        rw [show X.length - Y.length = V.length by omega] at q6
        exact LoopC.next hr q6
/-- Two parts change places. -/
theorem soRot  (P X Y Q : List Ep) (a m b : Nat) (h1 : 0 < X.length) (h2 : 0 < Y.length) (ha : a = P.length) (hm : m = P.length + X.length) (hb : b = P.length + X.length + Y.length) (hs : P.length + X.length + Y.length + Q.length ≤ 1000000) :
    Contract Try.prog 46 [.own 0, I (a : Int), I (m : Int), I (b : Int), .clo (.func 30) [] []] [.arr 6 ((P ++ X ++ Y ++ Q).map Ep.row)] (.tup []) [some (.arr 6 ((P ++ Y ++ X ++ Q).map Ep.row))] := by
  obtain ⟨i, P', U', V', Q', q1, q2, q3, q4, q5, q6⟩ := soRin  m (X.length + Y.length) P X Y Q (Nat.le_refl _) h1 h2 hm hs
  have hc := soSwap  P' U' [] V' Q' (m - i) m i q1 q2 (by omega) (by simp; omega) (by simp; omega)
  simp only [List.append_nil] at hc
  rw [q5] at hc
  refine soR0 _ _ _  a m b i (by omega) (by omega) (by omega) (by omega) ?_ hc
  rw [show m - a = X.length by omega, show b - m = Y.length by omega]
  exact q6

end Go.Proofs.Ytfpdlamjlbpmkaa

/- sorting gleaning/api.Episode: merging in place. -/
namespace Go.Proofs.Ytfpdlamjlbpmkaa
open E
set_option maxRecDepth 100000
set_option linter.unusedVariables false
set_option linter.unusedSimpArgs false

def soX (l : List Ep)  (a m b i j : Nat) : SL := ⟨[(0, .own 0), (1, I (a : Int)), (2, I (m : Int)), (3, I (b : Int)), (4, .clo (.func 30) [] []), (10, I (i : Int)), (11, I (j : Int))], [(0, .arr 6 (l.map Ep.row))], [0, 0]⟩
def soK (l : List Ep)  (i k : Nat) : SL := ⟨[(0, .own 0), (10, I (i : Int)), (13, I (k : Int))], [(0, .arr 6 (l.map Ep.row))], [0, 0]⟩
def soY (l : List Ep)  (a m b i j : Nat) : SL := ⟨[(0, .own 0), (1, I (a : Int)), (2, I (m : Int)), (3, I (b : Int)), (4, .clo (.func 30) [] []), (14, I (i : Int)), (15, I (j : Int))], [(0, .arr 6 (l.map Ep.row))], [0, 0]⟩
def soH (l : List Ep)  (i k : Nat) : SL := ⟨[(0, .own 0), (14, I (i : Int)), (17, I (k : Int))], [(0, .arr 6 (l.map Ep.row))], [0, 0]⟩
def soZ (l : List Ep)  (a m b mid n i j p : Nat) : SL := ⟨[(0, .own 0), (1, I (a : Int)), (2, I (m : Int)), (3, I (b : Int)), (4, .clo (.func 30) [] []), (18, I (mid : Int)), (19, I (n : Int)), (20, I (i : Int)), (21, I (j : Int)), (22, I (p : Int))], [(0, .arr 6 (l.map Ep.row))], [0, 0]⟩
def soT (l : List Ep)  (a m b mid s e : Nat) : SL := ⟨[(0, .own 0), (1, I (a : Int)), (2, I (m : Int)), (3, I (b : Int)), (4, .clo (.func 30) [] []), (18, I (mid : Int)), (20, I (s : Int)), (24, I (e : Int))], [(0, .arr 6 (l.map Ep.row))], [0, 0]⟩
noncomputable def soXB : Code := codeAt Try.prog 42 [false, true, false, true, true, false, false, false]

noncomputable def soKB : Code := codeAt Try.prog 42 [false, true, false, true, true, true, false, true, false, false]

noncomputable def soYB : Code := codeAt Try.prog 42 [true, false, true, false, true, true, false, false, false]

noncomputable def soHB : Code := codeAt Try.prog 42 [true, false, true, false, true, true, true, false, true, false, false]

noncomputable def soZB : Code := codeAt Try.prog 42 [true, true, true, true, true, true, true, false, false, false]

noncomputable def soT1B : Code := codeAt Try.prog 42 [true, true, true, true, true, true, true, true, true]

noncomputable def soT2B : Code := codeAt Try.prog 42 [true, true, true, true, true, true, true, true, true, true]

noncomputable def soT3B : Code := codeAt Try.prog 42 [true, true, true, true, true, true, true, true, true, true, true]

theorem soXgo_0 (l : List Ep)  (a m b i j : Nat) (x y : Ep) (hij : i < j) (hs : j ≤ 1000000) (hx : l[((i + j) / 2)]? = some x) (hy : l[a]? = some y) (hb : soLt  x y = true) : CodeC Try.prog 1 220 soXB (soX (l)  a m b i j) (Ex.normal) ({ env := [((0 : Nat), V.own (0 : Nat)), ((1 : Nat), I (Int.ofNat a)), ((2 : Nat), I (Int.ofNat m)), ((3 : Nat), I (Int.ofNat b)), ((4 : Nat), V.clo (Fn.func (30 : Nat)) [] []), ((10 : Nat), I (Int.ofNat ((i + j) / (2 : Nat) + (1 : Nat)))), ((11 : Nat), I (Int.ofNat j))], st := [((0 : Nat), Obj.arr (6 : Nat) (List.map Ep.row l))], ids := [(0 : Nat), (0 : Nat)] }) :=
  runP hmix [.reg 3 [(2, [], some true)], .reg 4 [(5, [.be (I ((((i + j) / 2) : Nat) : Int))], none)], .reg 5 [(4, [.row (Ep.row x)], none), (8, [.row (Ep.row y)], none), (9, [.call [] [] (I ((cmpE) x y)) []], none), (10, [], some true)], .reg 6 [(1, [.be (I ((((i + j) / 2) + 1 : Nat) : Int))], none)]] ⟨[0, 1, 2, 3, 4, 10, 11], [(0, 0)], []⟩ [
      decide (Int.ofNat i < Int.ofNat j) = true,
      IntKind.wrap IntKind.i64 (Int.fdiv (IntKind.wrap IntKind.u64 (IntKind.wrap IntKind.i64 (Int.ofNat (i + j)))) (2 : Int)) = Int.ofNat ((i + j) / (2 : Nat)),
      (0 : Int) ≤ Int.ofNat ((i + j) / (2 : Nat)),
      Int.ofNat ((i + j) / (2 : Nat)) < Int.ofNat (List.length (List.map Ep.row l)),
      (List.map Ep.row l)[(i + j) / (2 : Nat)]? = some (Ep.row x),
      (0 : Int) ≤ Int.ofNat a,
      Int.ofNat a < Int.ofNat (List.length (List.map Ep.row l)),
      (List.map Ep.row l)[a]? = some (Ep.row y),
      Contract Try.prog (30 : Nat) [V.agg [V.val (Value.int IntKind.u64 (Ep.hi x)), V.val (Value.int IntKind.u64 (Ep.lo x)), I (Ep.first x), I (Ep.last x), Bo (Ep.sure x), V.sl (10 : Nat) (List.map Sp.row (Ep.spans x))], V.agg [V.val (Value.int IntKind.u64 (Ep.hi y)), V.val (Value.int IntKind.u64 (Ep.lo y)), I (Ep.first y), I (Ep.last y), Bo (Ep.sure y), V.sl (10 : Nat) (List.map Sp.row (Ep.spans y))]] [] (I (cmpE x y)) [],
      decide (cmpE x y < (0 : Int)) = true,
      IntKind.wrap IntKind.i64 (Int.ofNat ((i + j) / (2 : Nat) + (1 : Nat))) = Int.ofNat ((i + j) / (2 : Nat) + (1 : Nat))] (by kernel_rfl)
    (by
      simp only [allP]
      and_intros <;> first
        | (simp; omega)
        | (simp [hx]; done)
        | (simp [hy]; done)
        | exact i64_small (by simp; omega)
        | exact cCompare x y
        | exact hb
        | exact halfW (by omega)
        | (have q := (List.getElem?_eq_some_iff.1 hx).1; simp; omega)
        | (have q := (List.getElem?_eq_some_iff.1 hy).1; simp; omega))

theorem soXgo (l : List Ep)  (a m b i j : Nat) (x y : Ep) (hij : i < j) (hs : j ≤ 1000000) (hx : l[((i + j) / 2)]? = some x) (hy : l[a]? = some y) (hb : soLt  x y = true)  : CodeC Try.prog 1 220 soXB (soX (l)  a m b i j) .normal (soX (l)  a m b (((i + j) / 2) + 1) j) := by
  exact CodeC.cast (by
    first
      | rfl) (soXgo_0 l a m b i j x y hij hs hx hy hb )

theorem soXba_0 (l : List Ep)  (a m b i j : Nat) (x y : Ep) (hij : i < j) (hs : j ≤ 1000000) (hx : l[((i + j) / 2)]? = some x) (hy : l[a]? = some y) (hb : soLt  x y = false) : CodeC Try.prog 1 220 soXB (soX (l)  a m b i j) (Ex.normal) ({ env := [((0 : Nat), V.own (0 : Nat)), ((1 : Nat), I (Int.ofNat a)), ((2 : Nat), I (Int.ofNat m)), ((3 : Nat), I (Int.ofNat b)), ((4 : Nat), V.clo (Fn.func (30 : Nat)) [] []), ((10 : Nat), I (Int.ofNat i)), ((11 : Nat), I (Int.ofNat ((i + j) / (2 : Nat))))], st := [((0 : Nat), Obj.arr (6 : Nat) (List.map Ep.row l))], ids := [(0 : Nat), (0 : Nat)] }) :=
  runP hmix [.reg 3 [(2, [], some true)], .reg 4 [(5, [.be (I ((((i + j) / 2) : Nat) : Int))], none)], .reg 5 [(4, [.row (Ep.row x)], none), (8, [.row (Ep.row y)], none), (9, [.call [] [] (I ((cmpE) x y)) []], none), (10, [], some false)]] ⟨[0, 1, 2, 3, 4, 10, 11], [(0, 0)], []⟩ [
      decide (Int.ofNat i < Int.ofNat j) = true,
      IntKind.wrap IntKind.i64 (Int.fdiv (IntKind.wrap IntKind.u64 (IntKind.wrap IntKind.i64 (Int.ofNat (i + j)))) (2 : Int)) = Int.ofNat ((i + j) / (2 : Nat)),
      (0 : Int) ≤ Int.ofNat ((i + j) / (2 : Nat)),
      Int.ofNat ((i + j) / (2 : Nat)) < Int.ofNat (List.length (List.map Ep.row l)),
      (List.map Ep.row l)[(i + j) / (2 : Nat)]? = some (Ep.row x),
      (0 : Int) ≤ Int.ofNat a,
      Int.ofNat a < Int.ofNat (List.length (List.map Ep.row l)),
      (List.map Ep.row l)[a]? = some (Ep.row y),
      Contract Try.prog (30 : Nat) [V.agg [V.val (Value.int IntKind.u64 (Ep.hi x)), V.val (Value.int IntKind.u64 (Ep.lo x)), I (Ep.first x), I (Ep.last x), Bo (Ep.sure x), V.sl (10 : Nat) (List.map Sp.row (Ep.spans x))], V.agg [V.val (Value.int IntKind.u64 (Ep.hi y)), V.val (Value.int IntKind.u64 (Ep.lo y)), I (Ep.first y), I (Ep.last y), Bo (Ep.sure y), V.sl (10 : Nat) (List.map Sp.row (Ep.spans y))]] [] (I (cmpE x y)) [],
      decide (cmpE x y < (0 : Int)) = false] (by kernel_rfl)
    (by
      simp only [allP]
      and_intros <;> first
        | (simp; omega)
        | (simp [hx]; done)
        | (simp [hy]; done)
        | exact cCompare x y
        | exact hb
        | exact halfW (by omega)
        | (have q := (List.getElem?_eq_some_iff.1 hx).1; simp; omega)
        | (have q := (List.getElem?_eq_some_iff.1 hy).1; simp; omega))

theorem soXba (l : List Ep)  (a m b i j : Nat) (x y : Ep) (hij : i < j) (hs : j ≤ 1000000) (hx : l[((i + j) / 2)]? = some x) (hy : l[a]? = some y) (hb : soLt  x y = false)  : CodeC Try.prog 1 220 soXB (soX (l)  a m b i j) .normal (soX (l)  a m b i ((i + j) / 2)) := by
  exact CodeC.cast (by
    first
      | rfl) (soXba_0 l a m b i j x y hij hs hx hy hb )

theorem soXz_0 (l : List Ep)  (a m b i j : Nat) (hij : j ≤ i) : CodeC Try.prog 1 220 soXB (soX (l)  a m b i j) (Ex.exit (0 : Nat)) ({ env := [((0 : Nat), V.own (0 : Nat)), ((1 : Nat), I (Int.ofNat a)), ((2 : Nat), I (Int.ofNat m)), ((3 : Nat), I (Int.ofNat b)), ((4 : Nat), V.clo (Fn.func (30 : Nat)) [] []), ((10 : Nat), I (Int.ofNat i)), ((11 : Nat), I (Int.ofNat j))], st := [((0 : Nat), Obj.arr (6 : Nat) (List.map Ep.row l))], ids := [(0 : Nat), (0 : Nat)] }) :=
  runP hmix [.reg 3 [(2, [], some false)]] ⟨[0, 1, 2, 3, 4, 10, 11], [(0, 0)], []⟩ [
      decide (Int.ofNat i < Int.ofNat j) = false] (by kernel_rfl)
    (by
      simp only [allP]
      and_intros <;> first
        | (simp; omega))

theorem soXz (l : List Ep)  (a m b i j : Nat) (hij : j ≤ i)  : CodeC Try.prog 1 220 soXB (soX (l)  a m b i j) (.exit 0) (soX (l)  a m b i j) := by
  exact CodeC.cast (by
    first
      | rfl) (soXz_0 l a m b i j hij )

theorem soKgo_0 (A B : List Ep) (x y : Ep)  (i k : Nat) (hk : k = A.length) (hi : k + 1 < i) (hs : i ≤ 1000000) (hl : A.length + B.length ≤ 1000000) : CodeC Try.prog 1 220 soKB (soK (A ++ x :: y :: B)  i k) (Ex.normal) ({ env := [((0 : Nat), V.own (0 : Nat)), ((10 : Nat), I (Int.ofNat i)), ((13 : Nat), I (Int.ofNat (k + (1 : Nat))))], st := [((0 : Nat), Obj.arr (6 : Nat) (List.map Ep.row (A ++ y :: x :: B)))], ids := [(0 : Nat), (0 : Nat)] }) :=
  runP hmix [.reg 9 [(2, [.be (I ((i - 1 : Nat) : Int))], none), (3, [], some true)], .reg 11 [(4, [.be (I ((A.length + 1 : Nat) : Int))], none), (7, [.be (I ((A.length + 1 : Nat) : Int))], none), (9, [.row (Ep.row y)], none), (13, [.row (Ep.row x)], none), (15, [.row (Ep.row x), .beO ((A ++ y :: y :: B).map Ep.row)], none), (17, [.row (Ep.row y), .beO ((A ++ y :: x :: B).map Ep.row)], none)], .reg 10 [(1, [.be (I ((k + 1 : Nat) : Int))], none)]] ⟨[0, 10, 13], [(0, 0)], []⟩ [
      IntKind.wrap IntKind.i64 (Int.ofNat i + (-1 : Int)) = Int.ofNat (i - (1 : Nat)),
      decide (Int.ofNat k < Int.ofNat (i - (1 : Nat))) = true,
      IntKind.wrap IntKind.i64 (Int.ofNat (k + (1 : Nat))) = Int.ofNat (List.length A + (1 : Nat)),
      IntKind.wrap IntKind.i64 (Int.ofNat (k + (1 : Nat))) = Int.ofNat (List.length A + (1 : Nat)),
      (0 : Int) ≤ Int.ofNat (List.length A + (1 : Nat)),
      Int.ofNat (List.length A + (1 : Nat)) < Int.ofNat (List.length (List.map Ep.row (A ++ x :: y :: B))),
      (List.map Ep.row (A ++ x :: y :: B))[Int.toNat (Int.ofNat (List.length A + (1 : Nat)))]? = some (Ep.row y),
      (0 : Int) ≤ Int.ofNat k,
      Int.ofNat k < Int.ofNat (List.length (List.map Ep.row (A ++ x :: y :: B))),
      (List.map Ep.row (A ++ x :: y :: B))[k]? = some (Ep.row x),
      (0 : Int) ≤ Int.ofNat k,
      Int.ofNat k < Int.ofNat (List.length (List.map Ep.row (A ++ x :: y :: B))),
      (List.map Ep.row (A ++ x :: y :: B))[k]? = some (Ep.row x),
      List.set (List.map Ep.row (A ++ x :: y :: B)) k [V.val (Value.int IntKind.u64 (Ep.hi y)), V.val (Value.int IntKind.u64 (Ep.lo y)), I (Ep.first y), I (Ep.last y), Bo (Ep.sure y), V.sl (10 : Nat) (List.map Sp.row (Ep.spans y))] = List.map Ep.row (A ++ y :: y :: B),
      (0 : Int) ≤ Int.ofNat (List.length A + (1 : Nat)),
      Int.ofNat (List.length A + (1 : Nat)) < Int.ofNat (List.length (List.map Ep.row (A ++ y :: y :: B))),
      (List.map Ep.row (A ++ y :: y :: B))[Int.toNat (Int.ofNat (List.length A + (1 : Nat)))]? = some (Ep.row y),
      List.set (List.map Ep.row (A ++ y :: y :: B)) (Int.toNat (Int.ofNat (List.length A + (1 : Nat)))) [V.val (Value.int IntKind.u64 (Ep.hi x)), V.val (Value.int IntKind.u64 (Ep.lo x)), I (Ep.first x), I (Ep.last x), Bo (Ep.sure x), V.sl (10 : Nat) (List.map Sp.row (Ep.spans x))] = List.map Ep.row (A ++ y :: x :: B),
      IntKind.wrap IntKind.i64 (Int.ofNat (k + (1 : Nat))) = Int.ofNat (k + (1 : Nat))] (by kernel_rfl)
    (by
      simp only [allP]
      and_intros <;> first
        | (simp; omega)
        | exact i64_small (by simp; omega)
        | (rw [i64_small (by simp; omega)]; simp; omega)
        | exact at1 (by omega)
        | exact set1 (by omega)
        | exact set2 rfl
        | exact at2 rfl
        | (simp; done))

theorem soKgo (A B : List Ep) (x y : Ep)  (i k : Nat) (hk : k = A.length) (hi : k + 1 < i) (hs : i ≤ 1000000) (hl : A.length + B.length ≤ 1000000)  : CodeC Try.prog 1 220 soKB (soK (A ++ x :: y :: B)  i k) .normal (soK (A ++ y :: x :: B)  i (k + 1)) := by
  exact CodeC.cast (by
    first
      | rfl) (soKgo_0 A B x y i k hk hi hs hl )

theorem soKz_0 (l : List Ep)  (i k : Nat) (h1 : 1 ≤ i) (hs : i ≤ 1000000) (hi : i ≤ k + 1) : CodeC Try.prog 1 220 soKB (soK (l)  i k) (Ex.exit (2 : Nat)) ({ env := [((0 : Nat), V.own (0 : Nat)), ((10 : Nat), I (Int.ofNat i)), ((13 : Nat), I (Int.ofNat k))], st := [((0 : Nat), Obj.arr (6 : Nat) (List.map Ep.row l))], ids := [(0 : Nat), (0 : Nat)] }) :=
  runP hmix [.reg 9 [(2, [.be (I ((i - 1 : Nat) : Int))], none), (3, [], some false)]] ⟨[0, 10, 13], [(0, 0)], []⟩ [
      IntKind.wrap IntKind.i64 (Int.ofNat i + (-1 : Int)) = Int.ofNat (i - (1 : Nat)),
      decide (Int.ofNat k < Int.ofNat (i - (1 : Nat))) = false] (by kernel_rfl)
    (by
      simp only [allP]
      and_intros <;> first
        | (simp; omega)
        | (rw [i64_small (by simp; omega)]; simp; omega))

theorem soKz (l : List Ep)  (i k : Nat) (h1 : 1 ≤ i) (hs : i ≤ 1000000) (hi : i ≤ k + 1)  : CodeC Try.prog 1 220 soKB (soK (l)  i k) (.exit 2) (soK (l)  i k) := by
  exact CodeC.cast (by
    first
      | rfl) (soKz_0 l i k h1 hs hi )

theorem soYgo_0 (l : List Ep)  (a m b i j : Nat) (x y : Ep) (hij : i < j) (hs : j ≤ 1000000) (hx : l[m]? = some x) (hy : l[((i + j) / 2)]? = some y) (hb : soLt  x y = false) : CodeC Try.prog 1 220 soYB (soY (l)  a m b i j) (Ex.normal) ({ env := [((0 : Nat), V.own (0 : Nat)), ((1 : Nat), I (Int.ofNat a)), ((2 : Nat), I (Int.ofNat m)), ((3 : Nat), I (Int.ofNat b)), ((4 : Nat), V.clo (Fn.func (30 : Nat)) [] []), ((14 : Nat), I (Int.ofNat ((i + j) / (2 : Nat) + (1 : Nat)))), ((15 : Nat), I (Int.ofNat j))], st := [((0 : Nat), Obj.arr (6 : Nat) (List.map Ep.row l))], ids := [(0 : Nat), (0 : Nat)] }) :=
  runP hmix [.reg 15 [(2, [], some true)], .reg 16 [(5, [.be (I ((((i + j) / 2) : Nat) : Int))], none)], .reg 17 [(4, [.row (Ep.row x)], none), (8, [.row (Ep.row y)], none), (9, [.call [] [] (I ((cmpE) x y)) []], none), (10, [], some false)], .reg 18 [(1, [.be (I ((((i + j) / 2) + 1 : Nat) : Int))], none)]] ⟨[0, 1, 2, 3, 4, 14, 15], [(0, 0)], []⟩ [
      decide (Int.ofNat i < Int.ofNat j) = true,
      IntKind.wrap IntKind.i64 (Int.fdiv (IntKind.wrap IntKind.u64 (IntKind.wrap IntKind.i64 (Int.ofNat (i + j)))) (2 : Int)) = Int.ofNat ((i + j) / (2 : Nat)),
      (0 : Int) ≤ Int.ofNat m,
      Int.ofNat m < Int.ofNat (List.length (List.map Ep.row l)),
      (List.map Ep.row l)[m]? = some (Ep.row x),
      (0 : Int) ≤ Int.ofNat ((i + j) / (2 : Nat)),
      Int.ofNat ((i + j) / (2 : Nat)) < Int.ofNat (List.length (List.map Ep.row l)),
      (List.map Ep.row l)[(i + j) / (2 : Nat)]? = some (Ep.row y),
      Contract Try.prog (30 : Nat) [V.agg [V.val (Value.int IntKind.u64 (Ep.hi x)), V.val (Value.int IntKind.u64 (Ep.lo x)), I (Ep.first x), I (Ep.last x), Bo (Ep.sure x), V.sl (10 : Nat) (List.map Sp.row (Ep.spans x))], V.agg [V.val (Value.int IntKind.u64 (Ep.hi y)), V.val (Value.int IntKind.u64 (Ep.lo y)), I (Ep.first y), I (Ep.last y), Bo (Ep.sure y), V.sl (10 : Nat) (List.map Sp.row (Ep.spans y))]] [] (I (cmpE x y)) [],
      decide (cmpE x y < (0 : Int)) = false,
      IntKind.wrap IntKind.i64 (Int.ofNat ((i + j) / (2 : Nat) + (1 : Nat))) = Int.ofNat ((i + j) / (2 : Nat) + (1 : Nat))] (by kernel_rfl)
    (by
      simp only [allP]
      and_intros <;> first
        | (simp; omega)
        | (simp [hx]; done)
        | (simp [hy]; done)
        | exact i64_small (by simp; omega)
        | exact cCompare x y
        | exact hb
        | exact halfW (by omega)
        | (have q := (List.getElem?_eq_some_iff.1 hx).1; simp; omega)
        | (have q := (List.getElem?_eq_some_iff.1 hy).1; simp; omega))

theorem soYgo (l : List Ep)  (a m b i j : Nat) (x y : Ep) (hij : i < j) (hs : j ≤ 1000000) (hx : l[m]? = some x) (hy : l[((i + j) / 2)]? = some y) (hb : soLt  x y = false)  : CodeC Try.prog 1 220 soYB (soY (l)  a m b i j) .normal (soY (l)  a m b (((i + j) / 2) + 1) j) := by
  exact CodeC.cast (by
    first
      | rfl) (soYgo_0 l a m b i j x y hij hs hx hy hb )

theorem soYba_0 (l : List Ep)  (a m b i j : Nat) (x y : Ep) (hij : i < j) (hs : j ≤ 1000000) (hx : l[m]? = some x) (hy : l[((i + j) / 2)]? = some y) (hb : soLt  x y = true) : CodeC Try.prog 1 220 soYB (soY (l)  a m b i j) (Ex.normal) ({ env := [((0 : Nat), V.own (0 : Nat)), ((1 : Nat), I (Int.ofNat a)), ((2 : Nat), I (Int.ofNat m)), ((3 : Nat), I (Int.ofNat b)), ((4 : Nat), V.clo (Fn.func (30 : Nat)) [] []), ((14 : Nat), I (Int.ofNat i)), ((15 : Nat), I (Int.ofNat ((i + j) / (2 : Nat))))], st := [((0 : Nat), Obj.arr (6 : Nat) (List.map Ep.row l))], ids := [(0 : Nat), (0 : Nat)] }) :=
  runP hmix [.reg 15 [(2, [], some true)], .reg 16 [(5, [.be (I ((((i + j) / 2) : Nat) : Int))], none)], .reg 17 [(4, [.row (Ep.row x)], none), (8, [.row (Ep.row y)], none), (9, [.call [] [] (I ((cmpE) x y)) []], none), (10, [], some true)]] ⟨[0, 1, 2, 3, 4, 14, 15], [(0, 0)], []⟩ [
      decide (Int.ofNat i < Int.ofNat j) = true,
      IntKind.wrap IntKind.i64 (Int.fdiv (IntKind.wrap IntKind.u64 (IntKind.wrap IntKind.i64 (Int.ofNat (i + j)))) (2 : Int)) = Int.ofNat ((i + j) / (2 : Nat)),
      (0 : Int) ≤ Int.ofNat m,
      Int.ofNat m < Int.ofNat (List.length (List.map Ep.row l)),
      (List.map Ep.row l)[m]? = some (Ep.row x),
      (0 : Int) ≤ Int.ofNat ((i + j) / (2 : Nat)),
      Int.ofNat ((i + j) / (2 : Nat)) < Int.ofNat (List.length (List.map Ep.row l)),
      (List.map Ep.row l)[(i + j) / (2 : Nat)]? = some (Ep.row y),
      Contract Try.prog (30 : Nat) [V.agg [V.val (Value.int IntKind.u64 (Ep.hi x)), V.val (Value.int IntKind.u64 (Ep.lo x)), I (Ep.first x), I (Ep.last x), Bo (Ep.sure x), V.sl (10 : Nat) (List.map Sp.row (Ep.spans x))], V.agg [V.val (Value.int IntKind.u64 (Ep.hi y)), V.val (Value.int IntKind.u64 (Ep.lo y)), I (Ep.first y), I (Ep.last y), Bo (Ep.sure y), V.sl (10 : Nat) (List.map Sp.row (Ep.spans y))]] [] (I (cmpE x y)) [],
      decide (cmpE x y < (0 : Int)) = true] (by kernel_rfl)
    (by
      simp only [allP]
      and_intros <;> first
        | (simp; omega)
        | (simp [hx]; done)
        | (simp [hy]; done)
        | exact cCompare x y
        | exact hb
        | exact halfW (by omega)
        | (have q := (List.getElem?_eq_some_iff.1 hx).1; simp; omega)
        | (have q := (List.getElem?_eq_some_iff.1 hy).1; simp; omega))

theorem soYba (l : List Ep)  (a m b i j : Nat) (x y : Ep) (hij : i < j) (hs : j ≤ 1000000) (hx : l[m]? = some x) (hy : l[((i + j) / 2)]? = some y) (hb : soLt  x y = true)  : CodeC Try.prog 1 220 soYB (soY (l)  a m b i j) .normal (soY (l)  a m b i ((i + j) / 2)) := by
  exact CodeC.cast (by
    first
      | rfl) (soYba_0 l a m b i j x y hij hs hx hy hb )

theorem soYz_0 (l : List Ep)  (a m b i j : Nat) (hij : j ≤ i) : CodeC Try.prog 1 220 soYB (soY (l)  a m b i j) (Ex.exit (4 : Nat)) ({ env := [((0 : Nat), V.own (0 : Nat)), ((1 : Nat), I (Int.ofNat a)), ((2 : Nat), I (Int.ofNat m)), ((3 : Nat), I (Int.ofNat b)), ((4 : Nat), V.clo (Fn.func (30 : Nat)) [] []), ((14 : Nat), I (Int.ofNat i)), ((15 : Nat), I (Int.ofNat j))], st := [((0 : Nat), Obj.arr (6 : Nat) (List.map Ep.row l))], ids := [(0 : Nat), (0 : Nat)] }) :=
  runP hmix [.reg 15 [(2, [], some false)]] ⟨[0, 1, 2, 3, 4, 14, 15], [(0, 0)], []⟩ [
      decide (Int.ofNat i < Int.ofNat j) = false] (by kernel_rfl)
    (by
      simp only [allP]
      and_intros <;> first
        | (simp; omega))

theorem soYz (l : List Ep)  (a m b i j : Nat) (hij : j ≤ i)  : CodeC Try.prog 1 220 soYB (soY (l)  a m b i j) (.exit 4) (soY (l)  a m b i j) := by
  exact CodeC.cast (by
    first
      | rfl) (soYz_0 l a m b i j hij )

theorem soHgo_0 (A B : List Ep) (x y : Ep)  (i k : Nat) (hk : k = A.length + 1) (hi : i < k) (hl : A.length + B.length ≤ 1000000) : CodeC Try.prog 1 220 soHB (soH (A ++ y :: x :: B)  i k) (Ex.normal) ({ env := [((0 : Nat), V.own (0 : Nat)), ((14 : Nat), I (Int.ofNat i)), ((17 : Nat), I (Int.ofNat (List.length A)))], st := [((0 : Nat), Obj.arr (6 : Nat) (List.map Ep.row (A ++ x :: y :: B)))], ids := [(0 : Nat), (0 : Nat)] }) :=
  runP hmix [.reg 21 [(2, [], some true)], .reg 23 [(4, [.be (I ((A.length : Nat) : Int))], none), (7, [.be (I ((A.length : Nat) : Int))], none), (9, [.row (Ep.row y)], none), (13, [.row (Ep.row x)], none), (15, [.row (Ep.row x), .beO ((A ++ y :: y :: B).map Ep.row)], none), (17, [.row (Ep.row y), .beO ((A ++ x :: y :: B).map Ep.row)], none)], .reg 22 [(1, [.be (I ((A.length : Nat) : Int))], none)]] ⟨[0, 14, 17], [(0, 0)], []⟩ [
      decide (Int.ofNat k > Int.ofNat i) = true,
      IntKind.wrap IntKind.i64 (Int.ofNat k + (-1 : Int)) = Int.ofNat (List.length A),
      IntKind.wrap IntKind.i64 (Int.ofNat k + (-1 : Int)) = Int.ofNat (List.length A),
      (0 : Int) ≤ Int.ofNat (List.length A),
      Int.ofNat (List.length A) < Int.ofNat (List.length (List.map Ep.row (A ++ y :: x :: B))),
      (List.map Ep.row (A ++ y :: x :: B))[List.length A]? = some (Ep.row y),
      (0 : Int) ≤ Int.ofNat k,
      Int.ofNat k < Int.ofNat (List.length (List.map Ep.row (A ++ y :: x :: B))),
      (List.map Ep.row (A ++ y :: x :: B))[k]? = some (Ep.row x),
      (0 : Int) ≤ Int.ofNat k,
      Int.ofNat k < Int.ofNat (List.length (List.map Ep.row (A ++ y :: x :: B))),
      (List.map Ep.row (A ++ y :: x :: B))[k]? = some (Ep.row x),
      List.set (List.map Ep.row (A ++ y :: x :: B)) k [V.val (Value.int IntKind.u64 (Ep.hi y)), V.val (Value.int IntKind.u64 (Ep.lo y)), I (Ep.first y), I (Ep.last y), Bo (Ep.sure y), V.sl (10 : Nat) (List.map Sp.row (Ep.spans y))] = List.map Ep.row (A ++ y :: y :: B),
      (0 : Int) ≤ Int.ofNat (List.length A),
      Int.ofNat (List.length A) < Int.ofNat (List.length (List.map Ep.row (A ++ y :: y :: B))),
      (List.map Ep.row (A ++ y :: y :: B))[List.length A]? = some (Ep.row y),
      List.set (List.map Ep.row (A ++ y :: y :: B)) (List.length A) [V.val (Value.int IntKind.u64 (Ep.hi x)), V.val (Value.int IntKind.u64 (Ep.lo x)), I (Ep.first x), I (Ep.last x), Bo (Ep.sure x), V.sl (10 : Nat) (List.map Sp.row (Ep.spans x))] = List.map Ep.row (A ++ x :: y :: B),
      IntKind.wrap IntKind.i64 (Int.ofNat k + (-1 : Int)) = Int.ofNat (List.length A)] (by kernel_rfl)
    (by
      simp only [allP]
      and_intros <;> first
        | (simp; omega)
        | (rw [i64_small (by simp; omega)]; simp; omega)
        | exact at2 (by omega)
        | exact at1 (by omega)
        | exact set2 (by omega)
        | exact set1 (by omega)
        | (simp; done))

theorem soHgo (A B : List Ep) (x y : Ep)  (i k : Nat) (hk : k = A.length + 1) (hi : i < k) (hl : A.length + B.length ≤ 1000000)  : CodeC Try.prog 1 220 soHB (soH (A ++ y :: x :: B)  i k) .normal (soH (A ++ x :: y :: B)  i A.length) := by
  exact CodeC.cast (by
    first
      | rfl) (soHgo_0 A B x y i k hk hi hl )

theorem soHz_0 (l : List Ep)  (i k : Nat) (hi : k ≤ i) : CodeC Try.prog 1 220 soHB (soH (l)  i k) (Ex.exit (6 : Nat)) ({ env := [((0 : Nat), V.own (0 : Nat)), ((14 : Nat), I (Int.ofNat i)), ((17 : Nat), I (Int.ofNat k))], st := [((0 : Nat), Obj.arr (6 : Nat) (List.map Ep.row l))], ids := [(0 : Nat), (0 : Nat)] }) :=
  runP hmix [.reg 21 [(2, [], some false)]] ⟨[0, 14, 17], [(0, 0)], []⟩ [
      decide (Int.ofNat k > Int.ofNat i) = false] (by kernel_rfl)
    (by
      simp only [allP]
      and_intros <;> first
        | (simp; omega))

theorem soHz (l : List Ep)  (i k : Nat) (hi : k ≤ i)  : CodeC Try.prog 1 220 soHB (soH (l)  i k) (.exit 6) (soH (l)  i k) := by
  exact CodeC.cast (by
    first
      | rfl) (soHz_0 l i k hi )

theorem soZgo_0 (l : List Ep)  (a m b mid n i j p : Nat) (x y : Ep) (hij : i < j) (hs : j ≤ 1000000) (hp : j ≤ p + 1) (hp2 : p ≤ 1000000) (hx : l[p - ((i + j) / 2)]? = some x) (hy : l[((i + j) / 2)]? = some y) (hb : soLt  x y = false) : CodeC Try.prog 1 220 soZB (soZ (l)  a m b mid n i j p) (Ex.normal) ({ env := [((0 : Nat), V.own (0 : Nat)), ((1 : Nat), I (Int.ofNat a)), ((2 : Nat), I (Int.ofNat m)), ((3 : Nat), I (Int.ofNat b)), ((4 : Nat), V.clo (Fn.func (30 : Nat)) [] []), ((18 : Nat), I (Int.ofNat mid)), ((19 : Nat), I (Int.ofNat n)), ((20 : Nat), I (Int.ofNat ((i + j) / (2 : Nat) + (1 : Nat)))), ((21 : Nat), I (Int.ofNat j)), ((22 : Nat), I (Int.ofNat p))], st := [((0 : Nat), Obj.arr (6 : Nat) (List.map Ep.row l))], ids := [(0 : Nat), (0 : Nat)] }) :=
  runP hmix [.reg 33 [(2, [], some true)], .reg 34 [(5, [.be (I ((((i + j) / 2) : Nat) : Int))], none)], .reg 35 [(4, [.be (I ((p - ((i + j) / 2) : Nat) : Int))], none), (6, [.row (Ep.row x)], none), (10, [.row (Ep.row y)], none), (11, [.call [] [] (I ((cmpE) x y)) []], none), (12, [], some false)], .reg 36 [(1, [.be (I ((((i + j) / 2) + 1 : Nat) : Int))], none)]] ⟨[0, 1, 2, 3, 4, 18, 19, 20, 21, 22], [(0, 0)], []⟩ [
      decide (Int.ofNat i < Int.ofNat j) = true,
      IntKind.wrap IntKind.i64 (Int.fdiv (IntKind.wrap IntKind.u64 (IntKind.wrap IntKind.i64 (Int.ofNat (i + j)))) (2 : Int)) = Int.ofNat ((i + j) / (2 : Nat)),
      IntKind.wrap IntKind.i64 (Int.ofNat p + -Int.ofNat ((i + j) / (2 : Nat))) = Int.ofNat (p - (i + j) / (2 : Nat)),
      (0 : Int) ≤ Int.ofNat (p - (i + j) / (2 : Nat)),
      Int.ofNat (p - (i + j) / (2 : Nat)) < Int.ofNat (List.length (List.map Ep.row l)),
      (List.map Ep.row l)[p - (i + j) / (2 : Nat)]? = some (Ep.row x),
      (0 : Int) ≤ Int.ofNat ((i + j) / (2 : Nat)),
      Int.ofNat ((i + j) / (2 : Nat)) < Int.ofNat (List.length (List.map Ep.row l)),
      (List.map Ep.row l)[(i + j) / (2 : Nat)]? = some (Ep.row y),
      Contract Try.prog (30 : Nat) [V.agg [V.val (Value.int IntKind.u64 (Ep.hi x)), V.val (Value.int IntKind.u64 (Ep.lo x)), I (Ep.first x), I (Ep.last x), Bo (Ep.sure x), V.sl (10 : Nat) (List.map Sp.row (Ep.spans x))], V.agg [V.val (Value.int IntKind.u64 (Ep.hi y)), V.val (Value.int IntKind.u64 (Ep.lo y)), I (Ep.first y), I (Ep.last y), Bo (Ep.sure y), V.sl (10 : Nat) (List.map Sp.row (Ep.spans y))]] [] (I (cmpE x y)) [],
      decide (cmpE x y < (0 : Int)) = false,
      IntKind.wrap IntKind.i64 (Int.ofNat ((i + j) / (2 : Nat) + (1 : Nat))) = Int.ofNat ((i + j) / (2 : Nat) + (1 : Nat))] (by kernel_rfl)
    (by
      simp only [allP]
      and_intros <;> first
        | (simp; omega)
        | (simp [hx]; done)
        | (simp [hy]; done)
        | exact i64_small (by simp; omega)
        | (rw [i64_small (by simp; omega)]; simp; omega)
        | exact cCompare x y
        | exact hb
        | exact halfW (by omega)
        | (have q := (List.getElem?_eq_some_iff.1 hx).1; simp; omega)
        | (have q := (List.getElem?_eq_some_iff.1 hy).1; simp; omega))

theorem soZgo (l : List Ep)  (a m b mid n i j p : Nat) (x y : Ep) (hij : i < j) (hs : j ≤ 1000000) (hp : j ≤ p + 1) (hp2 : p ≤ 1000000) (hx : l[p - ((i + j) / 2)]? = some x) (hy : l[((i + j) / 2)]? = some y) (hb : soLt  x y = false)  : CodeC Try.prog 1 220 soZB (soZ (l)  a m b mid n i j p) .normal (soZ (l)  a m b mid n (((i + j) / 2) + 1) j p) := by
  exact CodeC.cast (by
    first
      | rfl) (soZgo_0 l a m b mid n i j p x y hij hs hp hp2 hx hy hb )

theorem soZba_0 (l : List Ep)  (a m b mid n i j p : Nat) (x y : Ep) (hij : i < j) (hs : j ≤ 1000000) (hp : j ≤ p + 1) (hp2 : p ≤ 1000000) (hx : l[p - ((i + j) / 2)]? = some x) (hy : l[((i + j) / 2)]? = some y) (hb : soLt  x y = true) : CodeC Try.prog 1 220 soZB (soZ (l)  a m b mid n i j p) (Ex.normal) ({ env := [((0 : Nat), V.own (0 : Nat)), ((1 : Nat), I (Int.ofNat a)), ((2 : Nat), I (Int.ofNat m)), ((3 : Nat), I (Int.ofNat b)), ((4 : Nat), V.clo (Fn.func (30 : Nat)) [] []), ((18 : Nat), I (Int.ofNat mid)), ((19 : Nat), I (Int.ofNat n)), ((20 : Nat), I (Int.ofNat i)), ((21 : Nat), I (Int.ofNat ((i + j) / (2 : Nat)))), ((22 : Nat), I (Int.ofNat p))], st := [((0 : Nat), Obj.arr (6 : Nat) (List.map Ep.row l))], ids := [(0 : Nat), (0 : Nat)] }) :=
  runP hmix [.reg 33 [(2, [], some true)], .reg 34 [(5, [.be (I ((((i + j) / 2) : Nat) : Int))], none)], .reg 35 [(4, [.be (I ((p - ((i + j) / 2) : Nat) : Int))], none), (6, [.row (Ep.row x)], none), (10, [.row (Ep.row y)], none), (11, [.call [] [] (I ((cmpE) x y)) []], none), (12, [], some true)]] ⟨[0, 1, 2, 3, 4, 18, 19, 20, 21, 22], [(0, 0)], []⟩ [
      decide (Int.ofNat i < Int.ofNat j) = true,
      IntKind.wrap IntKind.i64 (Int.fdiv (IntKind.wrap IntKind.u64 (IntKind.wrap IntKind.i64 (Int.ofNat (i + j)))) (2 : Int)) = Int.ofNat ((i + j) / (2 : Nat)),
      IntKind.wrap IntKind.i64 (Int.ofNat p + -Int.ofNat ((i + j) / (2 : Nat))) = Int.ofNat (p - (i + j) / (2 : Nat)),
      (0 : Int) ≤ Int.ofNat (p - (i + j) / (2 : Nat)),
      Int.ofNat (p - (i + j) / (2 : Nat)) < Int.ofNat (List.length (List.map Ep.row l)),
      (List.map Ep.row l)[p - (i + j) / (2 : Nat)]? = some (Ep.row x),
      (0 : Int) ≤ Int.ofNat ((i + j) / (2 : Nat)),
      Int.ofNat ((i + j) / (2 : Nat)) < Int.ofNat (List.length (List.map Ep.row l)),
      (List.map Ep.row l)[(i + j) / (2 : Nat)]? = some (Ep.row y),
      Contract Try.prog (30 : Nat) [V.agg [V.val (Value.int IntKind.u64 (Ep.hi x)), V.val (Value.int IntKind.u64 (Ep.lo x)), I (Ep.first x), I (Ep.last x), Bo (Ep.sure x), V.sl (10 : Nat) (List.map Sp.row (Ep.spans x))], V.agg [V.val (Value.int IntKind.u64 (Ep.hi y)), V.val (Value.int IntKind.u64 (Ep.lo y)), I (Ep.first y), I (Ep.last y), Bo (Ep.sure y), V.sl (10 : Nat) (List.map Sp.row (Ep.spans y))]] [] (I (cmpE x y)) [],
      decide (cmpE x y < (0 : Int)) = true] (by kernel_rfl)
    (by
      simp only [allP]
      and_intros <;> first
        | (simp; omega)
        | (simp [hx]; done)
        | (simp [hy]; done)
        | (rw [i64_small (by simp; omega)]; simp; omega)
        | exact cCompare x y
        | exact hb
        | exact halfW (by omega)
        | (have q := (List.getElem?_eq_some_iff.1 hx).1; simp; omega)
        | (have q := (List.getElem?_eq_some_iff.1 hy).1; simp; omega))

theorem soZba (l : List Ep)  (a m b mid n i j p : Nat) (x y : Ep) (hij : i < j) (hs : j ≤ 1000000) (hp : j ≤ p + 1) (hp2 : p ≤ 1000000) (hx : l[p - ((i + j) / 2)]? = some x) (hy : l[((i + j) / 2)]? = some y) (hb : soLt  x y = true)  : CodeC Try.prog 1 220 soZB (soZ (l)  a m b mid n i j p) .normal (soZ (l)  a m b mid n i ((i + j) / 2) p) := by
  exact CodeC.cast (by
    first
      | rfl) (soZba_0 l a m b mid n i j p x y hij hs hp hp2 hx hy hb )

theorem soZz_0 (l : List Ep)  (a m b mid n i j p : Nat) (hij : j ≤ i) : CodeC Try.prog 1 220 soZB (soZ (l)  a m b mid n i j p) (Ex.exit (8 : Nat)) ({ env := [((0 : Nat), V.own (0 : Nat)), ((1 : Nat), I (Int.ofNat a)), ((2 : Nat), I (Int.ofNat m)), ((3 : Nat), I (Int.ofNat b)), ((4 : Nat), V.clo (Fn.func (30 : Nat)) [] []), ((18 : Nat), I (Int.ofNat mid)), ((19 : Nat), I (Int.ofNat n)), ((20 : Nat), I (Int.ofNat i)), ((21 : Nat), I (Int.ofNat j)), ((22 : Nat), I (Int.ofNat p))], st := [((0 : Nat), Obj.arr (6 : Nat) (List.map Ep.row l))], ids := [(0 : Nat), (0 : Nat)] }) :=
  runP hmix [.reg 33 [(2, [], some false)]] ⟨[0, 1, 2, 3, 4, 18, 19, 20, 21, 22], [(0, 0)], []⟩ [
      decide (Int.ofNat i < Int.ofNat j) = false] (by kernel_rfl)
    (by
      simp only [allP]
      and_intros <;> first
        | (simp; omega))

theorem soZz (l : List Ep)  (a m b mid n i j p : Nat) (hij : j ≤ i)  : CodeC Try.prog 1 220 soZB (soZ (l)  a m b mid n i j p) (.exit 8) (soZ (l)  a m b mid n i j p) := by
  exact CodeC.cast (by
    first
      | rfl) (soZz_0 l a m b mid n i j p hij )

theorem soS1_0 (l l' : List Ep)  (a m b r k : Nat) (hm : m = a + 1) (hs : b ≤ 1000000) (hmb : m ≤ b) (hl : LoopC Try.prog 1 220 soXB (soX (l)  a m b m b) (.exit 0) (soX (l)  a m b r r)) (hk : LoopC Try.prog 1 220 soKB (soK (l)  r a) (.exit 2) (soK (l')  r k)) : Contract Try.prog 42 [.own 0, I (a : Int), I (m : Int), I (b : Int), .clo (.func 30) [] []] [.arr 6 ((l).map Ep.row)] (V.tup []) ([some (Obj.arr (6 : Nat) (List.map Ep.row l'))]) :=
  vcP hmix [.reg 0 [(2, [.be (I ((m - a : Nat) : Int))], none), (3, [], some true)], .cut ⟨[0, 1, 2, 3, 4, 10, 11], [(0, 0)], []⟩ (.exit 0) (soX (l)  a m b r r), .cut ⟨[0, 10, 13], [(0, 0)], []⟩ (.exit 2) (soK (l')  r k)] [] [
      IntKind.wrap IntKind.i64 (Int.ofNat m + -Int.ofNat a) = Int.ofNat (m - a),
      (Int.ofNat (m - a) == (1 : Int)) = true,
      LoopC Try.prog (1 : Nat) (220 : Nat) soXB { env := [((0 : Nat), V.own (0 : Nat)), ((1 : Nat), I (Int.ofNat a)), ((2 : Nat), I (Int.ofNat m)), ((3 : Nat), I (Int.ofNat b)), ((4 : Nat), V.clo (Fn.func (30 : Nat)) [] []), ((10 : Nat), I (Int.ofNat m)), ((11 : Nat), I (Int.ofNat b))], st := [((0 : Nat), Obj.arr (6 : Nat) (List.map Ep.row l))], ids := [(0 : Nat), (0 : Nat)] } (Ex.exit (0 : Nat)) { env := [((0 : Nat), V.own (0 : Nat)), ((1 : Nat), I (Int.ofNat a)), ((2 : Nat), I (Int.ofNat m)), ((3 : Nat), I (Int.ofNat b)), ((4 : Nat), V.clo (Fn.func (30 : Nat)) [] []), ((10 : Nat), I (Int.ofNat r)), ((11 : Nat), I (Int.ofNat r))], st := [((0 : Nat), Obj.arr (6 : Nat) (List.map Ep.row l))], ids := [(0 : Nat), (0 : Nat)] },
      LoopC Try.prog (1 : Nat) (220 : Nat) soKB { env := [((0 : Nat), V.own (0 : Nat)), ((10 : Nat), I (Int.ofNat r)), ((13 : Nat), I (Int.ofNat a))], st := [((0 : Nat), Obj.arr (6 : Nat) (List.map Ep.row l))], ids := [(0 : Nat), (0 : Nat)] } (Ex.exit (2 : Nat)) { env := [((0 : Nat), V.own (0 : Nat)), ((10 : Nat), I (Int.ofNat r)), ((13 : Nat), I (Int.ofNat k))], st := [((0 : Nat), Obj.arr (6 : Nat) (List.map Ep.row l'))], ids := [(0 : Nat), (0 : Nat)] }] (by kernel_rfl)
    (by
      simp only [allP]
      and_intros <;> first
        | (simp; omega)
        | exact hl
        | exact hk
        | (rw [i64_small (by simp; omega)]; simp; omega))

theorem soS1 (l l' : List Ep)  (a m b r k : Nat) (hm : m = a + 1) (hs : b ≤ 1000000) (hmb : m ≤ b) (hl : LoopC Try.prog 1 220 soXB (soX (l)  a m b m b) (.exit 0) (soX (l)  a m b r r)) (hk : LoopC Try.prog 1 220 soKB (soK (l)  r a) (.exit 2) (soK (l')  r k)) : Contract Try.prog 42 [.own 0, I (a : Int), I (m : Int), I (b : Int), .clo (.func 30) [] []] [.arr 6 ((l).map Ep.row)] (.tup []) [some (.arr 6 ((l').map Ep.row))] := by
  exact Contract.cast (by
    first
      | rfl) (by
    first
      | rfl) (soS1_0 l l' a m b r k hm hs hmb hl hk )

theorem soS2_0 (l l' : List Ep)  (a m b r k : Nat) (hm : m ≠ a + 1) (ham : a ≤ m) (hb : b = m + 1) (hs : b ≤ 1000000) (hl : LoopC Try.prog 1 220 soYB (soY (l)  a m b a m) (.exit 4) (soY (l)  a m b r r)) (hk : LoopC Try.prog 1 220 soHB (soH (l)  r m) (.exit 6) (soH (l')  r k)) : Contract Try.prog 42 [.own 0, I (a : Int), I (m : Int), I (b : Int), .clo (.func 30) [] []] [.arr 6 ((l).map Ep.row)] (V.tup []) ([some (Obj.arr (6 : Nat) (List.map Ep.row l'))]) :=
  vcP hmix [.reg 0 [(2, [.be (I ((m - a : Nat) : Int))], none), (3, [], some false)], .reg 12 [(2, [.be (I ((b - m : Nat) : Int))], none), (3, [], some true)], .cut ⟨[0, 1, 2, 3, 4, 14, 15], [(0, 0)], []⟩ (.exit 4) (soY (l)  a m b r r), .cut ⟨[0, 14, 17], [(0, 0)], []⟩ (.exit 6) (soH (l')  r k)] [] [
      IntKind.wrap IntKind.i64 (Int.ofNat m + -Int.ofNat a) = Int.ofNat (m - a),
      (Int.ofNat (m - a) == (1 : Int)) = false,
      IntKind.wrap IntKind.i64 (Int.ofNat b + -Int.ofNat m) = Int.ofNat (b - m),
      (Int.ofNat (b - m) == (1 : Int)) = true,
      LoopC Try.prog (1 : Nat) (220 : Nat) soYB { env := [((0 : Nat), V.own (0 : Nat)), ((1 : Nat), I (Int.ofNat a)), ((2 : Nat), I (Int.ofNat m)), ((3 : Nat), I (Int.ofNat b)), ((4 : Nat), V.clo (Fn.func (30 : Nat)) [] []), ((14 : Nat), I (Int.ofNat a)), ((15 : Nat), I (Int.ofNat m))], st := [((0 : Nat), Obj.arr (6 : Nat) (List.map Ep.row l))], ids := [(0 : Nat), (0 : Nat)] } (Ex.exit (4 : Nat)) { env := [((0 : Nat), V.own (0 : Nat)), ((1 : Nat), I (Int.ofNat a)), ((2 : Nat), I (Int.ofNat m)), ((3 : Nat), I (Int.ofNat b)), ((4 : Nat), V.clo (Fn.func (30 : Nat)) [] []), ((14 : Nat), I (Int.ofNat r)), ((15 : Nat), I (Int.ofNat r))], st := [((0 : Nat), Obj.arr (6 : Nat) (List.map Ep.row l))], ids := [(0 : Nat), (0 : Nat)] },
      LoopC Try.prog (1 : Nat) (220 : Nat) soHB { env := [((0 : Nat), V.own (0 : Nat)), ((14 : Nat), I (Int.ofNat r)), ((17 : Nat), I (Int.ofNat m))], st := [((0 : Nat), Obj.arr (6 : Nat) (List.map Ep.row l))], ids := [(0 : Nat), (0 : Nat)] } (Ex.exit (6 : Nat)) { env := [((0 : Nat), V.own (0 : Nat)), ((14 : Nat), I (Int.ofNat r)), ((17 : Nat), I (Int.ofNat k))], st := [((0 : Nat), Obj.arr (6 : Nat) (List.map Ep.row l'))], ids := [(0 : Nat), (0 : Nat)] }] (by kernel_rfl)
    (by
      simp only [allP]
      and_intros <;> first
        | (simp; omega)
        | exact hl
        | exact hk
        | (rw [i64_small (by simp; omega)]; simp; omega))

theorem soS2 (l l' : List Ep)  (a m b r k : Nat) (hm : m ≠ a + 1) (ham : a ≤ m) (hb : b = m + 1) (hs : b ≤ 1000000) (hl : LoopC Try.prog 1 220 soYB (soY (l)  a m b a m) (.exit 4) (soY (l)  a m b r r)) (hk : LoopC Try.prog 1 220 soHB (soH (l)  r m) (.exit 6) (soH (l')  r k)) : Contract Try.prog 42 [.own 0, I (a : Int), I (m : Int), I (b : Int), .clo (.func 30) [] []] [.arr 6 ((l).map Ep.row)] (.tup []) [some (.arr 6 ((l').map Ep.row))] := by
  exact Contract.cast (by
    first
      | rfl) (by
    first
      | rfl) (soS2_0 l l' a m b r k hm ham hb hs hl hk )

theorem soT3go_0 (l r : List Ep)  (a m b mid s e : Nat) (hq : mid < e ∧ e < b) (hc : Contract Try.prog 42 [.own 0, I ((mid : Nat) : Int), I ((e : Nat) : Int), I ((b : Nat) : Int), .clo (.func 30) [] []] [.arr 6 ((l).map Ep.row)] (.tup []) [some (.arr 6 ((r).map Ep.row))]) : CodeC Try.prog 1 220 soT3B (soT (l)  a m b mid s e) (Ex.normal) ({ env := [((0 : Nat), V.own (0 : Nat)), ((1 : Nat), I (Int.ofNat a)), ((2 : Nat), I (Int.ofNat m)), ((3 : Nat), I (Int.ofNat b)), ((4 : Nat), V.clo (Fn.func (30 : Nat)) [] []), ((18 : Nat), I (Int.ofNat mid)), ((20 : Nat), I (Int.ofNat s)), ((24 : Nat), I (Int.ofNat e))], st := [((0 : Nat), Obj.arr (6 : Nat) (List.map Ep.row r))], ids := [(0 : Nat), (0 : Nat)] }) :=
  runP hmix [.reg 43 [(3, [], some true), (7, [], some true)], .reg 44 [(5, [.call [0] [] (.tup []) [some (.arr 6 ((r).map Ep.row))]], none)]] ⟨[0, 1, 2, 3, 4, 18, 20, 24], [(0, 0)], []⟩ [
      decide (Int.ofNat mid < Int.ofNat e) = true,
      decide (Int.ofNat e < Int.ofNat b) = true,
      Contract Try.prog (42 : Nat) [V.own (0 : Nat), I (Int.ofNat mid), I (Int.ofNat e), I (Int.ofNat b), V.clo (Fn.func (30 : Nat)) [] []] [Obj.arr (6 : Nat) (List.map Ep.row l)] (V.tup []) [some (Obj.arr (6 : Nat) (List.map Ep.row r))]] (by kernel_rfl)
    (by
      simp only [allP]
      and_intros <;> first
        | omega
        | (simp; omega))

theorem soT3go (l r : List Ep)  (a m b mid s e : Nat) (hq : mid < e ∧ e < b) (hc : Contract Try.prog 42 [.own 0, I ((mid : Nat) : Int), I ((e : Nat) : Int), I ((b : Nat) : Int), .clo (.func 30) [] []] [.arr 6 ((l).map Ep.row)] (.tup []) [some (.arr 6 ((r).map Ep.row))])  : CodeC Try.prog 1 220 soT3B (soT (l)  a m b mid s e) .normal (soT (r)  a m b mid s e) := by
  exact CodeC.cast (by
    first
      | rfl) (soT3go_0 l r a m b mid s e hq hc )

theorem soT3no_0 (l : List Ep)  (a m b mid s e : Nat) (hq : ¬ (mid < e ∧ e < b)) (tq0 : (decide (Int.ofNat mid < Int.ofNat e)) = true) : CodeC Try.prog 1 220 soT3B (soT (l)  a m b mid s e) (Ex.normal) ({ env := [((0 : Nat), V.own (0 : Nat)), ((1 : Nat), I (Int.ofNat a)), ((2 : Nat), I (Int.ofNat m)), ((3 : Nat), I (Int.ofNat b)), ((4 : Nat), V.clo (Fn.func (30 : Nat)) [] []), ((18 : Nat), I (Int.ofNat mid)), ((20 : Nat), I (Int.ofNat s)), ((24 : Nat), I (Int.ofNat e))], st := [((0 : Nat), Obj.arr (6 : Nat) (List.map Ep.row l))], ids := [(0 : Nat), (0 : Nat)] }) :=
  runP hmix [.reg 43 [(3, [], some true), (7, [], some false)]] ⟨[0, 1, 2, 3, 4, 18, 20, 24], [(0, 0)], []⟩ [
      decide (Int.ofNat mid < Int.ofNat e) = true,
      decide (Int.ofNat e < Int.ofNat b) = false] (by kernel_rfl)
    (by
      have d0 := tq0
      try simp only [Int.ofNat_eq_natCast, List.length_map, Bool.not_eq_true', Bool.not_eq_false', decide_eq_true_eq, decide_eq_false_iff_not] at d0
      simp only [allP]
      and_intros <;> first
        | omega
        | (simp; omega))

theorem soT3no_1 (l : List Ep)  (a m b mid s e : Nat) (hq : ¬ (mid < e ∧ e < b)) (tq0 : (decide (Int.ofNat mid < Int.ofNat e)) = false) : CodeC Try.prog 1 220 soT3B (soT (l)  a m b mid s e) (Ex.normal) ({ env := [((0 : Nat), V.own (0 : Nat)), ((1 : Nat), I (Int.ofNat a)), ((2 : Nat), I (Int.ofNat m)), ((3 : Nat), I (Int.ofNat b)), ((4 : Nat), V.clo (Fn.func (30 : Nat)) [] []), ((18 : Nat), I (Int.ofNat mid)), ((20 : Nat), I (Int.ofNat s)), ((24 : Nat), I (Int.ofNat e))], st := [((0 : Nat), Obj.arr (6 : Nat) (List.map Ep.row l))], ids := [(0 : Nat), (0 : Nat)] }) :=
  runP hmix [.reg 43 [(3, [], some false), (7, [], some false)]] ⟨[0, 1, 2, 3, 4, 18, 20, 24], [(0, 0)], []⟩ [
      decide (Int.ofNat mid < Int.ofNat e) = false,
      false = false] (by kernel_rfl)
    (by
      have d0 := tq0
      try simp only [Int.ofNat_eq_natCast, List.length_map, Bool.not_eq_true', Bool.not_eq_false', decide_eq_true_eq, decide_eq_false_iff_not] at d0
      simp only [allP]
      and_intros <;> first
        | omega
        | (simp; done))

theorem soT3no (l : List Ep)  (a m b mid s e : Nat) (hq : ¬ (mid < e ∧ e < b))  : CodeC Try.prog 1 220 soT3B (soT (l)  a m b mid s e) .normal (soT (l)  a m b mid s e) := by
  rcases tf (decide (Int.ofNat mid < Int.ofNat e)) with tq0 | tq0
  · exact CodeC.cast (by
      first
        | rfl) (soT3no_0 l a m b mid s e hq tq0)
  · exact CodeC.cast (by
      first
        | rfl) (soT3no_1 l a m b mid s e hq tq0)

theorem soT2go_0 (l l1 r : List Ep)  (a m b mid s e : Nat) (hq : a < s ∧ s < mid) (hc : Contract Try.prog 42 [.own 0, I ((a : Nat) : Int), I ((s : Nat) : Int), I ((mid : Nat) : Int), .clo (.func 30) [] []] [.arr 6 ((l).map Ep.row)] (.tup []) [some (.arr 6 ((l1).map Ep.row))]) (hn : CodeC Try.prog 1 220 soT3B (soT (l1)  a m b mid s e) .normal (soT (r)  a m b mid s e)) : CodeC Try.prog 1 220 soT2B (soT (l)  a m b mid s e) (Ex.normal) ({ env := [((0 : Nat), V.own (0 : Nat)), ((1 : Nat), I (Int.ofNat a)), ((2 : Nat), I (Int.ofNat m)), ((3 : Nat), I (Int.ofNat b)), ((4 : Nat), V.clo (Fn.func (30 : Nat)) [] []), ((18 : Nat), I (Int.ofNat mid)), ((20 : Nat), I (Int.ofNat s)), ((24 : Nat), I (Int.ofNat e))], st := [((0 : Nat), Obj.arr (6 : Nat) (List.map Ep.row r))], ids := [(0 : Nat), (0 : Nat)] }) :=
  runP hmix [.reg 41 [(3, [], some true), (7, [], some true)], .reg 42 [(5, [.call [0] [] (.tup []) [some (.arr 6 ((l1).map Ep.row))]], none)], .tail 43 ⟨[0, 1, 2, 3, 4, 18, 20, 24], [(0, 0)], []⟩ .normal (soT (r)  a m b mid s e)] ⟨[0, 1, 2, 3, 4, 18, 20, 24], [(0, 0)], []⟩ [
      decide (Int.ofNat a < Int.ofNat s) = true,
      decide (Int.ofNat s < Int.ofNat mid) = true,
      Contract Try.prog (42 : Nat) [V.own (0 : Nat), I (Int.ofNat a), I (Int.ofNat s), I (Int.ofNat mid), V.clo (Fn.func (30 : Nat)) [] []] [Obj.arr (6 : Nat) (List.map Ep.row l)] (V.tup []) [some (Obj.arr (6 : Nat) (List.map Ep.row l1))],
      CodeC Try.prog (1 : Nat) (220 : Nat) soT3B { env := [((0 : Nat), V.own (0 : Nat)), ((1 : Nat), I (Int.ofNat a)), ((2 : Nat), I (Int.ofNat m)), ((3 : Nat), I (Int.ofNat b)), ((4 : Nat), V.clo (Fn.func (30 : Nat)) [] []), ((18 : Nat), I (Int.ofNat mid)), ((20 : Nat), I (Int.ofNat s)), ((24 : Nat), I (Int.ofNat e))], st := [((0 : Nat), Obj.arr (6 : Nat) (List.map Ep.row l1))], ids := [(0 : Nat), (0 : Nat)] } Ex.normal { env := [((0 : Nat), V.own (0 : Nat)), ((1 : Nat), I (Int.ofNat a)), ((2 : Nat), I (Int.ofNat m)), ((3 : Nat), I (Int.ofNat b)), ((4 : Nat), V.clo (Fn.func (30 : Nat)) [] []), ((18 : Nat), I (Int.ofNat mid)), ((20 : Nat), I (Int.ofNat s)), ((24 : Nat), I (Int.ofNat e))], st := [((0 : Nat), Obj.arr (6 : Nat) (List.map Ep.row r))], ids := [(0 : Nat), (0 : Nat)] }] (by kernel_rfl)
    (by
      simp only [allP]
      and_intros <;> first
        | omega
        | (simp; omega)
        | exact hn)

theorem soT2go (l l1 r : List Ep)  (a m b mid s e : Nat) (hq : a < s ∧ s < mid) (hc : Contract Try.prog 42 [.own 0, I ((a : Nat) : Int), I ((s : Nat) : Int), I ((mid : Nat) : Int), .clo (.func 30) [] []] [.arr 6 ((l).map Ep.row)] (.tup []) [some (.arr 6 ((l1).map Ep.row))]) (hn : CodeC Try.prog 1 220 soT3B (soT (l1)  a m b mid s e) .normal (soT (r)  a m b mid s e))  : CodeC Try.prog 1 220 soT2B (soT (l)  a m b mid s e) .normal (soT (r)  a m b mid s e) := by
  exact CodeC.cast (by
    first
      | rfl) (soT2go_0 l l1 r a m b mid s e hq hc hn )

theorem soT2no_0 (l r : List Ep)  (a m b mid s e : Nat) (hq : ¬ (a < s ∧ s < mid)) (hn : CodeC Try.prog 1 220 soT3B (soT (l)  a m b mid s e) .normal (soT (r)  a m b mid s e)) (tq0 : (decide (Int.ofNat a < Int.ofNat s)) = true) : CodeC Try.prog 1 220 soT2B (soT (l)  a m b mid s e) (Ex.normal) ({ env := [((0 : Nat), V.own (0 : Nat)), ((1 : Nat), I (Int.ofNat a)), ((2 : Nat), I (Int.ofNat m)), ((3 : Nat), I (Int.ofNat b)), ((4 : Nat), V.clo (Fn.func (30 : Nat)) [] []), ((18 : Nat), I (Int.ofNat mid)), ((20 : Nat), I (Int.ofNat s)), ((24 : Nat), I (Int.ofNat e))], st := [((0 : Nat), Obj.arr (6 : Nat) (List.map Ep.row r))], ids := [(0 : Nat), (0 : Nat)] }) :=
  runP hmix [.reg 41 [(3, [], some true), (7, [], some false)], .tail 43 ⟨[0, 1, 2, 3, 4, 18, 20, 24], [(0, 0)], []⟩ .normal (soT (r)  a m b mid s e)] ⟨[0, 1, 2, 3, 4, 18, 20, 24], [(0, 0)], []⟩ [
      decide (Int.ofNat a < Int.ofNat s) = true,
      decide (Int.ofNat s < Int.ofNat mid) = false,
      CodeC Try.prog (1 : Nat) (220 : Nat) soT3B { env := [((0 : Nat), V.own (0 : Nat)), ((1 : Nat), I (Int.ofNat a)), ((2 : Nat), I (Int.ofNat m)), ((3 : Nat), I (Int.ofNat b)), ((4 : Nat), V.clo (Fn.func (30 : Nat)) [] []), ((18 : Nat), I (Int.ofNat mid)), ((20 : Nat), I (Int.ofNat s)), ((24 : Nat), I (Int.ofNat e))], st := [((0 : Nat), Obj.arr (6 : Nat) (List.map Ep.row l))], ids := [(0 : Nat), (0 : Nat)] } Ex.normal { env := [((0 : Nat), V.own (0 : Nat)), ((1 : Nat), I (Int.ofNat a)), ((2 : Nat), I (Int.ofNat m)), ((3 : Nat), I (Int.ofNat b)), ((4 : Nat), V.clo (Fn.func (30 : Nat)) [] []), ((18 : Nat), I (Int.ofNat mid)), ((20 : Nat), I (Int.ofNat s)), ((24 : Nat), I (Int.ofNat e))], st := [((0 : Nat), Obj.arr (6 : Nat) (List.map Ep.row r))], ids := [(0 : Nat), (0 : Nat)] }] (by kernel_rfl)
    (by
      have d0 := tq0
      try simp only [Int.ofNat_eq_natCast, List.length_map, Bool.not_eq_true', Bool.not_eq_false', decide_eq_true_eq, decide_eq_false_iff_not] at d0
      simp only [allP]
      and_intros <;> first
        | omega
        | (simp; omega)
        | exact hn)

theorem soT2no_1 (l r : List Ep)  (a m b mid s e : Nat) (hq : ¬ (a < s ∧ s < mid)) (hn : CodeC Try.prog 1 220 soT3B (soT (l)  a m b mid s e) .normal (soT (r)  a m b mid s e)) (tq0 : (decide (Int.ofNat a < Int.ofNat s)) = false) : CodeC Try.prog 1 220 soT2B (soT (l)  a m b mid s e) (Ex.normal) ({ env := [((0 : Nat), V.own (0 : Nat)), ((1 : Nat), I (Int.ofNat a)), ((2 : Nat), I (Int.ofNat m)), ((3 : Nat), I (Int.ofNat b)), ((4 : Nat), V.clo (Fn.func (30 : Nat)) [] []), ((18 : Nat), I (Int.ofNat mid)), ((20 : Nat), I (Int.ofNat s)), ((24 : Nat), I (Int.ofNat e))], st := [((0 : Nat), Obj.arr (6 : Nat) (List.map Ep.row r))], ids := [(0 : Nat), (0 : Nat)] }) :=
  runP hmix [.reg 41 [(3, [], some false), (7, [], some false)], .tail 43 ⟨[0, 1, 2, 3, 4, 18, 20, 24], [(0, 0)], []⟩ .normal (soT (r)  a m b mid s e)] ⟨[0, 1, 2, 3, 4, 18, 20, 24], [(0, 0)], []⟩ [
      decide (Int.ofNat a < Int.ofNat s) = false,
      false = false,
      CodeC Try.prog (1 : Nat) (220 : Nat) soT3B { env := [((0 : Nat), V.own (0 : Nat)), ((1 : Nat), I (Int.ofNat a)), ((2 : Nat), I (Int.ofNat m)), ((3 : Nat), I (Int.ofNat b)), ((4 : Nat), V.clo (Fn.func (30 : Nat)) [] []), ((18 : Nat), I (Int.ofNat mid)), ((20 : Nat), I (Int.ofNat s)), ((24 : Nat), I (Int.ofNat e))], st := [((0 : Nat), Obj.arr (6 : Nat) (List.map Ep.row l))], ids := [(0 : Nat), (0 : Nat)] } Ex.normal { env := [((0 : Nat), V.own (0 : Nat)), ((1 : Nat), I (Int.ofNat a)), ((2 : Nat), I (Int.ofNat m)), ((3 : Nat), I (Int.ofNat b)), ((4 : Nat), V.clo (Fn.func (30 : Nat)) [] []), ((18 : Nat), I (Int.ofNat mid)), ((20 : Nat), I (Int.ofNat s)), ((24 : Nat), I (Int.ofNat e))], st := [((0 : Nat), Obj.arr (6 : Nat) (List.map Ep.row r))], ids := [(0 : Nat), (0 : Nat)] }] (by kernel_rfl)
    (by
      have d0 := tq0
      try simp only [Int.ofNat_eq_natCast, List.length_map, Bool.not_eq_true', Bool.not_eq_false', decide_eq_true_eq, decide_eq_false_iff_not] at d0
      simp only [allP]
      and_intros <;> first
        | omega
        | exact hn
        | (simp; done))

theorem soT2no (l r : List Ep)  (a m b mid s e : Nat) (hq : ¬ (a < s ∧ s < mid)) (hn : CodeC Try.prog 1 220 soT3B (soT (l)  a m b mid s e) .normal (soT (r)  a m b mid s e))  : CodeC Try.prog 1 220 soT2B (soT (l)  a m b mid s e) .normal (soT (r)  a m b mid s e) := by
  rcases tf (decide (Int.ofNat a < Int.ofNat s)) with tq0 | tq0
  · exact CodeC.cast (by
      first
        | rfl) (soT2no_0 l r a m b mid s e hq hn tq0)
  · exact CodeC.cast (by
      first
        | rfl) (soT2no_1 l r a m b mid s e hq hn tq0)

theorem soT1go_0 (l l1 r : List Ep)  (a m b mid s e : Nat) (hq : s < m ∧ m < e) (hc : Contract Try.prog 46 [.own 0, I ((s : Nat) : Int), I ((m : Nat) : Int), I ((e : Nat) : Int), .clo (.func 30) [] []] [.arr 6 ((l).map Ep.row)] (.tup []) [some (.arr 6 ((l1).map Ep.row))]) (hn : CodeC Try.prog 1 220 soT2B (soT (l1)  a m b mid s e) .normal (soT (r)  a m b mid s e)) : CodeC Try.prog 1 220 soT1B (soT (l)  a m b mid s e) (Ex.normal) ({ env := [((0 : Nat), V.own (0 : Nat)), ((1 : Nat), I (Int.ofNat a)), ((2 : Nat), I (Int.ofNat m)), ((3 : Nat), I (Int.ofNat b)), ((4 : Nat), V.clo (Fn.func (30 : Nat)) [] []), ((18 : Nat), I (Int.ofNat mid)), ((20 : Nat), I (Int.ofNat s)), ((24 : Nat), I (Int.ofNat e))], st := [((0 : Nat), Obj.arr (6 : Nat) (List.map Ep.row r))], ids := [(0 : Nat), (0 : Nat)] }) :=
  runP hmix [.reg 39 [(3, [], some true), (7, [], some true)], .reg 40 [(5, [.call [0] [] (.tup []) [some (.arr 6 ((l1).map Ep.row))]], none)], .tail 41 ⟨[0, 1, 2, 3, 4, 18, 20, 24], [(0, 0)], []⟩ .normal (soT (r)  a m b mid s e)] ⟨[0, 1, 2, 3, 4, 18, 20, 24], [(0, 0)], []⟩ [
      decide (Int.ofNat s < Int.ofNat m) = true,
      decide (Int.ofNat m < Int.ofNat e) = true,
      Contract Try.prog (46 : Nat) [V.own (0 : Nat), I (Int.ofNat s), I (Int.ofNat m), I (Int.ofNat e), V.clo (Fn.func (30 : Nat)) [] []] [Obj.arr (6 : Nat) (List.map Ep.row l)] (V.tup []) [some (Obj.arr (6 : Nat) (List.map Ep.row l1))],
      CodeC Try.prog (1 : Nat) (220 : Nat) soT2B { env := [((0 : Nat), V.own (0 : Nat)), ((1 : Nat), I (Int.ofNat a)), ((2 : Nat), I (Int.ofNat m)), ((3 : Nat), I (Int.ofNat b)), ((4 : Nat), V.clo (Fn.func (30 : Nat)) [] []), ((18 : Nat), I (Int.ofNat mid)), ((20 : Nat), I (Int.ofNat s)), ((24 : Nat), I (Int.ofNat e))], st := [((0 : Nat), Obj.arr (6 : Nat) (List.map Ep.row l1))], ids := [(0 : Nat), (0 : Nat)] } Ex.normal { env := [((0 : Nat), V.own (0 : Nat)), ((1 : Nat), I (Int.ofNat a)), ((2 : Nat), I (Int.ofNat m)), ((3 : Nat), I (Int.ofNat b)), ((4 : Nat), V.clo (Fn.func (30 : Nat)) [] []), ((18 : Nat), I (Int.ofNat mid)), ((20 : Nat), I (Int.ofNat s)), ((24 : Nat), I (Int.ofNat e))], st := [((0 : Nat), Obj.arr (6 : Nat) (List.map Ep.row r))], ids := [(0 : Nat), (0 : Nat)] }] (by kernel_rfl)
    (by
      simp only [allP]
      and_intros <;> first
        | omega
        | (simp; omega)
        | exact hn)

theorem soT1go (l l1 r : List Ep)  (a m b mid s e : Nat) (hq : s < m ∧ m < e) (hc : Contract Try.prog 46 [.own 0, I ((s : Nat) : Int), I ((m : Nat) : Int), I ((e : Nat) : Int), .clo (.func 30) [] []] [.arr 6 ((l).map Ep.row)] (.tup []) [some (.arr 6 ((l1).map Ep.row))]) (hn : CodeC Try.prog 1 220 soT2B (soT (l1)  a m b mid s e) .normal (soT (r)  a m b mid s e))  : CodeC Try.prog 1 220 soT1B (soT (l)  a m b mid s e) .normal (soT (r)  a m b mid s e) := by
  exact CodeC.cast (by
    first
      | rfl) (soT1go_0 l l1 r a m b mid s e hq hc hn )

theorem soT1no_0 (l r : List Ep)  (a m b mid s e : Nat) (hq : ¬ (s < m ∧ m < e)) (hn : CodeC Try.prog 1 220 soT2B (soT (l)  a m b mid s e) .normal (soT (r)  a m b mid s e)) (tq0 : (decide (Int.ofNat s < Int.ofNat m)) = true) : CodeC Try.prog 1 220 soT1B (soT (l)  a m b mid s e) (Ex.normal) ({ env := [((0 : Nat), V.own (0 : Nat)), ((1 : Nat), I (Int.ofNat a)), ((2 : Nat), I (Int.ofNat m)), ((3 : Nat), I (Int.ofNat b)), ((4 : Nat), V.clo (Fn.func (30 : Nat)) [] []), ((18 : Nat), I (Int.ofNat mid)), ((20 : Nat), I (Int.ofNat s)), ((24 : Nat), I (Int.ofNat e))], st := [((0 : Nat), Obj.arr (6 : Nat) (List.map Ep.row r))], ids := [(0 : Nat), (0 : Nat)] }) :=
  runP hmix [.reg 39 [(3, [], some true), (7, [], some false)], .tail 41 ⟨[0, 1, 2, 3, 4, 18, 20, 24], [(0, 0)], []⟩ .normal (soT (r)  a m b mid s e)] ⟨[0, 1, 2, 3, 4, 18, 20, 24], [(0, 0)], []⟩ [
      decide (Int.ofNat s < Int.ofNat m) = true,
      decide (Int.ofNat m < Int.ofNat e) = false,
      CodeC Try.prog (1 : Nat) (220 : Nat) soT2B { env := [((0 : Nat), V.own (0 : Nat)), ((1 : Nat), I (Int.ofNat a)), ((2 : Nat), I (Int.ofNat m)), ((3 : Nat), I (Int.ofNat b)), ((4 : Nat), V.clo (Fn.func (30 : Nat)) [] []), ((18 : Nat), I (Int.ofNat mid)), ((20 : Nat), I (Int.ofNat s)), ((24 : Nat), I (Int.ofNat e))], st := [((0 : Nat), Obj.arr (6 : Nat) (List.map Ep.row l))], ids := [(0 : Nat), (0 : Nat)] } Ex.normal { env := [((0 : Nat), V.own (0 : Nat)), ((1 : Nat), I (Int.ofNat a)), ((2 : Nat), I (Int.ofNat m)), ((3 : Nat), I (Int.ofNat b)), ((4 : Nat), V.clo (Fn.func (30 : Nat)) [] []), ((18 : Nat), I (Int.ofNat mid)), ((20 : Nat), I (Int.ofNat s)), ((24 : Nat), I (Int.ofNat e))], st := [((0 : Nat), Obj.arr (6 : Nat) (List.map Ep.row r))], ids := [(0 : Nat), (0 : Nat)] }] (by kernel_rfl)
    (by
      have d0 := tq0
      try simp only [Int.ofNat_eq_natCast, List.length_map, Bool.not_eq_true', Bool.not_eq_false', decide_eq_true_eq, decide_eq_false_iff_not] at d0
      simp only [allP]
      and_intros <;> first
        | omega
        | (simp; omega)
        | exact hn)

theorem soT1no_1 (l r : List Ep)  (a m b mid s e : Nat) (hq : ¬ (s < m ∧ m < e)) (hn : CodeC Try.prog 1 220 soT2B (soT (l)  a m b mid s e) .normal (soT (r)  a m b mid s e)) (tq0 : (decide (Int.ofNat s < Int.ofNat m)) = false) : CodeC Try.prog 1 220 soT1B (soT (l)  a m b mid s e) (Ex.normal) ({ env := [((0 : Nat), V.own (0 : Nat)), ((1 : Nat), I (Int.ofNat a)), ((2 : Nat), I (Int.ofNat m)), ((3 : Nat), I (Int.ofNat b)), ((4 : Nat), V.clo (Fn.func (30 : Nat)) [] []), ((18 : Nat), I (Int.ofNat mid)), ((20 : Nat), I (Int.ofNat s)), ((24 : Nat), I (Int.ofNat e))], st := [((0 : Nat), Obj.arr (6 : Nat) (List.map Ep.row r))], ids := [(0 : Nat), (0 : Nat)] }) :=
  runP hmix [.reg 39 [(3, [], some false), (7, [], some false)], .tail 41 ⟨[0, 1, 2, 3, 4, 18, 20, 24], [(0, 0)], []⟩ .normal (soT (r)  a m b mid s e)] ⟨[0, 1, 2, 3, 4, 18, 20, 24], [(0, 0)], []⟩ [
      decide (Int.ofNat s < Int.ofNat m) = false,
      false = false,
      CodeC Try.prog (1 : Nat) (220 : Nat) soT2B { env := [((0 : Nat), V.own (0 : Nat)), ((1 : Nat), I (Int.ofNat a)), ((2 : Nat), I (Int.ofNat m)), ((3 : Nat), I (Int.ofNat b)), ((4 : Nat), V.clo (Fn.func (30 : Nat)) [] []), ((18 : Nat), I (Int.ofNat mid)), ((20 : Nat), I (Int.ofNat s)), ((24 : Nat), I (Int.ofNat e))], st := [((0 : Nat), Obj.arr (6 : Nat) (List.map Ep.row l))], ids := [(0 : Nat), (0 : Nat)] } Ex.normal { env := [((0 : Nat), V.own (0 : Nat)), ((1 : Nat), I (Int.ofNat a)), ((2 : Nat), I (Int.ofNat m)), ((3 : Nat), I (Int.ofNat b)), ((4 : Nat), V.clo (Fn.func (30 : Nat)) [] []), ((18 : Nat), I (Int.ofNat mid)), ((20 : Nat), I (Int.ofNat s)), ((24 : Nat), I (Int.ofNat e))], st := [((0 : Nat), Obj.arr (6 : Nat) (List.map Ep.row r))], ids := [(0 : Nat), (0 : Nat)] }] (by kernel_rfl)
    (by
      have d0 := tq0
      try simp only [Int.ofNat_eq_natCast, List.length_map, Bool.not_eq_true', Bool.not_eq_false', decide_eq_true_eq, decide_eq_false_iff_not] at d0
      simp only [allP]
      and_intros <;> first
        | omega
        | exact hn
        | (simp; done))

theorem soT1no (l r : List Ep)  (a m b mid s e : Nat) (hq : ¬ (s < m ∧ m < e)) (hn : CodeC Try.prog 1 220 soT2B (soT (l)  a m b mid s e) .normal (soT (r)  a m b mid s e))  : CodeC Try.prog 1 220 soT1B (soT (l)  a m b mid s e) .normal (soT (r)  a m b mid s e) := by
  rcases tf (decide (Int.ofNat s < Int.ofNat m)) with tq0 | tq0
  · exact CodeC.cast (by
      first
        | rfl) (soT1no_0 l r a m b mid s e hq hn tq0)
  · exact CodeC.cast (by
      first
        | rfl) (soT1no_1 l r a m b mid s e hq hn tq0)

theorem soTT (l l1 l2 l3 : List Ep)  (a m b mid s e : Nat) (hR : s < m ∧ m < e → Contract Try.prog 46 [.own 0, I ((s : Nat) : Int), I ((m : Nat) : Int), I ((e : Nat) : Int), .clo (.func 30) [] []] [.arr 6 ((l).map Ep.row)] (.tup []) [some (.arr 6 ((l1).map Ep.row))]) (hR0 : ¬ (s < m ∧ m < e) → l1 = l) (hS : a < s ∧ s < mid → Contract Try.prog 42 [.own 0, I ((a : Nat) : Int), I ((s : Nat) : Int), I ((mid : Nat) : Int), .clo (.func 30) [] []] [.arr 6 ((l1).map Ep.row)] (.tup []) [some (.arr 6 ((l2).map Ep.row))]) (hS0 : ¬ (a < s ∧ s < mid) → l2 = l1) (hT : mid < e ∧ e < b → Contract Try.prog 42 [.own 0, I ((mid : Nat) : Int), I ((e : Nat) : Int), I ((b : Nat) : Int), .clo (.func 30) [] []] [.arr 6 ((l2).map Ep.row)] (.tup []) [some (.arr 6 ((l3).map Ep.row))]) (hT0 : ¬ (mid < e ∧ e < b) → l3 = l2) : CodeC Try.prog 1 220 soT1B (soT (l)  a m b mid s e) .normal (soT (l3)  a m b mid s e) := by
  have k3 : CodeC Try.prog 1 220 soT3B (soT (l2)  a m b mid s e) .normal (soT (l3)  a m b mid s e) := by
    by_cases q : mid < e ∧ e < b
    · exact soT3go _ _  a m b mid s e q (hT q)
    · rw [hT0 q]; exact soT3no _  a m b mid s e q
  have k2 : CodeC Try.prog 1 220 soT2B (soT (l1)  a m b mid s e) .normal (soT (l3)  a m b mid s e) := by
    by_cases q : a < s ∧ s < mid
    · exact soT2go _ _ _  a m b mid s e q (hS q) k3
    · rw [hS0 q] at k3; exact soT2no _ _  a m b mid s e q k3
  by_cases q : s < m ∧ m < e
  · exact soT1go _ _ _  a m b mid s e q (hR q) k2
  · rw [hR0 q] at k2; exact soT1no _ _  a m b mid s e q k2

theorem soG0_0 (l r : List Ep)  (a m b mid s e : Nat) (hm : m ≠ a + 1) (hb : b ≠ m + 1) (ham : a < m) (hmb : m < b) (hs : b ≤ 1000000) (hmid : mid = (a + b) / 2) (hmg : ¬ (mid < m)) (he : e = mid + m - s) (hse : s ≤ mid + m) (hl : LoopC Try.prog 1 220 soZB (soZ (l)  a m b mid (mid + m) a m (mid + m - 1)) (.exit 8) (soZ (l)  a m b mid (mid + m) s s (mid + m - 1))) (ht : CodeC Try.prog 1 220 soT1B (soT (l)  a m b mid s e) .normal (soT (r)  a m b mid s e)) : Contract Try.prog 42 [.own 0, I (a : Int), I (m : Int), I (b : Int), .clo (.func 30) [] []] [.arr 6 ((l).map Ep.row)] (V.tup []) ([some (Obj.arr (6 : Nat) (List.map Ep.row r))]) :=
  vcP hmix [.reg 0 [(2, [.be (I ((m - a : Nat) : Int))], none), (3, [], some false)], .reg 12 [(2, [.be (I ((b - m : Nat) : Int))], none), (3, [], some false)], .reg 24 [(5, [.be (I ((mid : Nat) : Int))], none)], .reg 25 [(2, [.be (I ((mid + m : Nat) : Int))], none)], .reg 27 [(2, [], some false)], .reg 32 [(1, [.be (I ((mid + m - 1 : Nat) : Int))], none)], .cut ⟨[0, 1, 2, 3, 4, 18, 19, 20, 21, 22], [(0, 0)], []⟩ (.exit 8) (soZ (l)  a m b mid (mid + m) s s (mid + m - 1)), .reg 38 [(2, [.be (I ((e : Nat) : Int))], none)], .tail 39 ⟨[0, 1, 2, 3, 4, 18, 20, 24], [(0, 0)], []⟩ .normal (soT (r)  a m b mid s e)] [] [
      IntKind.wrap IntKind.i64 (Int.ofNat m + -Int.ofNat a) = Int.ofNat (m - a),
      (Int.ofNat (m - a) == (1 : Int)) = false,
      IntKind.wrap IntKind.i64 (Int.ofNat b + -Int.ofNat m) = Int.ofNat (b - m),
      (Int.ofNat (b - m) == (1 : Int)) = false,
      IntKind.wrap IntKind.i64 (Int.fdiv (IntKind.wrap IntKind.u64 (IntKind.wrap IntKind.i64 (Int.ofNat (a + b)))) (2 : Int)) = Int.ofNat mid,
      IntKind.wrap IntKind.i64 (Int.ofNat (mid + m)) = Int.ofNat (mid + m),
      decide (Int.ofNat m > Int.ofNat mid) = false,
      IntKind.wrap IntKind.i64 (Int.ofNat (mid + m) + (-1 : Int)) = Int.ofNat (mid + m - (1 : Nat)),
      LoopC Try.prog (1 : Nat) (220 : Nat) soZB { env := [((0 : Nat), V.own (0 : Nat)), ((1 : Nat), I (Int.ofNat a)), ((2 : Nat), I (Int.ofNat m)), ((3 : Nat), I (Int.ofNat b)), ((4 : Nat), V.clo (Fn.func (30 : Nat)) [] []), ((18 : Nat), I (Int.ofNat mid)), ((19 : Nat), I (Int.ofNat (mid + m))), ((20 : Nat), I (Int.ofNat a)), ((21 : Nat), I (Int.ofNat m)), ((22 : Nat), I (Int.ofNat (mid + m - (1 : Nat))))], st := [((0 : Nat), Obj.arr (6 : Nat) (List.map Ep.row l))], ids := [(0 : Nat), (0 : Nat)] } (Ex.exit (8 : Nat)) { env := [((0 : Nat), V.own (0 : Nat)), ((1 : Nat), I (Int.ofNat a)), ((2 : Nat), I (Int.ofNat m)), ((3 : Nat), I (Int.ofNat b)), ((4 : Nat), V.clo (Fn.func (30 : Nat)) [] []), ((18 : Nat), I (Int.ofNat mid)), ((19 : Nat), I (Int.ofNat (mid + m))), ((20 : Nat), I (Int.ofNat s)), ((21 : Nat), I (Int.ofNat s)), ((22 : Nat), I (Int.ofNat (mid + m - (1 : Nat))))], st := [((0 : Nat), Obj.arr (6 : Nat) (List.map Ep.row l))], ids := [(0 : Nat), (0 : Nat)] },
      IntKind.wrap IntKind.i64 (Int.ofNat (mid + m) + -Int.ofNat s) = Int.ofNat e,
      CodeC Try.prog (1 : Nat) (220 : Nat) soT1B { env := [((0 : Nat), V.own (0 : Nat)), ((1 : Nat), I (Int.ofNat a)), ((2 : Nat), I (Int.ofNat m)), ((3 : Nat), I (Int.ofNat b)), ((4 : Nat), V.clo (Fn.func (30 : Nat)) [] []), ((18 : Nat), I (Int.ofNat mid)), ((20 : Nat), I (Int.ofNat s)), ((24 : Nat), I (Int.ofNat e))], st := [((0 : Nat), Obj.arr (6 : Nat) (List.map Ep.row l))], ids := [(0 : Nat), (0 : Nat)] } Ex.normal { env := [((0 : Nat), V.own (0 : Nat)), ((1 : Nat), I (Int.ofNat a)), ((2 : Nat), I (Int.ofNat m)), ((3 : Nat), I (Int.ofNat b)), ((4 : Nat), V.clo (Fn.func (30 : Nat)) [] []), ((18 : Nat), I (Int.ofNat mid)), ((20 : Nat), I (Int.ofNat s)), ((24 : Nat), I (Int.ofNat e))], st := [((0 : Nat), Obj.arr (6 : Nat) (List.map Ep.row r))], ids := [(0 : Nat), (0 : Nat)] }] (by kernel_rfl)
    (by
      simp only [allP]
      and_intros <;> first
        | (simp; omega)
        | exact hl
        | exact ht
        | exact i64_small (by simp; omega)
        | (rw [i64_small (by simp; omega)]; simp; omega)
        | (rw [hmid]; exact halfW (by omega)))

theorem soG0 (l r : List Ep)  (a m b mid s e : Nat) (hm : m ≠ a + 1) (hb : b ≠ m + 1) (ham : a < m) (hmb : m < b) (hs : b ≤ 1000000) (hmid : mid = (a + b) / 2) (hmg : ¬ (mid < m)) (he : e = mid + m - s) (hse : s ≤ mid + m) (hl : LoopC Try.prog 1 220 soZB (soZ (l)  a m b mid (mid + m) a m (mid + m - 1)) (.exit 8) (soZ (l)  a m b mid (mid + m) s s (mid + m - 1))) (ht : CodeC Try.prog 1 220 soT1B (soT (l)  a m b mid s e) .normal (soT (r)  a m b mid s e)) : Contract Try.prog 42 [.own 0, I (a : Int), I (m : Int), I (b : Int), .clo (.func 30) [] []] [.arr 6 ((l).map Ep.row)] (.tup []) [some (.arr 6 ((r).map Ep.row))] := by
  exact Contract.cast (by
    first
      | rfl) (by
    first
      | rfl) (soG0_0 l r a m b mid s e hm hb ham hmb hs hmid hmg he hse hl ht )

theorem soG1_0 (l r : List Ep)  (a m b mid s e : Nat) (hm : m ≠ a + 1) (hb : b ≠ m + 1) (ham : a < m) (hmb : m < b) (hs : b ≤ 1000000) (hmid : mid = (a + b) / 2) (hmg : (mid < m)) (he : e = mid + m - s) (hse : s ≤ mid + m) (hl : LoopC Try.prog 1 220 soZB (soZ (l)  a m b mid (mid + m) (mid + m - b) mid (mid + m - 1)) (.exit 8) (soZ (l)  a m b mid (mid + m) s s (mid + m - 1))) (ht : CodeC Try.prog 1 220 soT1B (soT (l)  a m b mid s e) .normal (soT (r)  a m b mid s e)) : Contract Try.prog 42 [.own 0, I (a : Int), I (m : Int), I (b : Int), .clo (.func 30) [] []] [.arr 6 ((l).map Ep.row)] (V.tup []) ([some (Obj.arr (6 : Nat) (List.map Ep.row r))]) :=
  vcP hmix [.reg 0 [(2, [.be (I ((m - a : Nat) : Int))], none), (3, [], some false)], .reg 12 [(2, [.be (I ((b - m : Nat) : Int))], none), (3, [], some false)], .reg 24 [(5, [.be (I ((mid : Nat) : Int))], none)], .reg 25 [(2, [.be (I ((mid + m : Nat) : Int))], none)], .reg 27 [(2, [], some true)], .reg 28 [(2, [.be (I ((mid + m - b : Nat) : Int))], none)], .reg 32 [(1, [.be (I ((mid + m - 1 : Nat) : Int))], none)], .cut ⟨[0, 1, 2, 3, 4, 18, 19, 20, 21, 22], [(0, 0)], []⟩ (.exit 8) (soZ (l)  a m b mid (mid + m) s s (mid + m - 1)), .reg 38 [(2, [.be (I ((e : Nat) : Int))], none)], .tail 39 ⟨[0, 1, 2, 3, 4, 18, 20, 24], [(0, 0)], []⟩ .normal (soT (r)  a m b mid s e)] [] [
      IntKind.wrap IntKind.i64 (Int.ofNat m + -Int.ofNat a) = Int.ofNat (m - a),
      (Int.ofNat (m - a) == (1 : Int)) = false,
      IntKind.wrap IntKind.i64 (Int.ofNat b + -Int.ofNat m) = Int.ofNat (b - m),
      (Int.ofNat (b - m) == (1 : Int)) = false,
      IntKind.wrap IntKind.i64 (Int.fdiv (IntKind.wrap IntKind.u64 (IntKind.wrap IntKind.i64 (Int.ofNat (a + b)))) (2 : Int)) = Int.ofNat mid,
      IntKind.wrap IntKind.i64 (Int.ofNat (mid + m)) = Int.ofNat (mid + m),
      decide (Int.ofNat m > Int.ofNat mid) = true,
      IntKind.wrap IntKind.i64 (Int.ofNat (mid + m) + -Int.ofNat b) = Int.ofNat (mid + m - b),
      IntKind.wrap IntKind.i64 (Int.ofNat (mid + m) + (-1 : Int)) = Int.ofNat (mid + m - (1 : Nat)),
      LoopC Try.prog (1 : Nat) (220 : Nat) soZB { env := [((0 : Nat), V.own (0 : Nat)), ((1 : Nat), I (Int.ofNat a)), ((2 : Nat), I (Int.ofNat m)), ((3 : Nat), I (Int.ofNat b)), ((4 : Nat), V.clo (Fn.func (30 : Nat)) [] []), ((18 : Nat), I (Int.ofNat mid)), ((19 : Nat), I (Int.ofNat (mid + m))), ((20 : Nat), I (Int.ofNat (mid + m - b))), ((21 : Nat), I (Int.ofNat mid)), ((22 : Nat), I (Int.ofNat (mid + m - (1 : Nat))))], st := [((0 : Nat), Obj.arr (6 : Nat) (List.map Ep.row l))], ids := [(0 : Nat), (0 : Nat)] } (Ex.exit (8 : Nat)) { env := [((0 : Nat), V.own (0 : Nat)), ((1 : Nat), I (Int.ofNat a)), ((2 : Nat), I (Int.ofNat m)), ((3 : Nat), I (Int.ofNat b)), ((4 : Nat), V.clo (Fn.func (30 : Nat)) [] []), ((18 : Nat), I (Int.ofNat mid)), ((19 : Nat), I (Int.ofNat (mid + m))), ((20 : Nat), I (Int.ofNat s)), ((21 : Nat), I (Int.ofNat s)), ((22 : Nat), I (Int.ofNat (mid + m - (1 : Nat))))], st := [((0 : Nat), Obj.arr (6 : Nat) (List.map Ep.row l))], ids := [(0 : Nat), (0 : Nat)] },
      IntKind.wrap IntKind.i64 (Int.ofNat (mid + m) + -Int.ofNat s) = Int.ofNat e,
      CodeC Try.prog (1 : Nat) (220 : Nat) soT1B { env := [((0 : Nat), V.own (0 : Nat)), ((1 : Nat), I (Int.ofNat a)), ((2 : Nat), I (Int.ofNat m)), ((3 : Nat), I (Int.ofNat b)), ((4 : Nat), V.clo (Fn.func (30 : Nat)) [] []), ((18 : Nat), I (Int.ofNat mid)), ((20 : Nat), I (Int.ofNat s)), ((24 : Nat), I (Int.ofNat e))], st := [((0 : Nat), Obj.arr (6 : Nat) (List.map Ep.row l))], ids := [(0 : Nat), (0 : Nat)] } Ex.normal { env := [((0 : Nat), V.own (0 : Nat)), ((1 : Nat), I (Int.ofNat a)), ((2 : Nat), I (Int.ofNat m)), ((3 : Nat), I (Int.ofNat b)), ((4 : Nat), V.clo (Fn.func (30 : Nat)) [] []), ((18 : Nat), I (Int.ofNat mid)), ((20 : Nat), I (Int.ofNat s)), ((24 : Nat), I (Int.ofNat e))], st := [((0 : Nat), Obj.arr (6 : Nat) (List.map Ep.row r))], ids := [(0 : Nat), (0 : Nat)] }] (by kernel_rfl)
    (by
      simp only [allP]
      and_intros <;> first
        | (simp; omega)
        | exact hl
        | exact ht
        | exact i64_small (by simp; omega)
        | (rw [i64_small (by simp; omega)]; simp; omega)
        | (rw [hmid]; exact halfW (by omega)))

theorem soG1 (l r : List Ep)  (a m b mid s e : Nat) (hm : m ≠ a + 1) (hb : b ≠ m + 1) (ham : a < m) (hmb : m < b) (hs : b ≤ 1000000) (hmid : mid = (a + b) / 2) (hmg : (mid < m)) (he : e = mid + m - s) (hse : s ≤ mid + m) (hl : LoopC Try.prog 1 220 soZB (soZ (l)  a m b mid (mid + m) (mid + m - b) mid (mid + m - 1)) (.exit 8) (soZ (l)  a m b mid (mid + m) s s (mid + m - 1))) (ht : CodeC Try.prog 1 220 soT1B (soT (l)  a m b mid s e) .normal (soT (r)  a m b mid s e)) : Contract Try.prog 42 [.own 0, I (a : Int), I (m : Int), I (b : Int), .clo (.func 30) [] []] [.arr 6 ((l).map Ep.row)] (.tup []) [some (.arr 6 ((r).map Ep.row))] := by
  exact Contract.cast (by
    first
      | rfl) (by
    first
      | rfl) (soG1_0 l r a m b mid s e hm hb ham hmb hs hmid hmg he hse hl ht )

end Go.Proofs.Ytfpdlamjlbpmkaa

/- Parts of lists in order. -/
namespace Go.Proofs.Ytfpdlamjlbpmkaa
open Go
theorem all_take {α : Type} {B : List α} {r : Nat} {p : α → Prop} (h : ∀ k z, k < r → B[k]? = some z → p z) : ∀ y ∈ B.take r, p y := by
  intro y hy
  obtain ⟨k, hk⟩ := List.mem_iff_getElem?.1 hy
  rw [List.getElem?_take] at hk
  split at hk
  · exact h k y ‹_› hk
  · cases hk
theorem all_drop {α : Type} {B : List α} {r : Nat} {p : α → Prop} (h : ∀ k z, r ≤ k → B[k]? = some z → p z) : ∀ y ∈ B.drop r, p y := by
  intro y hy
  obtain ⟨k, hk⟩ := List.mem_iff_getElem?.1 hy
  rw [List.getElem?_drop] at hk
  exact h _ y (by omega) hk
theorem Swo.irrefl {α : Type} {lt : α → α → Bool} (ho : Swo lt) (a : α) : lt a a = false := by
  cases h : lt a a with
  | false => rfl
  | true => rw [ho.asymm h] at h; cases h
theorem Srt.le {α : Type} {lt : α → α → Bool} (ho : Swo lt) {B : List α} (h : Srt lt B) {i j : Nat} {x y : α} (hij : i ≤ j) (hi : B[i]? = some x) (hj : B[j]? = some y) : lt y x = false := by
  obtain ⟨i1, i2⟩ := List.getElem?_eq_some_iff.1 hi
  obtain ⟨j1, j2⟩ := List.getElem?_eq_some_iff.1 hj
  by_cases e : i = j
  · subst e
    rw [hi] at hj
    cases hj
    exact ho.irrefl _
  · have := List.pairwise_iff_getElem.1 h i j i1 j1 (by omega)
    rw [i2, j2] at this
    exact this
theorem Srt.take {α : Type} {lt : α → α → Bool} {B : List α} (h : Srt lt B) (n : Nat) : Srt lt (B.take n) := List.Pairwise.sublist (List.take_sublist _ _) h
theorem Srt.drop {α : Type} {lt : α → α → Bool} {B : List α} (h : Srt lt B) (n : Nat) : Srt lt (B.drop n) := List.Pairwise.sublist (List.drop_sublist _ _) h
/-- What stands in the first, and in the second, of two parts. -/
theorem at_fst {α : Type} {P A B Q : List α} {h : Nat} (h1 : P.length ≤ h) (h2 : h < P.length + A.length) : ∃ z, (P ++ A ++ B ++ Q)[h]? = some z ∧ A[h - P.length]? = some z := by
  refine ⟨A[h - P.length]'(by omega), ?_, List.getElem?_eq_getElem (by omega)⟩
  rw [List.append_assoc, List.append_assoc, List.getElem?_append_right h1, List.getElem?_append_left (by omega)]
  exact List.getElem?_eq_getElem (by omega)
theorem at_snd {α : Type} {P A B Q : List α} {h : Nat} (h1 : P.length + A.length ≤ h) (h2 : h < P.length + A.length + B.length) : ∃ z, (P ++ A ++ B ++ Q)[h]? = some z ∧ B[h - (P.length + A.length)]? = some z := by
  refine ⟨B[h - (P.length + A.length)]'(by omega), ?_, List.getElem?_eq_getElem (by omega)⟩
  rw [List.append_assoc, List.getElem?_append_right (by simp; omega), List.getElem?_append_left (by simp; omega)]
  simp only [List.length_append]
  exact List.getElem?_eq_getElem (by omega)
/-- The second list is the first one with every `bs` of it put in order. -/
inductive Chk {α : Type} (lt : α → α → Bool) (bs : Nat) : List α → List α → Prop
  | last (l : List α) : l.length < bs → Chk lt bs l (srt lt l)
  | cons (c l r : List α) : c.length = bs → Chk lt bs l r → Chk lt bs (c ++ l) (srt lt c ++ r)
theorem Chk.len {α : Type} {lt : α → α → Bool} {bs : Nat} {l r : List α} (h : Chk lt bs l r) : r.length = l.length := by
  induction h with
  | last l h => exact srt_len l
  | cons c l r hc h ih => simp [srt_len, ih]
theorem Chk.done {α : Type} {lt : α → α → Bool} {bs : Nat} {l r : List α} (h : Chk lt bs l r) (hl : l.length ≤ bs) : r = srt lt l := by
  cases h with
  | last l h => rfl
  | cons c l r hc h =>
    simp only [List.length_append] at hl
    have : l = [] := List.eq_nil_of_length_eq_zero (by omega)
    subst this
    have : r = [] := List.eq_nil_of_length_eq_zero h.len
    subst this
    simp
theorem Chk.two {α : Type} {lt : α → α → Bool} {bs : Nat} {l r : List α} (h : Chk lt bs l r) (hl : bs < l.length) : ∃ c l' r', l = c ++ l' ∧ r = srt lt c ++ r' ∧ c.length = bs ∧ Chk lt bs l' r' := by
  cases h with
  | last l h => omega
  | cons c l r hc h => exact ⟨c, l, r, rfl, rfl, hc, h⟩
end Go.Proofs.Ytfpdlamjlbpmkaa

/- sorting gleaning/api.Episode: merging in place, the law. -/
namespace Go.Proofs.Ytfpdlamjlbpmkaa
open E
set_option maxRecDepth 100000
set_option linter.unusedVariables false
set_option linter.unusedSimpArgs false

theorem soKin  (x : Ep) (R : List Ep) (i : Nat) : ∀ (B1 A : List Ep), i = A.length + B1.length + 1 → A.length + B1.length + R.length + 1 ≤ 1000000 →
    ∃ k, LoopC Try.prog 1 220 soKB (soK (A ++ x :: (B1 ++ R))  i A.length) (.exit 2) (soK (A ++ (B1 ++ x :: R))  i k)
  | [], A, hi, hs => ⟨A.length, by
      simp only [List.nil_append]
      exact LoopC.last (soKz _  i _ (by omega) (by simp at hi hs; omega) (by simp at hi; omega)) (by simp)⟩
  | y :: B1, A, hi, hs => by
    simp only [List.length_cons] at hi hs
    obtain ⟨k, hk⟩ := soKin  x R i B1 (A ++ [y]) (by simp; omega) (by simp; omega)
    refine ⟨k, ?_⟩
    have hr := soKgo A (B1 ++ R) x y  i A.length rfl (by omega) (by omega) (by simp; omega)
    rw [show (A ++ [y]).length = A.length + 1 by simp] at hk
    simp only [List.append_assoc, List.cons_append, List.nil_append] at hr hk ⊢
    exact LoopC.next hr hk
theorem soHin  (x : Ep) (A A2 : List Ep) : ∀ R : List Ep, A.length + A2.length + R.length + 1 ≤ 1000000 →
    ∃ k, LoopC Try.prog 1 220 soHB (soH (A ++ (A2 ++ x :: R))  A.length (A.length + A2.length)) (.exit 6) (soH (A ++ x :: (A2 ++ R))  A.length k) := by
  refine snoc_ind (P := fun A2 => ∀ R : List Ep, A.length + A2.length + R.length + 1 ≤ 1000000 →
    ∃ k, LoopC Try.prog 1 220 soHB (soH (A ++ (A2 ++ x :: R))  A.length (A.length + A2.length)) (.exit 6) (soH (A ++ x :: (A2 ++ R))  A.length k)) ?_ ?_ A2
  · intro R hs
    refine ⟨A.length, ?_⟩
    simp only [List.nil_append, List.length_nil, Nat.add_zero]
    exact LoopC.last (soHz _  _ _ (Nat.le_refl _)) (by simp)
  · intro A2 y ih R hs
    simp only [List.length_append, List.length_cons, List.length_nil] at hs ⊢
    obtain ⟨k, hk⟩ := ih (y :: R) (by simp; omega)
    refine ⟨k, ?_⟩
    have hr := soHgo (A ++ A2) R x y  A.length (A.length + (A2.length + 1)) (by simp; omega) (by omega) (by simp; omega)
    rw [show (A ++ A2).length = A.length + A2.length by simp] at hr
    simp only [List.append_assoc, List.cons_append, List.nil_append] at hr hk ⊢
    exact LoopC.next hr hk
/-- One before a part. -/
theorem soSym1  (ho : Swo (soLt )) (P : List Ep) (x : Ep) (B Q : List Ep) (a m b : Nat) (hB : Srt (soLt ) B) (ha : a = P.length) (hm : m = P.length + 1) (hb : b = P.length + 1 + B.length) (hs : P.length + 1 + B.length + Q.length ≤ 500000) :
    Contract Try.prog 42 [.own 0, I ((a : Nat) : Int), I ((m : Nat) : Int), I ((b : Nat) : Int), .clo (.func 30) [] []] [.arr 6 ((P ++ [x] ++ B ++ Q).map Ep.row)] (.tup []) [some (.arr 6 ((P ++ mrg (soLt ) [x] B ++ Q).map Ep.row))] := by
  have hat : ∀ h, m ≤ h → h < b → ∃ z, (P ++ [x] ++ B ++ Q)[h]? = some z ∧ B[h - m]? = some z := fun h h1 h2 => by
    have := at_snd (P := P) (A := [x]) (B := B) (Q := Q) (h := h) (by simp; omega) (by simp; omega)
    simpa [← hm] using this
  have hx : (P ++ [x] ++ B ++ Q)[a]? = some x := by subst ha; simp
  obtain ⟨r, r1, r2, r3, r4, r5⟩ := LoopC.half (fun h => (B[h - m]?).elim false (fun z => (soLt ) z x)) (fun i j => soX (P ++ [x] ++ B ++ Q)  a m b i j) (e := .exit 0) (by simp) m b
    (fun i j h1 h2 h3 hp => by
      obtain ⟨z, z1, z2⟩ := hat j (by omega) h3
      obtain ⟨w, w1, w2⟩ := hat i h1 (by omega)
      simp only [z2, w2, Option.elim_some] at hp ⊢
      exact ho.lt_of_le_lt (Srt.le ho hB (by omega) w2 z2) hp)
    (fun i j h1 h2 h3 hp => by
      obtain ⟨z, z1, z2⟩ := hat ((i + j) / 2) (by omega) (by omega)
      simp only [z2, Option.elim_some] at hp
      exact soXgo _  a m b i j z x h2 (by omega) z1 hx hp)
    (fun i j h1 h2 h3 hp => by
      obtain ⟨z, z1, z2⟩ := hat ((i + j) / 2) (by omega) (by omega)
      simp only [z2, Option.elim_some] at hp
      exact soXba _  a m b i j z x h2 (by omega) z1 hx hp)
    (fun i h1 h2 => soXz _  a m b i i (Nat.le_refl _)) (by omega)
  obtain ⟨B1, B2, hB12, lB1, t1, t2⟩ : ∃ B1 B2, B = B1 ++ B2 ∧ B1.length = r - m ∧ (∀ y ∈ B1, (soLt ) y x = true) ∧ (∀ y ∈ B2, (soLt ) y x = false) :=
    ⟨B.take (r - m), B.drop (r - m), (List.take_append_drop _ _).symm, (by rw [List.length_take]; omega), all_take (fun k z hk hz => by
      have := r3 (m + k) (by omega) (by omega)
      simp only [show m + k - m = k by omega, hz, Option.elim_some] at this
      exact this), all_drop (fun k z hk hz => by
      have hk' := (List.getElem?_eq_some_iff.1 hz).1
      have := r4 (m + k) (by omega) (by omega)
      simp only [show m + k - m = k by omega, hz, Option.elim_some] at this
      exact this)⟩
  subst hB12
  simp only [List.length_append] at hb hs
  obtain ⟨k, hk⟩ := soKin  x (B2 ++ Q) r B1 P (by omega) (by simp; omega)
  rw [mrg_one_l ho B1 x B2 t1 t2]
  rw [← ha] at hk
  simp only [List.append_assoc, List.cons_append, List.nil_append] at r5 hk ⊢
  exact soS1 _ _  a m b r k (by omega) (by omega) (by omega) r5 hk
/-- One behind a part. -/
theorem soSym2  (ho : Swo (soLt )) (P : List Ep) (y : Ep) (A Q : List Ep) (a m b : Nat) (hA : Srt (soLt ) A) (h1 : A.length ≠ 1) (ha : a = P.length) (hm : m = P.length + A.length) (hb : b = P.length + A.length + 1) (hs : P.length + 1 + A.length + Q.length ≤ 500000) :
    Contract Try.prog 42 [.own 0, I ((a : Nat) : Int), I ((m : Nat) : Int), I ((b : Nat) : Int), .clo (.func 30) [] []] [.arr 6 ((P ++ A ++ [y] ++ Q).map Ep.row)] (.tup []) [some (.arr 6 ((P ++ mrg (soLt ) A [y] ++ Q).map Ep.row))] := by
  have hat : ∀ h, a ≤ h → h < m → ∃ z, (P ++ A ++ [y] ++ Q)[h]? = some z ∧ A[h - a]? = some z := fun h h1 h2 => by
    have := at_fst (P := P) (A := A) (B := [y]) (Q := Q) (h := h) (by omega) (by omega)
    rwa [← ha] at this
  have hy : (P ++ A ++ [y] ++ Q)[m]? = some y := by subst hm; simp
  obtain ⟨r, r1, r2, r3, r4, r5⟩ := LoopC.half (fun h => (A[h - a]?).elim false (fun z => !((soLt ) y z))) (fun i j => soY (P ++ A ++ [y] ++ Q)  a m b i j) (e := .exit 4) (by simp) a m
    (fun i j h1 h2 h3 hp => by
      obtain ⟨z, z1, z2⟩ := hat j (by omega) h3
      obtain ⟨w, w1, w2⟩ := hat i h1 (by omega)
      simp only [z2, w2, Option.elim_some, Bool.not_eq_true'] at hp ⊢
      exact ho.trans (Srt.le ho hA (by omega) w2 z2) hp)
    (fun i j h1 h2 h3 hp => by
      obtain ⟨z, z1, z2⟩ := hat ((i + j) / 2) (by omega) (by omega)
      simp only [z2, Option.elim_some, Bool.not_eq_true'] at hp
      exact soYgo _  a m b i j y z h2 (by omega) hy z1 hp)
    (fun i j h1 h2 h3 hp => by
      obtain ⟨z, z1, z2⟩ := hat ((i + j) / 2) (by omega) (by omega)
      simp only [z2, Option.elim_some, Bool.not_eq_false'] at hp
      exact soYba _  a m b i j y z h2 (by omega) hy z1 hp)
    (fun i h1 h2 => soYz _  a m b i i (Nat.le_refl _)) (by omega)
  obtain ⟨A1, A2, hA12, lA1, t1, t2⟩ : ∃ A1 A2, A = A1 ++ A2 ∧ A1.length = r - a ∧ (∀ z ∈ A1, (soLt ) y z = false) ∧ (∀ z ∈ A2, (soLt ) y z = true) :=
    ⟨A.take (r - a), A.drop (r - a), (List.take_append_drop _ _).symm, (by rw [List.length_take]; omega), all_take (fun k z hk hz => by
      have := r3 (a + k) (by omega) (by omega)
      simp only [show a + k - a = k by omega, hz, Option.elim_some, Bool.not_eq_true'] at this
      exact this), all_drop (fun k z hk hz => by
      have hk' := (List.getElem?_eq_some_iff.1 hz).1
      have := r4 (a + k) (by omega) (by omega)
      simp only [show a + k - a = k by omega, hz, Option.elim_some, Bool.not_eq_false'] at this
      exact this)⟩
  subst hA12
  simp only [List.length_append] at hb hs hm h1
  obtain ⟨k, hk⟩ := soHin  y (P ++ A1) A2 Q (by simp; omega)
  rw [mrg_one ho A1 y A2 t1 t2]
  rw [show (P ++ A1).length = r by simp; omega, show r + A2.length = m by omega] at hk
  simp only [List.append_assoc, List.cons_append, List.nil_append] at r5 hk ⊢
  exact soS2 _ _  a m b r k (by omega) (by omega) (by omega) (by omega) r5 hk
theorem soG (l l1 l2 l3 : List Ep)  (a m b mid s e lo hi : Nat) (hm : m ≠ a + 1) (hb : b ≠ m + 1) (ham : a < m) (hmb : m < b) (hs : b ≤ 500000) (hmid : mid = (a + b) / 2) (he : e = mid + m - s) (hse : s ≤ mid + m) (hL : mid < m → lo = mid + m - b ∧ hi = mid) (hM : ¬ mid < m → lo = a ∧ hi = m) (hl : LoopC Try.prog 1 220 soZB (soZ l  a m b mid (mid + m) lo hi (mid + m - 1)) (.exit 8) (soZ l  a m b mid (mid + m) s s (mid + m - 1))) (hR : s < m ∧ m < e → Contract Try.prog 46 [.own 0, I ((s : Nat) : Int), I ((m : Nat) : Int), I ((e : Nat) : Int), .clo (.func 30) [] []] [.arr 6 ((l).map Ep.row)] (.tup []) [some (.arr 6 ((l1).map Ep.row))]) (hR0 : ¬ (s < m ∧ m < e) → l1 = l) (hS : a < s ∧ s < mid → Contract Try.prog 42 [.own 0, I ((a : Nat) : Int), I ((s : Nat) : Int), I ((mid : Nat) : Int), .clo (.func 30) [] []] [.arr 6 ((l1).map Ep.row)] (.tup []) [some (.arr 6 ((l2).map Ep.row))]) (hS0 : ¬ (a < s ∧ s < mid) → l2 = l1) (hT : mid < e ∧ e < b → Contract Try.prog 42 [.own 0, I ((mid : Nat) : Int), I ((e : Nat) : Int), I ((b : Nat) : Int), .clo (.func 30) [] []] [.arr 6 ((l2).map Ep.row)] (.tup []) [some (.arr 6 ((l3).map Ep.row))]) (hT0 : ¬ (mid < e ∧ e < b) → l3 = l2) :
    Contract Try.prog 42 [.own 0, I ((a : Nat) : Int), I ((m : Nat) : Int), I ((b : Nat) : Int), .clo (.func 30) [] []] [.arr 6 ((l).map Ep.row)] (.tup []) [some (.arr 6 ((l3).map Ep.row))] := by
  have ht := soTT l l1 l2 l3  a m b mid s e hR hR0 hS hS0 hT hT0
  by_cases hmg : mid < m
  · obtain ⟨g1, g2⟩ := hL hmg
    rw [g1, g2] at hl
    exact soG1 _ _  a m b mid s e hm hb ham hmb (by omega) hmid hmg he hse hl ht
  · obtain ⟨g1, g2⟩ := hM hmg
    rw [g1, g2] at hl
    exact soG0 _ _  a m b mid s e hm hb ham hmb (by omega) hmid hmg he hse hl ht
/-- Two parts in order are merged in place. -/
theorem soSym  (ho : Swo (soLt )) : ∀ (d : Nat) (P A B Q : List Ep) (a m b : Nat), A.length + B.length ≤ d → 0 < A.length → 0 < B.length → Srt (soLt ) A → Srt (soLt ) B → a = P.length → m = P.length + A.length → b = P.length + A.length + B.length → P.length + A.length + B.length + Q.length ≤ 500000 →
    Contract Try.prog 42 [.own 0, I ((a : Nat) : Int), I ((m : Nat) : Int), I ((b : Nat) : Int), .clo (.func 30) [] []] [.arr 6 ((P ++ A ++ B ++ Q).map Ep.row)] (.tup []) [some (.arr 6 ((P ++ mrg (soLt ) A B ++ Q).map Ep.row))]
  | 0, P, A, B, Q, a, m, b, hd, hA, _, _, _, _, _, _, _ => by omega
  | d + 1, P, A, B, Q, a, m, b, hd, hA, hB, sA, sB, ha, hm, hb, hs => by
    by_cases c1 : A.length = 1
    · obtain ⟨x, rfl⟩ := List.length_eq_one_iff.1 c1
      exact soSym1  ho P x B Q a m b sB ha (by simpa using hm) (by simpa using hb) (by simpa using hs)
    by_cases c2 : B.length = 1
    · obtain ⟨y, rfl⟩ := List.length_eq_one_iff.1 c2
      exact soSym2  ho P y A Q a m b sA c1 ha hm (by simpa using hb) (by simp at hs; omega)
    have hfst : ∀ h, a ≤ h → h < m → ∃ z, (P ++ A ++ B ++ Q)[h]? = some z ∧ A[h - a]? = some z := fun h h1 h2 => by
      have := at_fst (P := P) (A := A) (B := B) (Q := Q) (h := h) (by omega) (by omega)
      rwa [← ha] at this
    have hsnd : ∀ h, m ≤ h → h < b → ∃ z, (P ++ A ++ B ++ Q)[h]? = some z ∧ B[h - m]? = some z := fun h h1 h2 => by
      have := at_snd (P := P) (A := A) (B := B) (Q := Q) (h := h) (by omega) (by omega)
      rwa [← hm] at this
    generalize hmid : (a + b) / 2 = mid
    obtain ⟨lo, hi, hL, hM, b1, b2, b3, b4, b5⟩ : ∃ lo hi : Nat, (mid < m → lo = mid + m - b ∧ hi = mid) ∧ (¬ mid < m → lo = a ∧ hi = m) ∧ a ≤ lo ∧ lo ≤ hi ∧ hi ≤ m ∧ m + hi ≤ mid + m ∧ mid + m ≤ lo + b := by
      by_cases hmg : mid < m
      · exact ⟨mid + m - b, mid, fun _ => ⟨rfl, rfl⟩, fun h => absurd hmg h, by omega, by omega, by omega, by omega, by omega⟩
      · exact ⟨a, m, fun h => absurd h hmg, fun _ => ⟨rfl, rfl⟩, by omega, by omega, by omega, by omega, by omega⟩
    obtain ⟨s, r1, r2, r3, r4, r5⟩ := LoopC.half (fun h => (A[h - a]?).elim false (fun x => (B[mid + m - 1 - h - m]?).elim false (fun y => !((soLt ) y x)))) (fun i j => soZ (P ++ A ++ B ++ Q)  a m b mid (mid + m) i j (mid + m - 1)) (e := .exit 8) (by simp) lo hi
      (fun i j h1 h2 h3 hp => by
        obtain ⟨x, x1, x2⟩ := hfst j (by omega) (by omega)
        obtain ⟨y, y1, y2⟩ := hsnd (mid + m - 1 - j) (by omega) (by omega)
        obtain ⟨z, z1, z2⟩ := hfst i (by omega) (by omega)
        obtain ⟨w, w1, w2⟩ := hsnd (mid + m - 1 - i) (by omega) (by omega)
        simp only [x2, y2, z2, w2, Option.elim_some, Bool.not_eq_true'] at hp ⊢
        exact ho.trans (ho.trans (Srt.le ho sA (by omega) z2 x2) hp) (Srt.le ho sB (by omega) y2 w2))
      (fun i j h1 h2 h3 hp => by
        obtain ⟨x, x1, x2⟩ := hfst ((i + j) / 2) (by omega) (by omega)
        obtain ⟨y, y1, y2⟩ := hsnd (mid + m - 1 - (i + j) / 2) (by omega) (by omega)
        simp only [x2, y2, Option.elim_some, Bool.not_eq_true'] at hp
        exact soZgo _  a m b mid (mid + m) i j (mid + m - 1) y x h2 (by omega) (by omega) (by omega) y1 x1 hp)
      (fun i j h1 h2 h3 hp => by
        obtain ⟨x, x1, x2⟩ := hfst ((i + j) / 2) (by omega) (by omega)
        obtain ⟨y, y1, y2⟩ := hsnd (mid + m - 1 - (i + j) / 2) (by omega) (by omega)
        simp only [x2, y2, Option.elim_some, Bool.not_eq_false'] at hp
        exact soZba _  a m b mid (mid + m) i j (mid + m - 1) y x h2 (by omega) (by omega) (by omega) y1 x1 hp)
      (fun i h1 h2 => soZz _  a m b mid (mid + m) i i (mid + m - 1) (Nat.le_refl _)) b2
    have k1 : ∀ i j x y, A[i]? = some x → B[j]? = some y → a + i < s → mid + m - s ≤ m + j → (soLt ) y x = false := fun i j x y hx hy g1 g2 => by
      have hj := (List.getElem?_eq_some_iff.1 hy).1
      by_cases hlo : s = lo
      · by_cases hmg : mid < m
        · have := hL hmg; omega
        · have := hM hmg; omega
      obtain ⟨x', x1, x2⟩ := hfst (s - 1) (by omega) (by omega)
      obtain ⟨y', y1, y2⟩ := hsnd (mid + m - 1 - (s - 1)) (by omega) (by omega)
      have hp := r3 (s - 1) (by omega) (by omega)
      simp only [x2, y2, Option.elim_some, Bool.not_eq_true'] at hp
      exact ho.trans (ho.trans (Srt.le ho sA (by omega) hx x2) hp) (Srt.le ho sB (by omega) y2 hy)
    have k2 : ∀ i j x y, A[i]? = some x → B[j]? = some y → s ≤ a + i → m + j < mid + m - s → (soLt ) y x = true := fun i j x y hx hy g1 g2 => by
      have hi' := (List.getElem?_eq_some_iff.1 hx).1
      by_cases hlo : s = hi
      · by_cases hmg : mid < m
        · have := hL hmg; omega
        · have := hM hmg; omega
      obtain ⟨x', x1, x2⟩ := hfst s (by omega) (by omega)
      obtain ⟨y', y1, y2⟩ := hsnd (mid + m - 1 - s) (by omega) (by omega)
      have hp := r4 s (by omega) (by omega)
      simp only [x2, y2, Option.elim_some, Bool.not_eq_false'] at hp
      exact ho.lt_of_lt_le (ho.lt_of_le_lt (Srt.le ho sB (by omega) hy y2) hp) (Srt.le ho sA (by omega) x2 hx)
    obtain ⟨A1, A2, B1, B2, hA12, hB12, lA1, lB1, sA1, sA2, sB1, sB2, t1, t2⟩ : ∃ A1 A2 B1 B2, A = A1 ++ A2 ∧ B = B1 ++ B2 ∧ A1.length = s - a ∧ B1.length = mid - s ∧ Srt (soLt ) A1 ∧ Srt (soLt ) A2 ∧ Srt (soLt ) B1 ∧ Srt (soLt ) B2 ∧ (∀ x ∈ A1, ∀ y ∈ B2, (soLt ) y x = false) ∧ (∀ y ∈ B1, ∀ x ∈ A2, (soLt ) y x = true) :=
      ⟨A.take (s - a), A.drop (s - a), B.take (mid - s), B.drop (mid - s), (List.take_append_drop _ _).symm, (List.take_append_drop _ _).symm, (by rw [List.length_take]; omega), (by rw [List.length_take]; omega),
        sA.take _, sA.drop _, sB.take _, sB.drop _,
        all_take (fun i x hi hx => all_drop (fun j y hj hy => k1 i j x y hx hy (by omega) (by omega))),
        all_take (fun j y hj hy => all_drop (fun i x hi hx => k2 i j x y hx hy (by omega) (by omega)))⟩
    subst hA12 hB12
    simp only [List.length_append] at hd hA hB hm hb hs c1 c2
    rw [mrg_append ho A1 B1 A2 B2 t1 t2]
    refine soG _ (P ++ A1 ++ B1 ++ A2 ++ B2 ++ Q) (P ++ mrg (soLt ) A1 B1 ++ A2 ++ B2 ++ Q) _  a m b mid s (mid + m - s) lo hi (by omega) (by omega) (by omega) (by omega) (by omega) hmid.symm rfl (by omega) hL hM r5 ?_ ?_ ?_ ?_ ?_ ?_
    · intro q
      have := soRot  (P ++ A1) A2 B1 (B2 ++ Q) s m (mid + m - s) (by omega) (by omega) (by simp; omega) (by simp; omega) (by simp; omega) (by simp; omega)
      simp only [List.append_assoc, List.cons_append, List.nil_append] at this ⊢
      exact this
    · intro q
      have : A2 = [] ∨ B1 = [] := by
        rcases Nat.eq_zero_or_pos A2.length with h | h
        · exact .inl (List.eq_nil_of_length_eq_zero h)
        · rcases Nat.eq_zero_or_pos B1.length with h' | h'
          · exact .inr (List.eq_nil_of_length_eq_zero h')
          · exact absurd ⟨by omega, by omega⟩ q
      rcases this with rfl | rfl <;> simp
    · intro q
      have := soSym  ho d P A1 B1 (A2 ++ B2 ++ Q) a s mid (by omega) (by omega) (by omega) sA1 sB1 ha (by omega) (by omega) (by simp; omega)
      simp only [List.append_assoc, List.cons_append, List.nil_append] at this ⊢
      exact this
    · intro q
      have : A1 = [] ∨ B1 = [] := by
        rcases Nat.eq_zero_or_pos A1.length with h | h
        · exact .inl (List.eq_nil_of_length_eq_zero h)
        · rcases Nat.eq_zero_or_pos B1.length with h' | h'
          · exact .inr (List.eq_nil_of_length_eq_zero h')
          · exact absurd ⟨by omega, by omega⟩ q
      rcases this with rfl | rfl
      · rw [mrg_nil_l]; simp
      · rw [mrg_nil_r]; simp
    · intro q
      have := soSym  ho d (P ++ mrg (soLt ) A1 B1) A2 B2 Q mid (mid + m - s) b (by omega) (by omega) (by omega) sA2 sB2 (by simp [mrg_len]; omega) (by simp [mrg_len]; omega) (by simp [mrg_len]; omega) (by simp [mrg_len]; omega)
      simp only [List.append_assoc, List.cons_append, List.nil_append] at this ⊢
      exact this
    · intro q
      have : A2 = [] ∨ B2 = [] := by
        rcases Nat.eq_zero_or_pos A2.length with h | h
        · exact .inl (List.eq_nil_of_length_eq_zero h)
        · rcases Nat.eq_zero_or_pos B2.length with h' | h'
          · exact .inr (List.eq_nil_of_length_eq_zero h')
          · exact absurd ⟨by omega, by omega⟩ q
      rcases this with rfl | rfl
      · rw [mrg_nil_l]; simp
      · rw [mrg_nil_r]; simp
end Go.Proofs.Ytfpdlamjlbpmkaa

/- sorting gleaning/api.Episode: blocks, and twice as large blocks. -/
namespace Go.Proofs.Ytfpdlamjlbpmkaa
open E
set_option maxRecDepth 100000
set_option linter.unusedVariables false
set_option linter.unusedSimpArgs false

def soA (l : List Ep)  (n bs a b : Nat) : SL := ⟨[(0, .own 0), (1, I (n : Int)), (2, .clo (.func 30) [] []), (6, I (bs : Int)), (7, I (a : Int)), (8, I (b : Int))], [(0, .arr 6 (l.map Ep.row))], [0, 0]⟩
def soB (l : List Ep)  (n bs : Nat) : SL := ⟨[(0, .own 0), (1, I (n : Int)), (2, .clo (.func 30) [] []), (6, I (bs : Int))], [(0, .arr 6 (l.map Ep.row))], [0, 0]⟩
def soC (l : List Ep)  (n bs a b : Nat) : SL := ⟨[(0, .own 0), (1, I (n : Int)), (2, .clo (.func 30) [] []), (6, I (bs : Int)), (7, I (a : Int)), (8, I (b : Int))], [(0, .arr 6 (l.map Ep.row))], [0, 0]⟩
noncomputable def soAB : Code := codeAt Try.prog 36 [true, true, false, false, false]

noncomputable def soBB : Code := codeAt Try.prog 36 [true, true, true, true, false, false]

noncomputable def soCB : Code := codeAt Try.prog 36 [true, true, true, true, false, false, true, false, true, false, false, false]

theorem soAgo_0 (l l' : List Ep)  (n bs a b : Nat) (hn : n ≤ 500000) (hs : bs ≤ 1000000) (hb : b ≤ n) (hc : Contract Try.prog 41 [.own 0, I ((a : Nat) : Int), I ((b : Nat) : Int), .clo (.func 30) [] []] [.arr 6 ((l).map Ep.row)] (.tup []) [some (.arr 6 ((l').map Ep.row))]) : CodeC Try.prog 1 63 soAB (soA (l)  n bs a b) (Ex.normal) ({ env := [((0 : Nat), V.own (0 : Nat)), ((1 : Nat), I (Int.ofNat n)), ((2 : Nat), V.clo (Fn.func (30 : Nat)) [] []), ((6 : Nat), I (Int.ofNat bs)), ((7 : Nat), I (Int.ofNat b)), ((8 : Nat), I (Int.ofNat (b + bs)))], st := [((0 : Nat), Obj.arr (6 : Nat) (List.map Ep.row l'))], ids := [(0 : Nat), (0 : Nat)] }) :=
  runP hmix [.reg 2 [(2, [], some true)], .reg 3 [(4, [.call [0] [] (.tup []) [some (.arr 6 ((l').map Ep.row))]], none)], .reg 5 [(2, [.be (I ((b + bs : Nat) : Int))], none)]] ⟨[0, 1, 2, 6, 7, 8], [(0, 0)], []⟩ [
      decide (Int.ofNat b ≤ Int.ofNat n) = true,
      Contract Try.prog (41 : Nat) [V.own (0 : Nat), I (Int.ofNat a), I (Int.ofNat b), V.clo (Fn.func (30 : Nat)) [] []] [Obj.arr (6 : Nat) (List.map Ep.row l)] (V.tup []) [some (Obj.arr (6 : Nat) (List.map Ep.row l'))],
      IntKind.wrap IntKind.i64 (Int.ofNat (b + bs)) = Int.ofNat (b + bs)] (by kernel_rfl)
    (by
      simp only [allP]
      and_intros <;> first
        | omega
        | (simp; omega)
        | exact i64_small (by simp; omega))

theorem soAgo (l l' : List Ep)  (n bs a b : Nat) (hn : n ≤ 500000) (hs : bs ≤ 1000000) (hb : b ≤ n) (hc : Contract Try.prog 41 [.own 0, I ((a : Nat) : Int), I ((b : Nat) : Int), .clo (.func 30) [] []] [.arr 6 ((l).map Ep.row)] (.tup []) [some (.arr 6 ((l').map Ep.row))])  : CodeC Try.prog 1 63 soAB (soA (l)  n bs a b) .normal (soA (l')  n bs b (b + bs)) := by
  exact CodeC.cast (by
    first
      | rfl) (soAgo_0 l l' n bs a b hn hs hb hc )

theorem soAz_0 (l : List Ep)  (n bs a b : Nat) (hb : n < b) : CodeC Try.prog 1 63 soAB (soA (l)  n bs a b) (Ex.exit (0 : Nat)) ({ env := [((0 : Nat), V.own (0 : Nat)), ((1 : Nat), I (Int.ofNat n)), ((2 : Nat), V.clo (Fn.func (30 : Nat)) [] []), ((6 : Nat), I (Int.ofNat bs)), ((7 : Nat), I (Int.ofNat a)), ((8 : Nat), I (Int.ofNat b))], st := [((0 : Nat), Obj.arr (6 : Nat) (List.map Ep.row l))], ids := [(0 : Nat), (0 : Nat)] }) :=
  runP hmix [.reg 2 [(2, [], some false)]] ⟨[0, 1, 2, 6, 7, 8], [(0, 0)], []⟩ [
      decide (Int.ofNat b ≤ Int.ofNat n) = false] (by kernel_rfl)
    (by
      simp only [allP]
      and_intros <;> first
        | (simp; omega))

theorem soAz (l : List Ep)  (n bs a b : Nat) (hb : n < b)  : CodeC Try.prog 1 63 soAB (soA (l)  n bs a b) (.exit 0) (soA (l)  n bs a b) := by
  exact CodeC.cast (by
    first
      | rfl) (soAz_0 l n bs a b hb )

theorem soCgo_0 (l l' : List Ep)  (n bs a b : Nat) (hn : n ≤ 500000) (hs : bs ≤ 1000000) (hb : b ≤ n) (ha : a ≤ n) (hc : Contract Try.prog 42 [.own 0, I ((a : Nat) : Int), I ((a + bs : Nat) : Int), I ((b : Nat) : Int), .clo (.func 30) [] []] [.arr 6 ((l).map Ep.row)] (.tup []) [some (.arr 6 ((l').map Ep.row))]) : CodeC Try.prog 1 63 soCB (soC (l)  n bs a b) (Ex.normal) ({ env := [((0 : Nat), V.own (0 : Nat)), ((1 : Nat), I (Int.ofNat n)), ((2 : Nat), V.clo (Fn.func (30 : Nat)) [] []), ((6 : Nat), I (Int.ofNat bs)), ((7 : Nat), I (Int.ofNat b)), ((8 : Nat), I (Int.ofNat (b + (2 : Nat) * bs)))], st := [((0 : Nat), Obj.arr (6 : Nat) (List.map Ep.row l'))], ids := [(0 : Nat), (0 : Nat)] }) :=
  runP hmix [.reg 9 [(2, [], some true)], .reg 10 [(4, [.be (I ((a + bs : Nat) : Int))], none), (7, [.call [0] [] (.tup []) [some (.arr 6 ((l').map Ep.row))]], none)], .reg 12 [(2, [.be (I ((2 * bs : Nat) : Int))], none), (3, [.be (I ((b + 2 * bs : Nat) : Int))], none)]] ⟨[0, 1, 2, 6, 7, 8], [(0, 0)], []⟩ [
      decide (Int.ofNat b ≤ Int.ofNat n) = true,
      IntKind.wrap IntKind.i64 (Int.ofNat (a + bs)) = Int.ofNat (a + bs),
      Contract Try.prog (42 : Nat) [V.own (0 : Nat), I (Int.ofNat a), I (Int.ofNat (a + bs)), I (Int.ofNat b), V.clo (Fn.func (30 : Nat)) [] []] [Obj.arr (6 : Nat) (List.map Ep.row l)] (V.tup []) [some (Obj.arr (6 : Nat) (List.map Ep.row l'))],
      IntKind.wrap IntKind.i64 (Int.ofNat ((2 : Nat) * bs)) = Int.ofNat ((2 : Nat) * bs),
      IntKind.wrap IntKind.i64 (Int.ofNat (b + (2 : Nat) * bs)) = Int.ofNat (b + (2 : Nat) * bs)] (by kernel_rfl)
    (by
      simp only [allP]
      and_intros <;> first
        | omega
        | (simp; omega)
        | exact i64_small (by simp; omega))

theorem soCgo (l l' : List Ep)  (n bs a b : Nat) (hn : n ≤ 500000) (hs : bs ≤ 1000000) (hb : b ≤ n) (ha : a ≤ n) (hc : Contract Try.prog 42 [.own 0, I ((a : Nat) : Int), I ((a + bs : Nat) : Int), I ((b : Nat) : Int), .clo (.func 30) [] []] [.arr 6 ((l).map Ep.row)] (.tup []) [some (.arr 6 ((l').map Ep.row))])  : CodeC Try.prog 1 63 soCB (soC (l)  n bs a b) .normal (soC (l')  n bs b (b + 2 * bs)) := by
  exact CodeC.cast (by
    first
      | rfl) (soCgo_0 l l' n bs a b hn hs hb ha hc )

theorem soCz_0 (l : List Ep)  (n bs a b : Nat) (hb : n < b) : CodeC Try.prog 1 63 soCB (soC (l)  n bs a b) (Ex.exit (4 : Nat)) ({ env := [((0 : Nat), V.own (0 : Nat)), ((1 : Nat), I (Int.ofNat n)), ((2 : Nat), V.clo (Fn.func (30 : Nat)) [] []), ((6 : Nat), I (Int.ofNat bs)), ((7 : Nat), I (Int.ofNat a)), ((8 : Nat), I (Int.ofNat b))], st := [((0 : Nat), Obj.arr (6 : Nat) (List.map Ep.row l))], ids := [(0 : Nat), (0 : Nat)] }) :=
  runP hmix [.reg 9 [(2, [], some false)]] ⟨[0, 1, 2, 6, 7, 8], [(0, 0)], []⟩ [
      decide (Int.ofNat b ≤ Int.ofNat n) = false] (by kernel_rfl)
    (by
      simp only [allP]
      and_intros <;> first
        | (simp; omega))

theorem soCz (l : List Ep)  (n bs a b : Nat) (hb : n < b)  : CodeC Try.prog 1 63 soCB (soC (l)  n bs a b) (.exit 4) (soC (l)  n bs a b) := by
  exact CodeC.cast (by
    first
      | rfl) (soCz_0 l n bs a b hb )

theorem soBgo_0 (l l' l2 : List Ep)  (n bs a b : Nat) (hn : n ≤ 500000) (hb : bs < n) (ha : a ≤ n) (hm : a + bs < n) (hl : LoopC Try.prog 1 63 soCB (soC (l)  n bs 0 (2 * bs)) (.exit 4) (soC (l')  n bs a b)) (hc : Contract Try.prog 42 [.own 0, I ((a : Nat) : Int), I ((a + bs : Nat) : Int), I ((n : Nat) : Int), .clo (.func 30) [] []] [.arr 6 ((l').map Ep.row)] (.tup []) [some (.arr 6 ((l2).map Ep.row))]) : CodeC Try.prog 1 63 soBB (soB (l)  n bs) (Ex.normal) ({ env := [((0 : Nat), V.own (0 : Nat)), ((1 : Nat), I (Int.ofNat n)), ((2 : Nat), V.clo (Fn.func (30 : Nat)) [] []), ((6 : Nat), I (Int.ofNat ((2 : Nat) * bs)))], st := [((0 : Nat), Obj.arr (6 : Nat) (List.map Ep.row l2))], ids := [(0 : Nat), (0 : Nat)] }) :=
  runP hmix [.reg 7 [(2, [], some true)], .reg 8 [(1, [.be (I ((2 * bs : Nat) : Int))], none)], .cut ⟨[0, 1, 2, 6, 7, 8], [(0, 0)], []⟩ (.exit 4) (soC (l')  n bs a b), .reg 13 [(2, [.be (I ((a + bs : Nat) : Int))], none)], .reg 14 [(2, [], some true)], .reg 15 [(5, [.call [0] [] (.tup []) [some (.arr 6 ((l2).map Ep.row))]], none)], .reg 16 [(1, [.be (I ((2 * bs : Nat) : Int))], none)]] ⟨[0, 1, 2, 6], [(0, 0)], []⟩ [
      decide (Int.ofNat bs < Int.ofNat n) = true,
      IntKind.wrap IntKind.i64 (Int.ofNat ((2 : Nat) * bs)) = Int.ofNat ((2 : Nat) * bs),
      LoopC Try.prog (1 : Nat) (63 : Nat) soCB { env := [((0 : Nat), V.own (0 : Nat)), ((1 : Nat), I (Int.ofNat n)), ((2 : Nat), V.clo (Fn.func (30 : Nat)) [] []), ((6 : Nat), I (Int.ofNat bs)), ((7 : Nat), I (0 : Int)), ((8 : Nat), I (Int.ofNat ((2 : Nat) * bs)))], st := [((0 : Nat), Obj.arr (6 : Nat) (List.map Ep.row l))], ids := [(0 : Nat), (0 : Nat)] } (Ex.exit (4 : Nat)) { env := [((0 : Nat), V.own (0 : Nat)), ((1 : Nat), I (Int.ofNat n)), ((2 : Nat), V.clo (Fn.func (30 : Nat)) [] []), ((6 : Nat), I (Int.ofNat bs)), ((7 : Nat), I (Int.ofNat a)), ((8 : Nat), I (Int.ofNat b))], st := [((0 : Nat), Obj.arr (6 : Nat) (List.map Ep.row l'))], ids := [(0 : Nat), (0 : Nat)] },
      IntKind.wrap IntKind.i64 (Int.ofNat (a + bs)) = Int.ofNat (a + bs),
      decide (Int.ofNat (a + bs) < Int.ofNat n) = true,
      Contract Try.prog (42 : Nat) [V.own (0 : Nat), I (Int.ofNat a), I (Int.ofNat (a + bs)), I (Int.ofNat n), V.clo (Fn.func (30 : Nat)) [] []] [Obj.arr (6 : Nat) (List.map Ep.row l')] (V.tup []) [some (Obj.arr (6 : Nat) (List.map Ep.row l2))],
      IntKind.wrap IntKind.i64 (Int.ofNat (bs * (2 : Nat))) = Int.ofNat ((2 : Nat) * bs)] (by kernel_rfl)
    (by
      simp only [allP]
      and_intros <;> first
        | omega
        | (simp; omega)
        | exact hl
        | exact i64_small (by simp; omega)
        | (rw [i64_small (by simp; omega)]; simp; omega))

theorem soBgo (l l' l2 : List Ep)  (n bs a b : Nat) (hn : n ≤ 500000) (hb : bs < n) (ha : a ≤ n) (hm : a + bs < n) (hl : LoopC Try.prog 1 63 soCB (soC (l)  n bs 0 (2 * bs)) (.exit 4) (soC (l')  n bs a b)) (hc : Contract Try.prog 42 [.own 0, I ((a : Nat) : Int), I ((a + bs : Nat) : Int), I ((n : Nat) : Int), .clo (.func 30) [] []] [.arr 6 ((l').map Ep.row)] (.tup []) [some (.arr 6 ((l2).map Ep.row))])  : CodeC Try.prog 1 63 soBB (soB (l)  n bs) .normal (soB (l2)  n (2 * bs)) := by
  exact CodeC.cast (by
    first
      | rfl) (soBgo_0 l l' l2 n bs a b hn hb ha hm hl hc )

theorem soBno_0 (l l' : List Ep)  (n bs a b : Nat) (hn : n ≤ 500000) (hb : bs < n) (ha : a ≤ n) (hm : n ≤ a + bs) (hl : LoopC Try.prog 1 63 soCB (soC (l)  n bs 0 (2 * bs)) (.exit 4) (soC (l')  n bs a b)) : CodeC Try.prog 1 63 soBB (soB (l)  n bs) (Ex.normal) ({ env := [((0 : Nat), V.own (0 : Nat)), ((1 : Nat), I (Int.ofNat n)), ((2 : Nat), V.clo (Fn.func (30 : Nat)) [] []), ((6 : Nat), I (Int.ofNat ((2 : Nat) * bs)))], st := [((0 : Nat), Obj.arr (6 : Nat) (List.map Ep.row l'))], ids := [(0 : Nat), (0 : Nat)] }) :=
  runP hmix [.reg 7 [(2, [], some true)], .reg 8 [(1, [.be (I ((2 * bs : Nat) : Int))], none)], .cut ⟨[0, 1, 2, 6, 7, 8], [(0, 0)], []⟩ (.exit 4) (soC (l')  n bs a b), .reg 13 [(2, [.be (I ((a + bs : Nat) : Int))], none)], .reg 14 [(2, [], some false)], .reg 16 [(1, [.be (I ((2 * bs : Nat) : Int))], none)]] ⟨[0, 1, 2, 6], [(0, 0)], []⟩ [
      decide (Int.ofNat bs < Int.ofNat n) = true,
      IntKind.wrap IntKind.i64 (Int.ofNat ((2 : Nat) * bs)) = Int.ofNat ((2 : Nat) * bs),
      LoopC Try.prog (1 : Nat) (63 : Nat) soCB { env := [((0 : Nat), V.own (0 : Nat)), ((1 : Nat), I (Int.ofNat n)), ((2 : Nat), V.clo (Fn.func (30 : Nat)) [] []), ((6 : Nat), I (Int.ofNat bs)), ((7 : Nat), I (0 : Int)), ((8 : Nat), I (Int.ofNat ((2 : Nat) * bs)))], st := [((0 : Nat), Obj.arr (6 : Nat) (List.map Ep.row l))], ids := [(0 : Nat), (0 : Nat)] } (Ex.exit (4 : Nat)) { env := [((0 : Nat), V.own (0 : Nat)), ((1 : Nat), I (Int.ofNat n)), ((2 : Nat), V.clo (Fn.func (30 : Nat)) [] []), ((6 : Nat), I (Int.ofNat bs)), ((7 : Nat), I (Int.ofNat a)), ((8 : Nat), I (Int.ofNat b))], st := [((0 : Nat), Obj.arr (6 : Nat) (List.map Ep.row l'))], ids := [(0 : Nat), (0 : Nat)] },
      IntKind.wrap IntKind.i64 (Int.ofNat (a + bs)) = Int.ofNat (a + bs),
      decide (Int.ofNat (a + bs) < Int.ofNat n) = false,
      IntKind.wrap IntKind.i64 (Int.ofNat (bs * (2 : Nat))) = Int.ofNat ((2 : Nat) * bs)] (by kernel_rfl)
    (by
      simp only [allP]
      and_intros <;> first
        | (simp; omega)
        | exact hl
        | exact i64_small (by simp; omega)
        | (rw [i64_small (by simp; omega)]; simp; omega))

theorem soBno (l l' : List Ep)  (n bs a b : Nat) (hn : n ≤ 500000) (hb : bs < n) (ha : a ≤ n) (hm : n ≤ a + bs) (hl : LoopC Try.prog 1 63 soCB (soC (l)  n bs 0 (2 * bs)) (.exit 4) (soC (l')  n bs a b))  : CodeC Try.prog 1 63 soBB (soB (l)  n bs) .normal (soB (l')  n (2 * bs)) := by
  exact CodeC.cast (by
    first
      | rfl) (soBno_0 l l' n bs a b hn hb ha hm hl )

theorem soBz_0 (l : List Ep)  (n bs : Nat) (hb : n ≤ bs) : CodeC Try.prog 1 63 soBB (soB (l)  n bs) (Ex.exit (2 : Nat)) ({ env := [((0 : Nat), V.own (0 : Nat)), ((1 : Nat), I (Int.ofNat n)), ((2 : Nat), V.clo (Fn.func (30 : Nat)) [] []), ((6 : Nat), I (Int.ofNat bs))], st := [((0 : Nat), Obj.arr (6 : Nat) (List.map Ep.row l))], ids := [(0 : Nat), (0 : Nat)] }) :=
  runP hmix [.reg 7 [(2, [], some false)]] ⟨[0, 1, 2, 6], [(0, 0)], []⟩ [
      decide (Int.ofNat bs < Int.ofNat n) = false] (by kernel_rfl)
    (by
      simp only [allP]
      and_intros <;> first
        | (simp; omega))

theorem soBz (l : List Ep)  (n bs : Nat) (hb : n ≤ bs)  : CodeC Try.prog 1 63 soBB (soB (l)  n bs) (.exit 2) (soB (l)  n bs) := by
  exact CodeC.cast (by
    first
      | rfl) (soBz_0 l n bs hb )

theorem soStb_0 (l l' l2 l3 : List Ep)  (n a b bs : Nat) (hl : LoopC Try.prog 1 63 soAB (soA (l)  n 20 0 20) (.exit 0) (soA (l')  n 20 a b)) (hc : Contract Try.prog 41 [.own 0, I ((a : Nat) : Int), I ((n : Nat) : Int), .clo (.func 30) [] []] [.arr 6 ((l').map Ep.row)] (.tup []) [some (.arr 6 ((l2).map Ep.row))]) (hk : LoopC Try.prog 1 63 soBB (soB (l2)  n 20) (.exit 2) (soB (l3)  n bs)) : Contract Try.prog 36 [.own 0, I (n : Int), .clo (.func 30) [] []] [.arr 6 ((l).map Ep.row)] (V.tup []) ([some (Obj.arr (6 : Nat) (List.map Ep.row l3))]) :=
  vcP hmix [.cut ⟨[0, 1, 2, 6, 7, 8], [(0, 0)], []⟩ (.exit 0) (soA (l')  n 20 a b), .reg 6 [(4, [.call [0] [] (.tup []) [some (.arr 6 ((l2).map Ep.row))]], none)], .cut ⟨[0, 1, 2, 6], [(0, 0)], []⟩ (.exit 2) (soB (l3)  n bs)] [] [
      LoopC Try.prog (1 : Nat) (63 : Nat) soAB { env := [((0 : Nat), V.own (0 : Nat)), ((1 : Nat), I (Int.ofNat n)), ((2 : Nat), V.clo (Fn.func (30 : Nat)) [] []), ((6 : Nat), I (20 : Int)), ((7 : Nat), I (0 : Int)), ((8 : Nat), I (20 : Int))], st := [((0 : Nat), Obj.arr (6 : Nat) (List.map Ep.row l))], ids := [(0 : Nat), (0 : Nat)] } (Ex.exit (0 : Nat)) { env := [((0 : Nat), V.own (0 : Nat)), ((1 : Nat), I (Int.ofNat n)), ((2 : Nat), V.clo (Fn.func (30 : Nat)) [] []), ((6 : Nat), I (20 : Int)), ((7 : Nat), I (Int.ofNat a)), ((8 : Nat), I (Int.ofNat b))], st := [((0 : Nat), Obj.arr (6 : Nat) (List.map Ep.row l'))], ids := [(0 : Nat), (0 : Nat)] },
      Contract Try.prog (41 : Nat) [V.own (0 : Nat), I (Int.ofNat a), I (Int.ofNat n), V.clo (Fn.func (30 : Nat)) [] []] [Obj.arr (6 : Nat) (List.map Ep.row l')] (V.tup []) [some (Obj.arr (6 : Nat) (List.map Ep.row l2))],
      LoopC Try.prog (1 : Nat) (63 : Nat) soBB { env := [((0 : Nat), V.own (0 : Nat)), ((1 : Nat), I (Int.ofNat n)), ((2 : Nat), V.clo (Fn.func (30 : Nat)) [] []), ((6 : Nat), I (20 : Int))], st := [((0 : Nat), Obj.arr (6 : Nat) (List.map Ep.row l2))], ids := [(0 : Nat), (0 : Nat)] } (Ex.exit (2 : Nat)) { env := [((0 : Nat), V.own (0 : Nat)), ((1 : Nat), I (Int.ofNat n)), ((2 : Nat), V.clo (Fn.func (30 : Nat)) [] []), ((6 : Nat), I (Int.ofNat bs))], st := [((0 : Nat), Obj.arr (6 : Nat) (List.map Ep.row l3))], ids := [(0 : Nat), (0 : Nat)] }] (by kernel_rfl)
    (by
      simp only [allP]
      and_intros <;> first
        | omega
        | exact hl
        | exact hk)

theorem soStb (l l' l2 l3 : List Ep)  (n a b bs : Nat) (hl : LoopC Try.prog 1 63 soAB (soA (l)  n 20 0 20) (.exit 0) (soA (l')  n 20 a b)) (hc : Contract Try.prog 41 [.own 0, I ((a : Nat) : Int), I ((n : Nat) : Int), .clo (.func 30) [] []] [.arr 6 ((l').map Ep.row)] (.tup []) [some (.arr 6 ((l2).map Ep.row))]) (hk : LoopC Try.prog 1 63 soBB (soB (l2)  n 20) (.exit 2) (soB (l3)  n bs)) : Contract Try.prog 36 [.own 0, I (n : Int), .clo (.func 30) [] []] [.arr 6 ((l).map Ep.row)] (.tup []) [some (.arr 6 ((l3).map Ep.row))] := by
  exact Contract.cast (by
    first
      | rfl) (by
    first
      | rfl) (soStb_0 l l' l2 l3 n a b bs hl hc hk )

theorem soSor_0 (l l' : List Ep)  (hc : Contract Try.prog 36 [.own 0, I (l.length : Int), .clo (.func 30) [] []] [.arr 6 ((l).map Ep.row)] (.tup []) [some (.arr 6 ((l').map Ep.row))]) : Contract Try.prog 29 [.own 0, .clo (.func 30) [] []] [.arr 6 ((l).map Ep.row)] (V.tup []) ([some (Obj.arr (6 : Nat) (List.map Ep.row l'))]) :=
  vcP hmix [.reg 0 [(2, [.be (I ((l.length : Nat) : Int))], none), (4, [.call [0] [] (.tup []) [some (.arr 6 ((l').map Ep.row))]], none)]] [] [
      Int.ofNat (List.length (List.map Ep.row l)) = Int.ofNat (List.length l),
      Contract Try.prog (36 : Nat) [V.own (0 : Nat), I (Int.ofNat (List.length l)), V.clo (Fn.func (30 : Nat)) [] []] [Obj.arr (6 : Nat) (List.map Ep.row l)] (V.tup []) [some (Obj.arr (6 : Nat) (List.map Ep.row l'))]] (by kernel_rfl)
    (by
      simp only [allP]
      and_intros <;> first
        | omega
        | (simp; done))

theorem soSor (l l' : List Ep)  (hc : Contract Try.prog 36 [.own 0, I (l.length : Int), .clo (.func 30) [] []] [.arr 6 ((l).map Ep.row)] (.tup []) [some (.arr 6 ((l').map Ep.row))]) : Contract Try.prog 29 [.own 0, .clo (.func 30) [] []] [.arr 6 ((l).map Ep.row)] (.tup []) [some (.arr 6 ((l').map Ep.row))] := by
  exact Contract.cast (by
    first
      | rfl) (by
    first
      | rfl) (soSor_0 l l' hc )

end Go.Proofs.Ytfpdlamjlbpmkaa

/- sorting gleaning/api.Episode: the whole. -/
namespace Go.Proofs.Ytfpdlamjlbpmkaa
open E
set_option maxRecDepth 100000
set_option linter.unusedVariables false
set_option linter.unusedSimpArgs false

theorem soAin  (ho : Swo (soLt )) (n : Nat) (hn : n ≤ 500000) : ∀ (d : Nat) (P T : List Ep), T.length ≤ d → n = P.length + T.length →
    ∃ R1 T1, T1.length < 20 ∧ R1.length + T1.length = T.length ∧ Chk (soLt ) 20 T (R1 ++ srt (soLt ) T1) ∧ LoopC Try.prog 1 63 soAB (soA (P ++ T)  n 20 P.length (P.length + 20)) (.exit 0) (soA (P ++ R1 ++ T1)  n 20 (P.length + R1.length) (P.length + R1.length + 20)) := by
  intro d
  induction d with
  | zero =>
    intro P T hd hT
    have : T = [] := List.eq_nil_of_length_eq_zero (by omega)
    subst this
    refine ⟨[], [], by simp, rfl, Chk.last [] (by simp), ?_⟩
    simp only [List.append_nil, List.length_nil, Nat.add_zero] at hT ⊢
    exact LoopC.last (soAz _  n 20 _ _ (by omega)) (by simp)
  | succ d ih =>
    intro P T hd hT
    by_cases h : T.length < 20
    · refine ⟨[], T, h, by simp, Chk.last T h, ?_⟩
      simp only [List.append_nil, List.length_nil, Nat.add_zero]
      exact LoopC.last (soAz _  n 20 _ _ (by omega)) (by simp)
    · obtain ⟨c, T', rfl, lc⟩ : ∃ c T', T = c ++ T' ∧ c.length = 20 := ⟨T.take 20, T.drop 20, (List.take_append_drop _ _).symm, by rw [List.length_take]; omega⟩
      simp only [List.length_append] at hd hT h
      obtain ⟨R1, T1, q1, q0, q2, q3⟩ := ih (P ++ srt (soLt ) c) T' (by omega) (by simp [srt_len]; omega)
      have hi := soIns  ho P c T' P.length (P.length + 20) rfl (by omega) (by omega)
      have hr := soAgo (P ++ c ++ T') (P ++ srt (soLt ) c ++ T')  n 20 P.length (P.length + 20) hn (by omega) (by omega) hi
      refine ⟨srt (soLt ) c ++ R1, T1, q1, by simp [srt_len]; omega, ?_, ?_⟩
      · have := Chk.cons c T' _ lc q2
        simp only [List.append_assoc, List.cons_append, List.nil_append] at this ⊢
        exact this
      · simp only [List.length_append, srt_len, lc] at q3 ⊢
        simp only [List.append_assoc, List.cons_append, List.nil_append, Nat.add_assoc] at hr q3 ⊢
        exact LoopC.next hr q3
theorem soCin  (ho : Swo (soLt )) (n bs : Nat) (hn : n ≤ 500000) (h0 : 0 < bs) (hbs : bs < n) : ∀ (d : Nat) (P T0 T : List Ep), T0.length ≤ d → Chk (soLt ) bs T0 T → n = P.length + T0.length →
    ∃ R1 U0 U, U0.length < 2 * bs ∧ R1.length + U0.length = T0.length ∧ Chk (soLt ) bs U0 U ∧ Chk (soLt ) (2 * bs) T0 (R1 ++ srt (soLt ) U0) ∧ LoopC Try.prog 1 63 soCB (soC (P ++ T)  n bs P.length (P.length + 2 * bs)) (.exit 4) (soC (P ++ R1 ++ U)  n bs (P.length + R1.length) (P.length + R1.length + 2 * bs)) := by
  intro d
  induction d with
  | zero =>
    intro P T0 T hd hc hT
    refine ⟨[], T0, T, by omega, by simp, hc, Chk.last T0 (by omega), ?_⟩
    simp only [List.append_nil, List.length_nil, Nat.add_zero] at hT ⊢
    exact LoopC.last (soCz _  n bs _ _ (by omega)) (by simp)
  | succ d ih =>
    intro P T0 T hd hc hT
    by_cases h : T0.length < 2 * bs
    · refine ⟨[], T0, T, h, by simp, hc, Chk.last T0 h, ?_⟩
      simp only [List.append_nil, List.length_nil, Nat.add_zero]
      exact LoopC.last (soCz _  n bs _ _ (by omega)) (by simp)
    · obtain ⟨c1, l1, r1, rfl, rfl, lc1, hc1⟩ := hc.two (by omega)
      simp only [List.length_append] at hd hT h
      obtain ⟨c2, l2, r2, hc2⟩ : ∃ c2 l2 r2, l1 = c2 ++ l2 ∧ r1 = srt (soLt ) c2 ++ r2 ∧ c2.length = bs ∧ Chk (soLt ) bs l2 r2 := by
        by_cases h' : l1.length = bs
        · have := hc1.done (by omega)
          exact ⟨l1, [], [], by simp, by simp [this], h', Chk.last [] h0⟩
        · exact hc1.two (by omega)
      obtain ⟨rfl, rfl, lc2, hc3⟩ := hc2
      simp only [List.length_append] at hd hT h
      have hr2 := hc3.len
      obtain ⟨R1, U0, U, q1, q0, q2, q3, q4⟩ := ih (P ++ srt (soLt ) (c1 ++ c2)) l2 r2 (by omega) hc3 (by simp [srt_len]; omega)
      have hi := soSym  ho _ P (srt (soLt ) c1) (srt (soLt ) c2) r2 P.length (P.length + bs) (P.length + 2 * bs) (Nat.le_refl _) (by rw [srt_len]; omega) (by rw [srt_len]; omega) (srt_srt ho _) (srt_srt ho _) rfl (by rw [srt_len]; omega) (by rw [srt_len, srt_len]; omega) (by rw [srt_len, srt_len]; omega)
      rw [← srt_append ho] at hi
      have hr := soCgo _ _  n bs P.length (P.length + 2 * bs) hn (by omega) (by omega) (by omega) hi
      refine ⟨srt (soLt ) (c1 ++ c2) ++ R1, U0, U, q1, by simp [srt_len]; omega, q2, ?_, ?_⟩
      · have := Chk.cons (c1 ++ c2) l2 _ (by simp; omega) q3
        simp only [List.append_assoc, List.cons_append, List.nil_append] at this ⊢
        exact this
      · have e : (P ++ srt (soLt ) (c1 ++ c2)).length = P.length + 2 * bs := by simp [srt_len]; omega
        have e2 : (srt (soLt ) (c1 ++ c2) ++ R1).length = 2 * bs + R1.length := by simp [srt_len]; omega
        rw [e] at q4
        rw [e2]
        simp only [List.append_assoc, List.cons_append, List.nil_append, Nat.add_assoc] at hr q4 ⊢
        exact LoopC.next hr q4
theorem soBin  (ho : Swo (soLt )) (l0 : List Ep) (n : Nat) (hn : n ≤ 500000) (h : n = l0.length) : ∀ (d bs : Nat) (l : List Ep), n - bs ≤ d → 0 < bs → Chk (soLt ) bs l0 l →
    ∃ bs', LoopC Try.prog 1 63 soBB (soB l  n bs) (.exit 2) (soB (srt (soLt ) l0)  n bs') := by
  intro d
  induction d with
  | zero =>
    intro bs l hd h0 hc
    rw [hc.done (by omega)]
    exact ⟨bs, LoopC.last (soBz _  n bs (by omega)) (by simp)⟩
  | succ d ih =>
    intro bs l hd h0 hc
    by_cases hb : n ≤ bs
    · rw [hc.done (by omega)]
      exact ⟨bs, LoopC.last (soBz _  n bs hb) (by simp)⟩
    · obtain ⟨R1, U0, U, q1, q0, q2, q3, q4⟩ := soCin  ho n bs hn h0 (by omega) l0.length [] l0 l (Nat.le_refl _) hc (by simpa using h)
      simp only [List.nil_append, List.length_nil, Nat.zero_add] at q4
      obtain ⟨bs', hk⟩ := ih (2 * bs) _ (by omega) (by omega) q3
      refine ⟨bs', ?_⟩
      by_cases hm : R1.length + bs < n
      · obtain ⟨c, l', r', rfl, rfl, lc, hc'⟩ := q2.two (by omega)
        simp only [List.length_append] at q1 q0
        have hr' := hc'.done (by omega)
        subst hr'
        have hi := soSym  ho _ R1 (srt (soLt ) c) (srt (soLt ) l') [] R1.length (R1.length + bs) n (Nat.le_refl _) (by rw [srt_len]; omega) (by rw [srt_len]; omega) (srt_srt ho _) (srt_srt ho _) rfl (by rw [srt_len]; omega) (by rw [srt_len, srt_len]; omega) (by rw [srt_len, srt_len, List.length_nil]; omega)
        rw [← srt_append ho] at hi
        simp only [List.append_nil, List.append_assoc] at hi
        exact LoopC.next (soBgo l _ _  n bs R1.length (R1.length + 2 * bs) hn (by omega) (by omega) hm q4 hi) hk
      · have hU := q2.done (by omega)
        subst hU
        exact LoopC.next (soBno l _  n bs R1.length (R1.length + 2 * bs) hn (by omega) (by omega) (by omega) q4) hk
/-- Sorting puts in order what is handed in. -/
theorem soSort  (ho : Swo (soLt )) (l : List Ep) (hs : l.length ≤ 500000) :
    Contract Try.prog 29 [.own 0, .clo (.func 30) [] []] [.arr 6 ((l).map Ep.row)] (.tup []) [some (.arr 6 ((srt (soLt ) l).map Ep.row))] := by
  obtain ⟨R1, T1, q1, q0, q2, q3⟩ := soAin  ho l.length hs l.length [] l (Nat.le_refl _) (by simp)
  simp only [List.nil_append, List.length_nil, Nat.zero_add] at q3
  obtain ⟨bs, hk⟩ := soBin  ho l l.length hs rfl l.length 20 _ (by omega) (by omega) q2
  have hi := soIns  ho R1 T1 [] R1.length l.length rfl (by omega) (by rw [List.length_nil]; omega)
  simp only [List.append_nil] at hi
  exact soSor l _  (soStb l _ _ _  l.length R1.length (R1.length + 20) bs q3 hi hk)
end Go.Proofs.Ytfpdlamjlbpmkaa

/- merge: which two blocks. -/
namespace Go.Proofs.Ytfpdlamjlbpmkaa
open E
set_option maxRecDepth 100000
set_option linter.unusedVariables false
set_option linter.unusedSimpArgs false


/-- A block. -/
structure Bk where
  num : Int
  born : Int
  tier : Int
  eps : List Ep
def Bk.row (b : Bk) : List V := [I b.num, I b.born, I b.tier, .sl 6 (b.eps.map Ep.row)]
def Bk.v (b : Bk) : V := .agg b.row
def pT (b y : Bk) : Bool := y.tier == b.tier
def pkS (l : List Bk) (f : Bool) (a b i : Nat) : SL := ⟨[(0, .sl 4 (l.map Bk.row)), (5, Bo f), (6, I (a : Int)), (7, I (b : Int)), (11, .sl 4 (l.map Bk.row)), (12, I (l.length : Int)), (13, I (i : Int))], [], []⟩
noncomputable def pkB : Code := codeAt Try.prog 9 [true, true, false, true, false, false]

theorem cPk1_0 (b x : Bk)  : Contract Try.prog 19 [x.v, .ptr 0 0 0 0] [.box b.row] (Bo (Bk.tier x == Bk.tier b)) ([some (Obj.box [I (Bk.num b), I (Bk.born b), I (Bk.tier b), V.sl (6 : Nat) (List.map Ep.row (Bk.eps b))])]) :=
  vcP hmix [] [] [
      ] (by kernel_rfl)
    trivial

theorem cPk1 (b x : Bk)  : Contract Try.prog 19 [x.v, .ptr 0 0 0 0] [.box b.row] (Bo (pT b x)) [some (.box b.row)] := by
  exact Contract.cast (by
    first
      | rfl) (by
    first
      | rfl) (cPk1_0 b x  )

def ixBS (l : List Bk) (b : Bk) (i : Nat) (r : Int) : SL := ⟨[(0, .sl 4 (l.map Bk.row)), (1, .clo (.func 19) [] [.ptr 0 0 0 0]), (4, I r), (7, I (l.length : Int)), (8, I (i : Int))], [(0, .box b.row)], [0, 0]⟩
noncomputable def ixBB : Code := codeAt Try.prog 18 [true, false, true, false, false]

theorem ixBNo (l : List Bk) (b : Bk) (x : Bk) (i : Nat) (h : i < l.length) (hx : l[i]? = some x) (hs : l.length ≤ 1000000000000000) (hp : (pT b) x = false) : CodeC Try.prog 1 19 ixBB (ixBS l b i 0) .normal (ixBS l b (i + 1) 0) :=
  runP hmix [.reg 2 [(0, [], some true)], .reg 4 [(4, [.row (Bk.row x)], none), (5, [.call [0] [] (Bo ((pT b) x)) [some (.box b.row)]], some false)], .reg 6 [(0, [.be (I ((i + 1 : Nat) : Int))], none)]] ⟨[0, 1, 4, 7, 8], [(0, 0)], []⟩ [
      decide (Int.ofNat i < Int.ofNat (List.length l)) = true,
      (0 : Int) ≤ Int.ofNat i,
      Int.ofNat i < Int.ofNat (List.length (List.map Bk.row l)),
      (List.map Bk.row l)[i]? = some (Bk.row x),
      Contract Try.prog (19 : Nat) [V.agg [I (Bk.num x), I (Bk.born x), I (Bk.tier x), V.sl (6 : Nat) (List.map Ep.row (Bk.eps x))], V.ptr (0 : Nat) (0 : Nat) (0 : Nat) (0 : Nat)] [Obj.box [I (Bk.num b), I (Bk.born b), I (Bk.tier b), V.sl (6 : Nat) (List.map Ep.row (Bk.eps b))]] (Bo (pT b x)) [some (Obj.box (Bk.row b))],
      pT b x = false,
      IntKind.wrap IntKind.i64 (Int.ofNat (i + (1 : Nat))) = Int.ofNat (i + (1 : Nat))] (by kernel_rfl)
    (by
      simp only [allP]
      and_intros <;> first
        | omega
        | exact cPk1 b x
        | (simp; omega)
        | (simp [hx]; done)
        | exact i64_small (by simp; omega))

theorem ixBYes (l : List Bk) (b : Bk) (x : Bk) (i : Nat) (h : i < l.length) (hx : l[i]? = some x) (hs : l.length ≤ 1000000000000000) (hp : (pT b) x = true) : CodeC Try.prog 1 19 ixBB (ixBS l b i 0) .ret (ixBS l b i (i : Int)) :=
  runP hmix [.reg 2 [(0, [], some true)], .reg 4 [(4, [.row (Bk.row x)], none), (5, [.call [0] [] (Bo ((pT b) x)) [some (.box b.row)]], some true)]] ⟨[0, 1, 4, 7, 8], [(0, 0)], []⟩ [
      decide (Int.ofNat i < Int.ofNat (List.length l)) = true,
      (0 : Int) ≤ Int.ofNat i,
      Int.ofNat i < Int.ofNat (List.length (List.map Bk.row l)),
      (List.map Bk.row l)[i]? = some (Bk.row x),
      Contract Try.prog (19 : Nat) [V.agg [I (Bk.num x), I (Bk.born x), I (Bk.tier x), V.sl (6 : Nat) (List.map Ep.row (Bk.eps x))], V.ptr (0 : Nat) (0 : Nat) (0 : Nat) (0 : Nat)] [Obj.box [I (Bk.num b), I (Bk.born b), I (Bk.tier b), V.sl (6 : Nat) (List.map Ep.row (Bk.eps b))]] (Bo (pT b x)) [some (Obj.box (Bk.row b))],
      pT b x = true] (by kernel_rfl)
    (by
      simp only [allP]
      and_intros <;> first
        | omega
        | exact cPk1 b x
        | (simp; omega)
        | (simp [hx]; done))

theorem ixBEnd (l : List Bk) (b : Bk) (i : Nat) (h : l.length ≤ i) : CodeC Try.prog 1 19 ixBB (ixBS l b i 0) (.exit 0) (ixBS l b i 0) :=
  runP hmix [.reg 2 [(0, [], some false)]] ⟨[0, 1, 4, 7, 8], [(0, 0)], []⟩ [
      decide (Int.ofNat i < Int.ofNat (List.length l)) = false] (by kernel_rfl)
    (by
      simp only [allP]
      and_intros <;> first
        | (simp; omega))

theorem ixBLoop (l : List Bk) (b : Bk) (hs : l.length ≤ 1000000000000000) : ∀ (n i : Nat), i + n = l.length →
    match (l.drop i).findIdx? (pT b) with
    | some j => LoopC Try.prog 1 19 ixBB (ixBS l b i 0) .ret (ixBS l b (i + j) ((i + j : Nat) : Int))
    | none => LoopC Try.prog 1 19 ixBB (ixBS l b i 0) (.exit 0) (ixBS l b l.length 0)
  | 0, i, hi => by
    rw [List.drop_of_length_le (by omega)]
    have : i = l.length := by omega
    subst this
    exact LoopC.last (ixBEnd l b _ (by omega)) (by simp)
  | n + 1, i, hi => by
    have hlt : i < l.length := by omega
    have hx : l[i]? = some l[i] := by simp [hlt]
    have ih := ixBLoop l b hs n (i + 1) (by omega)
    rw [List.drop_eq_getElem_cons hlt, List.findIdx?_cons]
    cases hp : (pT b) l[i] with
    | true =>
      simp only [if_true, Nat.add_zero]
      exact LoopC.last (ixBYes l b l[i] i hlt hx hs hp) (by simp)
    | false =>
      have r := ixBNo l b l[i] i hlt hx hs hp
      simp only [Bool.false_eq_true, if_false]
      cases hf : (l.drop (i + 1)).findIdx? (pT b) with
      | none => rw [hf] at ih; exact LoopC.next r ih
      | some j =>
        rw [hf] at ih
        simp only [Option.map_some]
        rw [show i + (j + 1) = i + 1 + j by omega]
        exact LoopC.next r ih

theorem ixBSome (l : List Bk) (b : Bk) (j : Nat) (hs : l.length ≤ 1000000000000000) (h : l.findIdx? (pT b) = some j) : Contract Try.prog 18 [.sl 4 (l.map Bk.row), .clo (.func 19) [] [.ptr 0 0 0 0]] [.box b.row] (I (j : Int)) [some (.box b.row)] :=
  have hl := ixBLoop l b hs l.length 0 (by omega)
  have hl : LoopC Try.prog 1 19 ixBB (ixBS l b 0 0) .ret (ixBS l b j ((j : Nat) : Int)) := by rw [List.drop_zero, h] at hl; simpa using hl
  vcP hmix [.reg 1 [(1, [.be (I (l.length : Int))], none)], .cut ⟨[0, 1, 4, 7, 8], [(0, 0)], []⟩ .ret (ixBS l b j (j : Int))] [] [(((l.map Bk.row).length : Nat) : Int) = (l.length : Int), LoopC Try.prog 1 19 ixBB (ixBS l b 0 0) .ret (ixBS l b j ((j : Nat) : Int))] (by kernel_rfl) ⟨by simp, hl⟩

theorem ixBNone (l : List Bk) (b : Bk) (hs : l.length ≤ 1000000000000000) (h : l.findIdx? (pT b) = none) : Contract Try.prog 18 [.sl 4 (l.map Bk.row), .clo (.func 19) [] [.ptr 0 0 0 0]] [.box b.row] (I (-1)) [some (.box b.row)] :=
  have hl := ixBLoop l b hs l.length 0 (by omega)
  have hl : LoopC Try.prog 1 19 ixBB (ixBS l b 0 0) (.exit 0) (ixBS l b l.length 0) := by rw [List.drop_zero, h] at hl; exact hl
  vcP hmix [.reg 1 [(1, [.be (I (l.length : Int))], none)], .cut ⟨[0, 1, 4, 7, 8], [(0, 0)], []⟩ (.exit 0) (ixBS l b l.length 0)] [] [(((l.map Bk.row).length : Nat) : Int) = (l.length : Int), LoopC Try.prog 1 19 ixBB (ixBS l b 0 0) (.exit 0) (ixBS l b l.length 0)] (by kernel_rfl) ⟨by simp, hl⟩

theorem ixB (l : List Bk) (b : Bk) (hs : l.length ≤ 1000000000000000) : Contract Try.prog 18 [.sl 4 (l.map Bk.row), .clo (.func 19) [] [.ptr 0 0 0 0]] [.box b.row] (I (idxI (pT b) l)) [some (.box b.row)] := by
  unfold idxI
  cases h : l.findIdx? (pT b) with
  | none => exact ixBNone l b hs h
  | some j => exact ixBSome l b j hs h

end Go.Proofs.Ytfpdlamjlbpmkaa

/- merge: which two blocks, the walk. -/
namespace Go.Proofs.Ytfpdlamjlbpmkaa
open E
set_option maxRecDepth 100000
set_option linter.unusedVariables false
set_option linter.unusedSimpArgs false

theorem idxI_lt {α : Type} {p : α → Bool} {l : List α} {j : Nat} (h : idxI p l = (j : Int)) : j < l.length := by
  unfold idxI at h
  split at h
  · rename_i k hk
    have : k = j := by omega
    subst this
    exact (List.findIdx?_eq_some_iff_getElem.1 hk).1
  · omega
theorem pkNo_0 (l : List Bk) (x y : Bk) (f : Bool) (a b i j : Nat) (hx : l[i]? = some x) (hs : l.length ≤ 1000000) (hk : idxI (pT x) (l.drop (i + 1)) = -1) : CodeC Try.prog 0 49 pkB (pkS l f a b i) (Ex.normal) ({ env := [((0 : Nat), V.sl (4 : Nat) (List.map Bk.row l)), ((5 : Nat), Bo f), ((6 : Nat), I (Int.ofNat a)), ((7 : Nat), I (Int.ofNat b)), ((11 : Nat), V.sl (4 : Nat) (List.map Bk.row l)), ((12 : Nat), I (Int.ofNat (List.length l))), ((13 : Nat), I (Int.ofNat (i + (1 : Nat))))], st := [], ids := [] }) :=
  runP hmix [.reg 3 [(0, [], some true)], .reg 4 [(2, [.row (Bk.row x)], none)], .reg 5 [(2, [.be (I ((i + 1 : Nat) : Int))], none), (5, [.call [804000] [] (I (-1)) [some (.box x.row)]], none)], .reg 6 [(1, [], some false)], .reg 8 [(0, [.be (I ((i + 1 : Nat) : Int))], none)]] ⟨[0, 5, 6, 7, 11, 12, 13], [], []⟩ [
      decide (Int.ofNat i < Int.ofNat (List.length l)) = true,
      (0 : Int) ≤ Int.ofNat i,
      Int.ofNat i < Int.ofNat (List.length (List.map Bk.row l)),
      (List.map Bk.row l)[i]? = some (Bk.row x),
      IntKind.wrap IntKind.i64 (Int.ofNat (i + (1 : Nat))) = Int.ofNat (i + (1 : Nat)),
      (0 : Int) ≤ Int.ofNat (i + (1 : Nat)),
      Int.ofNat (i + (1 : Nat)) ≤ Int.ofNat (List.length (List.map Bk.row l)),
      Int.ofNat (List.length (List.map Bk.row l)) ≤ Int.ofNat (List.length (List.map Bk.row l)),
      Contract Try.prog (18 : Nat) [V.sl (4 : Nat) (List.drop (Int.toNat (Int.ofNat (i + (1 : Nat)))) (List.take (List.length (List.map Bk.row l)) (List.map Bk.row l))), V.clo (Fn.func (19 : Nat)) [] [V.ptr (0 : Nat) (0 : Nat) (0 : Nat) (0 : Nat)]] [Obj.box [I (Bk.num x), I (Bk.born x), I (Bk.tier x), V.sl (6 : Nat) (List.map Ep.row (Bk.eps x))]] (I (-1 : Int)) [some (Obj.box (Bk.row x))],
      false = false,
      IntKind.wrap IntKind.i64 (Int.ofNat (i + (1 : Nat))) = Int.ofNat (i + (1 : Nat))] (by kernel_rfl)
    (by
      simp only [allP]
      and_intros <;> first
        | omega
        | (have q := (List.getElem?_eq_some_iff.1 hx).1; simp; omega)
        | (simp [hx]; done)
        | (have q := (List.getElem?_eq_some_iff.1 hx).1; exact i64_small (by simp; omega))
        | (have q := ixB (l.drop (i + 1)) x (by simp; omega); rw [hk, List.map_drop] at q; rw [List.take_length]; exact q))

theorem pkNo (l : List Bk) (x y : Bk) (f : Bool) (a b i j : Nat) (hx : l[i]? = some x) (hs : l.length ≤ 1000000) (hk : idxI (pT x) (l.drop (i + 1)) = -1)  : CodeC Try.prog 0 49 pkB (pkS l f a b i) .normal (pkS l f a b (i + 1)) := by
  exact CodeC.cast (by
    first
      | rfl) (pkNo_0 l x y f a b i j hx hs hk )

theorem pkFst_0 (l : List Bk) (x y : Bk) (f : Bool) (a b i j : Nat) (hx : l[i]? = some x) (hf : f = false) (hs : l.length ≤ 1000000) (hk : idxI (pT x) (l.drop (i + 1)) = (j : Int)) : CodeC Try.prog 0 49 pkB (pkS l f a b i) (Ex.normal) ({ env := [((0 : Nat), V.sl (4 : Nat) (List.map Bk.row l)), ((5 : Nat), Bo true), ((6 : Nat), I (Int.ofNat i)), ((7 : Nat), I (Int.ofNat (i + (1 : Nat) + j))), ((11 : Nat), V.sl (4 : Nat) (List.map Bk.row l)), ((12 : Nat), I (Int.ofNat (List.length l))), ((13 : Nat), I (Int.ofNat (i + (1 : Nat))))], st := [], ids := [] }) :=
  runP hmix [.reg 3 [(0, [], some true)], .reg 4 [(2, [.row (Bk.row x)], none)], .reg 5 [(2, [.be (I ((i + 1 : Nat) : Int))], none), (5, [.call [804000] [] (I (j : Int)) [some (.box x.row)]], none)], .reg 6 [(1, [], some true), (4, [], some true)], .reg 7 [(2, [.be (I ((i + 1 : Nat) : Int))], none), (4, [.be (I ((i + 1 + j : Nat) : Int))], none)], .reg 8 [(0, [.be (I ((i + 1 : Nat) : Int))], none)]] ⟨[0, 5, 6, 7, 11, 12, 13], [], []⟩ [
      decide (Int.ofNat i < Int.ofNat (List.length l)) = true,
      (0 : Int) ≤ Int.ofNat i,
      Int.ofNat i < Int.ofNat (List.length (List.map Bk.row l)),
      (List.map Bk.row l)[i]? = some (Bk.row x),
      IntKind.wrap IntKind.i64 (Int.ofNat (i + (1 : Nat))) = Int.ofNat (i + (1 : Nat)),
      (0 : Int) ≤ Int.ofNat (i + (1 : Nat)),
      Int.ofNat (i + (1 : Nat)) ≤ Int.ofNat (List.length (List.map Bk.row l)),
      Int.ofNat (List.length (List.map Bk.row l)) ≤ Int.ofNat (List.length (List.map Bk.row l)),
      Contract Try.prog (18 : Nat) [V.sl (4 : Nat) (List.drop (Int.toNat (Int.ofNat (i + (1 : Nat)))) (List.take (List.length (List.map Bk.row l)) (List.map Bk.row l))), V.clo (Fn.func (19 : Nat)) [] [V.ptr (0 : Nat) (0 : Nat) (0 : Nat) (0 : Nat)]] [Obj.box [I (Bk.num x), I (Bk.born x), I (Bk.tier x), V.sl (6 : Nat) (List.map Ep.row (Bk.eps x))]] (I (Int.ofNat j)) [some (Obj.box (Bk.row x))],
      true = true,
      (!f) = true,
      IntKind.wrap IntKind.i64 (Int.ofNat (i + (1 : Nat))) = Int.ofNat (i + (1 : Nat)),
      IntKind.wrap IntKind.i64 (Int.ofNat (i + (1 : Nat) + j)) = Int.ofNat (i + (1 : Nat) + j),
      IntKind.wrap IntKind.i64 (Int.ofNat (i + (1 : Nat))) = Int.ofNat (i + (1 : Nat))] (by kernel_rfl)
    (by
      simp only [allP]
      and_intros <;> first
        | omega
        | (have q := (List.getElem?_eq_some_iff.1 hx).1; simp; omega)
        | (simp [hx]; done)
        | (have q := (List.getElem?_eq_some_iff.1 hx).1; exact i64_small (by simp; omega))
        | (have q := ixB (l.drop (i + 1)) x (by simp; omega); rw [hk, List.map_drop] at q; rw [List.take_length]; exact q)
        | (have q := (List.getElem?_eq_some_iff.1 hx).1; have q2 := idxI_lt hk; simp at q2; exact i64_small (by simp; omega)))

theorem pkFst (l : List Bk) (x y : Bk) (f : Bool) (a b i j : Nat) (hx : l[i]? = some x) (hf : f = false) (hs : l.length ≤ 1000000) (hk : idxI (pT x) (l.drop (i + 1)) = (j : Int))  : CodeC Try.prog 0 49 pkB (pkS l f a b i) .normal (pkS l true i (i + 1 + j) (i + 1)) := by
  exact CodeC.cast (by
    first
      | rfl) (pkFst_0 l x y f a b i j hx hf hs hk )

theorem pkLess_0 (l : List Bk) (x y : Bk) (f : Bool) (a b i j : Nat) (hx : l[i]? = some x) (hf : f = true) (hy : l[a]? = some y) (hb : x.tier < y.tier) (hs : l.length ≤ 1000000) (hk : idxI (pT x) (l.drop (i + 1)) = (j : Int)) : CodeC Try.prog 0 49 pkB (pkS l f a b i) (Ex.normal) ({ env := [((0 : Nat), V.sl (4 : Nat) (List.map Bk.row l)), ((5 : Nat), Bo true), ((6 : Nat), I (Int.ofNat i)), ((7 : Nat), I (Int.ofNat (i + (1 : Nat) + j))), ((11 : Nat), V.sl (4 : Nat) (List.map Bk.row l)), ((12 : Nat), I (Int.ofNat (List.length l))), ((13 : Nat), I (Int.ofNat (i + (1 : Nat))))], st := [], ids := [] }) :=
  runP hmix [.reg 3 [(0, [], some true)], .reg 4 [(2, [.row (Bk.row x)], none)], .reg 5 [(2, [.be (I ((i + 1 : Nat) : Int))], none), (5, [.call [804000] [] (I (j : Int)) [some (.box x.row)]], none)], .reg 6 [(1, [], some true), (4, [], some false), (12, [.row (Bk.row y)], none), (13, [], some true)], .reg 7 [(2, [.be (I ((i + 1 : Nat) : Int))], none), (4, [.be (I ((i + 1 + j : Nat) : Int))], none)], .reg 8 [(0, [.be (I ((i + 1 : Nat) : Int))], none)]] ⟨[0, 5, 6, 7, 11, 12, 13], [], []⟩ [
      decide (Int.ofNat i < Int.ofNat (List.length l)) = true,
      (0 : Int) ≤ Int.ofNat i,
      Int.ofNat i < Int.ofNat (List.length (List.map Bk.row l)),
      (List.map Bk.row l)[i]? = some (Bk.row x),
      IntKind.wrap IntKind.i64 (Int.ofNat (i + (1 : Nat))) = Int.ofNat (i + (1 : Nat)),
      (0 : Int) ≤ Int.ofNat (i + (1 : Nat)),
      Int.ofNat (i + (1 : Nat)) ≤ Int.ofNat (List.length (List.map Bk.row l)),
      Int.ofNat (List.length (List.map Bk.row l)) ≤ Int.ofNat (List.length (List.map Bk.row l)),
      Contract Try.prog (18 : Nat) [V.sl (4 : Nat) (List.drop (Int.toNat (Int.ofNat (i + (1 : Nat)))) (List.take (List.length (List.map Bk.row l)) (List.map Bk.row l))), V.clo (Fn.func (19 : Nat)) [] [V.ptr (0 : Nat) (0 : Nat) (0 : Nat) (0 : Nat)]] [Obj.box [I (Bk.num x), I (Bk.born x), I (Bk.tier x), V.sl (6 : Nat) (List.map Ep.row (Bk.eps x))]] (I (Int.ofNat j)) [some (Obj.box (Bk.row x))],
      true = true,
      (!f) = false,
      (0 : Int) ≤ Int.ofNat a,
      Int.ofNat a < Int.ofNat (List.length (List.map Bk.row l)),
      (List.map Bk.row l)[a]? = some (Bk.row y),
      decide (Bk.tier x < Bk.tier y) = true,
      IntKind.wrap IntKind.i64 (Int.ofNat (i + (1 : Nat))) = Int.ofNat (i + (1 : Nat)),
      IntKind.wrap IntKind.i64 (Int.ofNat (i + (1 : Nat) + j)) = Int.ofNat (i + (1 : Nat) + j),
      IntKind.wrap IntKind.i64 (Int.ofNat (i + (1 : Nat))) = Int.ofNat (i + (1 : Nat))] (by kernel_rfl)
    (by
      simp only [allP]
      and_intros <;> first
        | omega
        | (have q := (List.getElem?_eq_some_iff.1 hx).1; simp; omega)
        | (simp [hx]; done)
        | (have q := (List.getElem?_eq_some_iff.1 hx).1; exact i64_small (by simp; omega))
        | (have q := ixB (l.drop (i + 1)) x (by simp; omega); rw [hk, List.map_drop] at q; rw [List.take_length]; exact q)
        | (simp [hy]; done)
        | (have q := (List.getElem?_eq_some_iff.1 hy).1; simp; omega)
        | (have q := (List.getElem?_eq_some_iff.1 hx).1; have q2 := idxI_lt hk; simp at q2; exact i64_small (by simp; omega)))

theorem pkLess (l : List Bk) (x y : Bk) (f : Bool) (a b i j : Nat) (hx : l[i]? = some x) (hf : f = true) (hy : l[a]? = some y) (hb : x.tier < y.tier) (hs : l.length ≤ 1000000) (hk : idxI (pT x) (l.drop (i + 1)) = (j : Int))  : CodeC Try.prog 0 49 pkB (pkS l f a b i) .normal (pkS l true i (i + 1 + j) (i + 1)) := by
  exact CodeC.cast (by
    first
      | rfl) (pkLess_0 l x y f a b i j hx hf hy hb hs hk )

theorem pkGe_0 (l : List Bk) (x y : Bk) (f : Bool) (a b i j : Nat) (hx : l[i]? = some x) (hf : f = true) (hy : l[a]? = some y) (hb : y.tier ≤ x.tier) (hs : l.length ≤ 1000000) (hk : idxI (pT x) (l.drop (i + 1)) = (j : Int)) : CodeC Try.prog 0 49 pkB (pkS l f a b i) (Ex.normal) ({ env := [((0 : Nat), V.sl (4 : Nat) (List.map Bk.row l)), ((5 : Nat), Bo f), ((6 : Nat), I (Int.ofNat a)), ((7 : Nat), I (Int.ofNat b)), ((11 : Nat), V.sl (4 : Nat) (List.map Bk.row l)), ((12 : Nat), I (Int.ofNat (List.length l))), ((13 : Nat), I (Int.ofNat (i + (1 : Nat))))], st := [], ids := [] }) :=
  runP hmix [.reg 3 [(0, [], some true)], .reg 4 [(2, [.row (Bk.row x)], none)], .reg 5 [(2, [.be (I ((i + 1 : Nat) : Int))], none), (5, [.call [804000] [] (I (j : Int)) [some (.box x.row)]], none)], .reg 6 [(1, [], some true), (4, [], some false), (12, [.row (Bk.row y)], none), (13, [], some false)], .reg 8 [(0, [.be (I ((i + 1 : Nat) : Int))], none)]] ⟨[0, 5, 6, 7, 11, 12, 13], [], []⟩ [
      decide (Int.ofNat i < Int.ofNat (List.length l)) = true,
      (0 : Int) ≤ Int.ofNat i,
      Int.ofNat i < Int.ofNat (List.length (List.map Bk.row l)),
      (List.map Bk.row l)[i]? = some (Bk.row x),
      IntKind.wrap IntKind.i64 (Int.ofNat (i + (1 : Nat))) = Int.ofNat (i + (1 : Nat)),
      (0 : Int) ≤ Int.ofNat (i + (1 : Nat)),
      Int.ofNat (i + (1 : Nat)) ≤ Int.ofNat (List.length (List.map Bk.row l)),
      Int.ofNat (List.length (List.map Bk.row l)) ≤ Int.ofNat (List.length (List.map Bk.row l)),
      Contract Try.prog (18 : Nat) [V.sl (4 : Nat) (List.drop (Int.toNat (Int.ofNat (i + (1 : Nat)))) (List.take (List.length (List.map Bk.row l)) (List.map Bk.row l))), V.clo (Fn.func (19 : Nat)) [] [V.ptr (0 : Nat) (0 : Nat) (0 : Nat) (0 : Nat)]] [Obj.box [I (Bk.num x), I (Bk.born x), I (Bk.tier x), V.sl (6 : Nat) (List.map Ep.row (Bk.eps x))]] (I (Int.ofNat j)) [some (Obj.box (Bk.row x))],
      true = true,
      (!f) = false,
      (0 : Int) ≤ Int.ofNat a,
      Int.ofNat a < Int.ofNat (List.length (List.map Bk.row l)),
      (List.map Bk.row l)[a]? = some (Bk.row y),
      decide (Bk.tier x < Bk.tier y) = false,
      IntKind.wrap IntKind.i64 (Int.ofNat (i + (1 : Nat))) = Int.ofNat (i + (1 : Nat))] (by kernel_rfl)
    (by
      simp only [allP]
      and_intros <;> first
        | omega
        | (have q := (List.getElem?_eq_some_iff.1 hx).1; simp; omega)
        | (simp [hx]; done)
        | (have q := (List.getElem?_eq_some_iff.1 hx).1; exact i64_small (by simp; omega))
        | (have q := ixB (l.drop (i + 1)) x (by simp; omega); rw [hk, List.map_drop] at q; rw [List.take_length]; exact q)
        | (simp [hy]; done)
        | (have q := (List.getElem?_eq_some_iff.1 hy).1; simp; omega))

theorem pkGe (l : List Bk) (x y : Bk) (f : Bool) (a b i j : Nat) (hx : l[i]? = some x) (hf : f = true) (hy : l[a]? = some y) (hb : y.tier ≤ x.tier) (hs : l.length ≤ 1000000) (hk : idxI (pT x) (l.drop (i + 1)) = (j : Int))  : CodeC Try.prog 0 49 pkB (pkS l f a b i) .normal (pkS l f a b (i + 1)) := by
  exact CodeC.cast (by
    first
      | rfl) (pkGe_0 l x y f a b i j hx hf hy hb hs hk )

theorem pkEnd_0 (l : List Bk) (f : Bool) (a b i : Nat) (h : l.length ≤ i) : CodeC Try.prog 0 49 pkB (pkS l f a b i) (Ex.exit (0 : Nat)) ({ env := [((0 : Nat), V.sl (4 : Nat) (List.map Bk.row l)), ((5 : Nat), Bo f), ((6 : Nat), I (Int.ofNat a)), ((7 : Nat), I (Int.ofNat b)), ((11 : Nat), V.sl (4 : Nat) (List.map Bk.row l)), ((12 : Nat), I (Int.ofNat (List.length l))), ((13 : Nat), I (Int.ofNat i))], st := [], ids := [] }) :=
  runP hmix [.reg 3 [(0, [], some false)]] ⟨[0, 5, 6, 7, 11, 12, 13], [], []⟩ [
      decide (Int.ofNat i < Int.ofNat (List.length l)) = false] (by kernel_rfl)
    (by
      simp only [allP]
      and_intros <;> first
        | (simp; omega))

theorem pkEnd (l : List Bk) (f : Bool) (a b i : Nat) (h : l.length ≤ i)  : CodeC Try.prog 0 49 pkB (pkS l f a b i) (.exit 0) (pkS l f a b i) := by
  exact CodeC.cast (by
    first
      | rfl) (pkEnd_0 l f a b i h )

theorem pkF_0 (l : List Bk) (f : Bool) (a b i : Nat) (hl : LoopC Try.prog 0 49 pkB (pkS l false 0 0 0) (.exit 0) (pkS l f a b i)) : Contract Try.prog 9 [.sl 4 (l.map Bk.row)] [] (V.tup [I (Int.ofNat a), I (Int.ofNat b), Bo f]) ([]) :=
  vcP hmix [.reg 2 [(1, [.be (I (l.length : Int))], none)], .cut ⟨[0, 5, 6, 7, 11, 12, 13], [], []⟩ (.exit 0) (pkS l f a b i)] [] [
      Int.ofNat (List.length (List.map Bk.row l)) = Int.ofNat (List.length l),
      LoopC Try.prog (0 : Nat) (49 : Nat) pkB { env := [((0 : Nat), V.sl (4 : Nat) (List.map Bk.row l)), ((5 : Nat), Bo false), ((6 : Nat), I (0 : Int)), ((7 : Nat), I (0 : Int)), ((11 : Nat), V.sl (4 : Nat) (List.map Bk.row l)), ((12 : Nat), I (Int.ofNat (List.length l))), ((13 : Nat), I (0 : Int))], st := [], ids := [] } (Ex.exit (0 : Nat)) { env := [((0 : Nat), V.sl (4 : Nat) (List.map Bk.row l)), ((5 : Nat), Bo f), ((6 : Nat), I (Int.ofNat a)), ((7 : Nat), I (Int.ofNat b)), ((11 : Nat), V.sl (4 : Nat) (List.map Bk.row l)), ((12 : Nat), I (Int.ofNat (List.length l))), ((13 : Nat), I (Int.ofNat i))], st := [], ids := [] }] (by kernel_rfl)
    (by
      simp only [allP]
      and_intros <;> first
        | exact hl
        | (simp; done))

theorem pkF (l : List Bk) (f : Bool) (a b i : Nat) (hl : LoopC Try.prog 0 49 pkB (pkS l false 0 0 0) (.exit 0) (pkS l f a b i)) : Contract Try.prog 9 [.sl 4 (l.map Bk.row)] [] (.tup [I (a : Int), I (b : Int), Bo f]) [] := by
  exact Contract.cast (by
    first
      | rfl) (by
    first
      | rfl) (pkF_0 l f a b i hl )

end Go.Proofs.Ytfpdlamjlbpmkaa

/- copies of episodes; blocks. -/
namespace Go.Proofs.Ytfpdlamjlbpmkaa
open E
set_option maxRecDepth 100000
set_option linter.unusedVariables false
set_option linter.unusedSimpArgs false

theorem spC0_0 (l : List Sp) (hs : l.length ≤ 1000000) (hl : LoopC Try.prog 0 23 scB (scS l 0) (.exit 0) (scS l l.length)) : Contract Try.prog 40 [.sl 10 (l.map Sp.row)] [] (V.sl (10 : Nat) (List.map Sp.row l)) ([]) :=
  vcP hmix [.reg 1 [(1, [.call [] [] (.own 0) [some (.arr 10 (l.map Sp.row))]], none)], .reg 2 [(1, [.be (I (l.length : Int))], none)], .cut ⟨[0, 7, 8], [(202001, 0)], []⟩ (.exit 0) (scS l l.length), .reg 7 [(0, [.idx 1], none)]] [] [
      Contract Try.prog (44 : Nat) [V.sl (10 : Nat) (List.map Sp.row l)] [] (V.own (0 : Nat)) [some (Obj.arr (10 : Nat) (List.map Sp.row l))],
      Int.ofNat (List.length (List.map Sp.row l)) = Int.ofNat (List.length l),
      LoopC Try.prog (0 : Nat) (23 : Nat) scB { env := [((0 : Nat), V.own (0 : Nat)), ((7 : Nat), I (Int.ofNat (List.length l))), ((8 : Nat), I (0 : Int))], st := [((0 : Nat), Obj.arr (10 : Nat) (List.map Sp.row l))], ids := [(0 : Nat)] } (Ex.exit (0 : Nat)) { env := [((0 : Nat), V.own (0 : Nat)), ((7 : Nat), I (Int.ofNat (List.length l))), ((8 : Nat), I (Int.ofNat (List.length l)))], st := [((0 : Nat), Obj.arr (10 : Nat) (List.map Sp.row l))], ids := [(0 : Nat)] }] (by kernel_rfl)
    (by
      simp only [allP]
      and_intros <;> first
        | exact clnS _ (by simp; omega)
        | exact hl
        | (simp; done))

theorem spC0 (l : List Sp) (hs : l.length ≤ 1000000) (hl : LoopC Try.prog 0 23 scB (scS l 0) (.exit 0) (scS l l.length)) : Contract Try.prog 40 [.sl 10 (l.map Sp.row)] [] (.sl 10 (l.map Sp.row)) [] := by
  exact Contract.cast (by
    first
      | rfl) (by
    first
      | rfl) (spC0_0 l hs hl )

theorem scAll (l : List Sp) (hs : l.length ≤ 1000000) (hm : ∀ s ∈ l, smS s) : ∀ n i : Nat, i + n = l.length → LoopC Try.prog 0 23 scB (scS l i) (.exit 0) (scS l l.length)
  | 0, i, h => by
    have : i = l.length := by omega
    subst this
    exact LoopC.last (scE l _ (Nat.le_refl _)) (by simp)
  | n + 1, i, h => LoopC.next (sc l l[i] i (List.getElem?_eq_getElem (by omega)) hs (hm _ (List.getElem_mem (by omega)))) (scAll l hs hm n (i + 1) (by omega))
theorem cSpC (l : List Sp) (hs : l.length ≤ 1000000) (hm : ∀ s ∈ l, smS s) : Contract Try.prog 40 [.sl 10 (l.map Sp.row)] [] (.sl 10 (l.map Sp.row)) [] :=
  spC0 l hs (scAll l hs hm l.length 0 (by omega))

theorem cEpC_0 (e : Ep) (hm : smE e) : Contract Try.prog 35 [e.v] [] (V.agg [V.val (Value.int IntKind.u64 (Ep.hi e)), V.val (Value.int IntKind.u64 (Ep.lo e)), I (Ep.first e), I (Ep.last e), Bo (Ep.sure e), V.sl (10 : Nat) (List.map Sp.row (Ep.spans e))]) ([]) :=
  vcP hmix [.reg 1 [(2, [.call [] [] (.sl 10 (e.spans.map Sp.row)) []], none)]] [] [
      Contract Try.prog (40 : Nat) [V.sl (10 : Nat) (List.map Sp.row (Ep.spans e))] [] (V.sl (10 : Nat) (List.map Sp.row (Ep.spans e))) []] (by kernel_rfl)
    (by
      simp only [allP]
      and_intros <;> first
        | exact cSpC _ hm.1 hm.2)

theorem cEpC (e : Ep) (hm : smE e) : Contract Try.prog 35 [e.v] [] e.v [] := by
  exact Contract.cast (by
    first
      | rfl) (by
    first
      | rfl) (cEpC_0 e hm )

theorem ec_0 (l R : List Ep) (x : Ep) (i : Nat) (hx : l[i]? = some x) (hs : l.length ≤ 1000000) (hR : R.length ≤ 1000000) (hm : smE x) : CodeC Try.prog 0 19 ecB (ecS l R i) (Ex.normal) ({ env := [((3 : Nat), V.own (0 : Nat)), ((6 : Nat), V.sl (6 : Nat) (List.map Ep.row l)), ((7 : Nat), I (Int.ofNat (List.length l))), ((8 : Nat), I (Int.ofNat (i + (1 : Nat))))], st := [((0 : Nat), Obj.arr (6 : Nat) (List.map Ep.row (R ++ [x])))], ids := [(0 : Nat)] }) :=
  runP hmix [.reg 3 [(0, [], some true)], .reg 4 [(1, [.row (Ep.row x)], none)], .reg 5 [(2, [.call [] [] (Ep.v x) []], none), (4, [.beO ((R ++ [x]).map Ep.row)], none)], .reg 6 [(0, [.be (I ((i + 1 : Nat) : Int))], none)]] ⟨[3, 6, 7, 8], [(1005000, 0)], []⟩ [
      decide (Int.ofNat i < Int.ofNat (List.length l)) = true,
      (0 : Int) ≤ Int.ofNat i,
      Int.ofNat i < Int.ofNat (List.length (List.map Ep.row l)),
      (List.map Ep.row l)[i]? = some (Ep.row x),
      Contract Try.prog (35 : Nat) [V.agg [V.val (Value.int IntKind.u64 (Ep.hi x)), V.val (Value.int IntKind.u64 (Ep.lo x)), I (Ep.first x), I (Ep.last x), Bo (Ep.sure x), V.sl (10 : Nat) (List.map Sp.row (Ep.spans x))]] [] (V.agg (Ep.row x)) [],
      (List.length (List.map Ep.row R) + (1 : Nat)) * (64 : Nat) ≤ (140737488355328 : Nat),
      List.map Ep.row R ++ [[V.val (Value.int IntKind.u64 (Ep.hi x)), V.val (Value.int IntKind.u64 (Ep.lo x)), I (Ep.first x), I (Ep.last x), Bo (Ep.sure x), V.sl (10 : Nat) (List.map Sp.row (Ep.spans x))]] = List.map Ep.row (R ++ [x]),
      IntKind.wrap IntKind.i64 (Int.ofNat (i + (1 : Nat))) = Int.ofNat (i + (1 : Nat))] (by kernel_rfl)
    (by
      simp only [allP]
      and_intros <;> first
        | (have q := (List.getElem?_eq_some_iff.1 hx).1; simp; omega)
        | (simp [hx]; done)
        | (have q := (List.getElem?_eq_some_iff.1 hx).1; exact i64_small (by simp; omega))
        | exact cEpC _ hm
        | (rw [List.map_append]; rfl))

theorem ec (l R : List Ep) (x : Ep) (i : Nat) (hx : l[i]? = some x) (hs : l.length ≤ 1000000) (hR : R.length ≤ 1000000) (hm : smE x)  : CodeC Try.prog 0 19 ecB (ecS l R i) .normal (ecS l (R ++ [x]) (i + 1)) := by
  exact CodeC.cast (by
    first
      | rfl) (ec_0 l R x i hx hs hR hm )

theorem ecE_0 (l R : List Ep) (i : Nat) (h : l.length ≤ i) : CodeC Try.prog 0 19 ecB (ecS l R i) (Ex.exit (0 : Nat)) ({ env := [((3 : Nat), V.own (0 : Nat)), ((6 : Nat), V.sl (6 : Nat) (List.map Ep.row l)), ((7 : Nat), I (Int.ofNat (List.length l))), ((8 : Nat), I (Int.ofNat i))], st := [((0 : Nat), Obj.arr (6 : Nat) (List.map Ep.row R))], ids := [(0 : Nat)] }) :=
  runP hmix [.reg 3 [(0, [], some false)]] ⟨[3, 6, 7, 8], [(0, 0)], []⟩ [
      decide (Int.ofNat i < Int.ofNat (List.length l)) = false] (by kernel_rfl)
    (by
      simp only [allP]
      and_intros <;> first
        | (simp; omega))

theorem ecE (l R : List Ep) (i : Nat) (h : l.length ≤ i)  : CodeC Try.prog 0 19 ecB (ecS l R i) (.exit 0) (ecS l R i) := by
  exact CodeC.cast (by
    first
      | rfl) (ecE_0 l R i h )

theorem epS0_0 (l : List Ep) (hl : LoopC Try.prog 0 19 ecB (ecS l [] 0) (.exit 0) (ecS l l l.length)) : Contract Try.prog 28 [.sl 6 (l.map Ep.row)] [] (V.own (0 : Nat)) ([some (Obj.arr (6 : Nat) (List.map Ep.row l))]) :=
  vcP hmix [.reg 1 [(0, [.idx 6], none)], .reg 2 [(1, [.be (I (l.length : Int))], none)], .cut ⟨[3, 6, 7, 8], [(201000, 0)], []⟩ (.exit 0) (ecS l l l.length)] [0] [
      Int.ofNat (List.length (List.map Ep.row l)) = Int.ofNat (List.length l),
      LoopC Try.prog (0 : Nat) (19 : Nat) ecB { env := [((3 : Nat), V.own (0 : Nat)), ((6 : Nat), V.sl (6 : Nat) (List.map Ep.row l)), ((7 : Nat), I (Int.ofNat (List.length l))), ((8 : Nat), I (0 : Int))], st := [((0 : Nat), Obj.arr (6 : Nat) [])], ids := [(0 : Nat)] } (Ex.exit (0 : Nat)) { env := [((3 : Nat), V.own (0 : Nat)), ((6 : Nat), V.sl (6 : Nat) (List.map Ep.row l)), ((7 : Nat), I (Int.ofNat (List.length l))), ((8 : Nat), I (Int.ofNat (List.length l)))], st := [((0 : Nat), Obj.arr (6 : Nat) (List.map Ep.row l))], ids := [(0 : Nat)] }] (by kernel_rfl)
    (by
      simp only [allP]
      and_intros <;> first
        | exact hl
        | (simp; done))

theorem epS0 (l : List Ep) (hl : LoopC Try.prog 0 19 ecB (ecS l [] 0) (.exit 0) (ecS l l l.length)) : Contract Try.prog 28 [.sl 6 (l.map Ep.row)] [] (.own 0) [some (.arr 6 (l.map Ep.row))] := by
  exact Contract.cast (by
    first
      | rfl) (by
    first
      | rfl) (epS0_0 l hl )

theorem ecAll (l : List Ep) (hs : l.length ≤ 1000000) (hm : ∀ e ∈ l, smE e) : ∀ n i : Nat, i + n = l.length → LoopC Try.prog 0 19 ecB (ecS l (l.take i) i) (.exit 0) (ecS l l l.length)
  | 0, i, h => by
    have : i = l.length := by omega
    subst this
    rw [List.take_length]
    exact LoopC.last (ecE l l _ (Nat.le_refl _)) (by simp)
  | n + 1, i, h => by
    have hx : l[i]? = some l[i] := List.getElem?_eq_getElem (by omega)
    have hr := ec l (l.take i) l[i] i hx hs (by rw [List.length_take]; omega) (hm _ (List.getElem_mem (by omega)))
    rw [← List.take_succ_eq_append_getElem (by omega)] at hr
    exact LoopC.next hr (ecAll l hs hm n (i + 1) (by omega))
theorem cEpS (l : List Ep) (hs : l.length ≤ 1000000) (hm : ∀ e ∈ l, smE e) : Contract Try.prog 28 [.sl 6 (l.map Ep.row)] [] (.own 0) [some (.arr 6 (l.map Ep.row))] :=
  epS0 l (ecAll l hs hm l.length 0 (by omega))
theorem soLt_eq (a b : Ep) : soLt a b = (decide (a.hi < b.hi) || (a.hi == b.hi && decide (a.lo < b.lo))) := by
  unfold soLt cmpE or2 cmpI
  by_cases h1 : a.hi < b.hi <;> by_cases h2 : b.hi < a.hi <;> by_cases h3 : a.lo < b.lo <;> by_cases h4 : b.lo < a.lo <;> simp [h1, h2, h3, h4] <;> omega
theorem soOrd : Swo soLt := by
  constructor
  · intro a b h
    rw [soLt_eq] at h ⊢
    simp at h ⊢
    omega
  · intro a b c h1 h2
    rw [soLt_eq] at h1 h2 ⊢
    simp at h1 h2 ⊢
    omega

theorem mk0_0 (n b t : Int) (l : List Ep) (hs : l.length ≤ 500000) (hm : ∀ e ∈ l, smE e) : Contract Try.prog 20 [I n, I b, I t, .sl 6 (l.map Ep.row)] [] (V.agg [I n, I b, I t, V.sl (6 : Nat) (List.map Ep.row (srt soLt l))]) ([]) :=
  vcP hmix [.reg 1 [(1, [.call [] [] (.own 0) [some (.arr 6 (l.map Ep.row))]], none)], .reg 2 [(1, [.call [202001] [] (.tup []) [some (.arr 6 ((srt soLt l).map Ep.row))]], none)], .reg 3 [(3, [.idx 1], none)]] [] [
      Contract Try.prog (28 : Nat) [V.sl (6 : Nat) (List.map Ep.row l)] [] (V.own (0 : Nat)) [some (Obj.arr (6 : Nat) (List.map Ep.row l))],
      Contract Try.prog (29 : Nat) [V.own (0 : Nat), V.clo (Fn.func (30 : Nat)) [] []] [Obj.arr (6 : Nat) (List.map Ep.row l)] (V.tup []) [some (Obj.arr (6 : Nat) (List.map Ep.row (srt soLt l)))]] (by kernel_rfl)
    (by
      simp only [allP]
      and_intros <;> first
        | exact cEpS l (by omega) hm
        | exact soSort soOrd l hs)

theorem mk0 (n b t : Int) (l : List Ep) (hs : l.length ≤ 500000) (hm : ∀ e ∈ l, smE e) : Contract Try.prog 20 [I n, I b, I t, .sl 6 (l.map Ep.row)] [] (Bk.v ⟨n, b, t, srt soLt l⟩) [] := by
  exact Contract.cast (by
    first
      | rfl) (by
    first
      | rfl) (mk0_0 n b t l hs hm )

end Go.Proofs.Ytfpdlamjlbpmkaa

/- Lists whose elements are all right, by their places. -/
namespace Go.Proofs.Ytfpdlamjlbpmkaa
open E
/-- No element is bad at its place. -/
def allI {α : Type} (bad : Nat → α → Bool) (l : List α) : Bool := (List.range l.length).all fun i => match l[i]? with
  | some a => !bad i a
  | none => true
theorem allI_bad {α : Type} {bad : Nat → α → Bool} {l : List α} {i : Nat} {x : α} (h : l[i]? = some x) (hb : bad i x = true) : allI bad l = false := by
  unfold allI
  rw [List.all_eq_false]
  exact ⟨i, List.mem_range.2 (List.getElem?_eq_some_iff.1 h).1, by rw [h]; simp [hb]⟩
theorem allI_good {α : Type} {bad : Nat → α → Bool} {l : List α} (h : ∀ (i : Nat) (x : α), l[i]? = some x → bad i x = false) : allI bad l = true := by
  unfold allI
  rw [List.all_eq_true]
  intro i hi
  cases hx : l[i]? with
  | none => rfl
  | some a => simp [h i a hx]
theorem allI_iff {α : Type} {bad : Nat → α → Bool} {l : List α} : allI bad l = true ↔ ∀ (i : Nat) (x : α), l[i]? = some x → bad i x = false := by
  constructor
  · intro h i x hx
    cases hb : bad i x with
    | false => rfl
    | true => rw [allI_bad hx hb] at h; cases h
  · exact allI_good
/-- A search that ends one way or the other, as a Bool. -/
theorem allI_all {α : Type} {p : α → Bool} {l : List α} : allI (fun _ x => !p x) l = l.all p := by
  cases h : l.all p with
  | true =>
    rw [List.all_eq_true] at h
    exact allI_good fun i x hx => by rw [h x (List.mem_of_getElem? hx)]; rfl
  | false =>
    rw [List.all_eq_false] at h
    obtain ⟨x, hx, hp⟩ := h
    obtain ⟨i, hi⟩ := List.getElem?_of_mem hx
    exact allI_bad hi (by simpa using hp)
/-- A loop that goes through a list and keeps its frame. -/
theorem LoopC.pass {P : Program} {k n : Nat} {c : Code} {α : Type} (l : List α) (S : Nat → SL) {e : Ex} (he : e ≠ .normal)
    (hround : ∀ (i : Nat) (x : α), l[i]? = some x → i < l.length → CodeC P k n c (S i) .normal (S (i + 1)))
    (hend : CodeC P k n c (S l.length) e (S l.length)) : LoopC P k n c (S 0) e (S l.length) := by
  have key : ∀ m i, i + m = l.length → LoopC P k n c (S i) e (S l.length) := by
    intro m
    induction m with
    | zero => intro i h; have : i = l.length := by omega
              subst this; exact LoopC.last hend he
    | succ m ih => intro i h; exact LoopC.next (hround i l[i] (List.getElem?_eq_getElem (by omega)) (by omega)) (ih (i + 1) (by omega))
  exact key l.length 0 (by omega)
theorem baBeq (a b : ByteArray) : (a == b) = (a.data == b.data) := rfl
instance : LawfulBEq ByteArray where
  rfl {a} := by rw [baBeq]; simp
  eq_of_beq {a b} h := by
    rw [baBeq] at h
    cases a; cases b
    simp at h
    rw [h]
end Go.Proofs.Ytfpdlamjlbpmkaa

/- blocks, by the reference: making one. -/
namespace Go.Proofs.Ytfpdlamjlbpmkaa
open E
set_option maxRecDepth 100000
set_option linter.unusedVariables false
set_option linter.unusedSimpArgs false

def ltT (a b c d : Int) : Bool := decide (a < c) || (a == c && decide (b < d))
def FLess : List V → Option V
  | [.agg [.val (.int _ a), .val (.int _ b)], .agg [.val (.int _ c), .val (.int _ d)]] => some (Bo (ltT a b c d))
  | _ => none
def moS (n b t : Int) (l R : List Ep) (i : Nat) : SL := ⟨[(3, .sl 6 (l.map Ep.row)), (8, .ptr 1000 0 0 0), (9, .ptr 205000 0 0 0), (10, I (i : Int))], [(1000, .box [I 0, I 0, I 0, .nil]), (205000, .box [I n, I b, I t, .own 0]), (0, .arr 6 (R.map Ep.row))], [1000, 205000, 0]⟩
def mkS (n b t : Int) (l R : List Ep) (i k : Nat) : SL := ⟨[(3, .sl 6 (l.map Ep.row)), (8, .ptr 1000 0 0 0), (9, .ptr 205000 0 0 0), (10, I (i : Int)), (11, I (k : Int))], [(1000, .box [I 0, I 0, I 0, .nil]), (205000, .box [I n, I b, I t, .own 0]), (0, .arr 6 (R.map Ep.row))], [1000, 205000, 0]⟩
/-- How far back an episode goes. -/
def backK (R : List Ep) (x : Ep) : Nat → Nat
  | 0 => 0
  | k + 1 => match R[k]? with
    | some y => bif soLt x y then backK R x k else k + 1
    | none => k + 1
def insM (R : List Ep) (x : Ep) : List Ep := R.take (backK R x R.length) ++ [x] ++ R.drop (backK R x R.length)
noncomputable def moB : Code := codeAt Try.prog 22 [true, true, false, true, false, false]

noncomputable def mkB : Code := codeAt Try.prog 22 [true, true, false, true, false, false, true, false, false, true, false, false, false]

theorem cLess_0 (a b c d : Int)  (tq0 : (decide (a < c)) = true) : Contract Try.prog 24 [.agg [U a, U b], .agg [U c, U d]] [] (Bo true) ([]) :=
  vcP hmix [.reg 1 [(5, [], some true)]] [] [
      decide (a < c) = true] (by kernel_rfl)
    (by
      have d0 := tq0
      try simp only [Int.ofNat_eq_natCast, List.length_map, Bool.not_eq_true', Bool.not_eq_false', decide_eq_true_eq, decide_eq_false_iff_not] at d0
      simp only [allP]
      and_intros <;> first
        | omega)

theorem cLess_1 (a b c d : Int)  (tq0 : (decide (a < c)) = false) (tq1 : (a == c) = true) : Contract Try.prog 24 [.agg [U a, U b], .agg [U c, U d]] [] (Bo (decide (b < d))) ([]) :=
  vcP hmix [.reg 1 [(5, [], some false), (11, [], some true)]] [] [
      decide (a < c) = false,
      (a == c) = true] (by kernel_rfl)
    (by
      have d0 := tq0
      have d1 := tq1
      try simp only [Int.ofNat_eq_natCast, List.length_map, Bool.not_eq_true', Bool.not_eq_false', decide_eq_true_eq, decide_eq_false_iff_not] at d0 d1
      simp only [allP]
      and_intros <;> first
        | omega)

theorem cLess_2 (a b c d : Int)  (tq0 : (decide (a < c)) = false) (tq1 : (a == c) = false) : Contract Try.prog 24 [.agg [U a, U b], .agg [U c, U d]] [] (Bo false) ([]) :=
  vcP hmix [.reg 1 [(5, [], some false), (11, [], some false)]] [] [
      decide (a < c) = false,
      (a == c) = false] (by kernel_rfl)
    (by
      have d0 := tq0
      have d1 := tq1
      try simp only [Int.ofNat_eq_natCast, List.length_map, Bool.not_eq_true', Bool.not_eq_false', decide_eq_true_eq, decide_eq_false_iff_not] at d0 d1
      simp only [allP]
      and_intros <;> first
        | omega)

theorem cLess (a b c d : Int)  : Contract Try.prog 24 [.agg [U a, U b], .agg [U c, U d]] [] (Bo (ltT a b c d)) [] := by
  rcases tf (decide (a < c)) with tq0 | tq0
  · exact Contract.cast (by
      first
        | (simp only [ltT, tq0, cond_true, cond_false]; rfl)) (by
      first
        | rfl) (cLess_0 a b c d  tq0)
  · rcases tf (a == c) with tq1 | tq1
    · exact Contract.cast (by
        first
          | (simp only [ltT, tq0, tq1, cond_true, cond_false]; rfl)) (by
        first
          | rfl) (cLess_1 a b c d  tq0 tq1)
    · exact Contract.cast (by
        first
          | (simp only [ltT, tq0, tq1, cond_true, cond_false]; rfl)) (by
        first
          | rfl) (cLess_2 a b c d  tq0 tq1)

theorem ltT_eq (x y : Ep) : ltT x.hi x.lo y.hi y.lo = soLt x y := by rw [soLt_eq]; rfl

theorem mkGo_0 (n b t : Int) (l R : List Ep) (x y : Ep) (i k : Nat) (hx : l[i]? = some x) (hi : i < l.length) (hs : l.length ≤ 1000000) (hR : R.length ≤ 1000000) (hkR : k ≤ R.length) (hk : 0 < k) (hy : R[k - 1]? = some y) (hb : soLt x y = true) : CodeC Try.prog 0 62 mkB (mkS n b t l R i k) (Ex.normal) ({ env := [((3 : Nat), V.sl (6 : Nat) (List.map Ep.row l)), ((8 : Nat), V.ptr (1000 : Nat) (0 : Nat) (0 : Nat) (0 : Nat)), ((9 : Nat), V.ptr (205000 : Nat) (0 : Nat) (0 : Nat) (0 : Nat)), ((10 : Nat), I (Int.ofNat i)), ((11 : Nat), I (Int.ofNat (k - (1 : Nat))))], st := [((1000 : Nat), Obj.box [I (0 : Int), I (0 : Int), I (0 : Int), V.nil]), ((205000 : Nat), Obj.box [I n, I b, I t, V.own (0 : Nat)]), ((0 : Nat), Obj.arr (6 : Nat) (List.map Ep.row R))], ids := [(1000 : Nat), (205000 : Nat), (0 : Nat)] }) :=
  runP hmix [.reg 6 [(1, [], some true), (7, [.row (Ep.row x)], none), (11, [.be (I ((k - 1 : Nat) : Int))], none), (14, [.row (Ep.row y)], none), (15, [.app FLess], some true)], .reg 7 [(1, [.be (I ((k - 1 : Nat) : Int))], none)], .tab [(24, FLess)]] ⟨[3, 8, 9, 10, 11], [(1000, 1000), (205000, 205000), (0, 0)], []⟩ [
      decide (Int.ofNat k > (0 : Int)) = true,
      (0 : Int) ≤ Int.ofNat i,
      Int.ofNat i < Int.ofNat (List.length (List.map Ep.row l)),
      (List.map Ep.row l)[i]? = some (Ep.row x),
      IntKind.wrap IntKind.i64 (Int.ofNat k + (-1 : Int)) = Int.ofNat (k - (1 : Nat)),
      (0 : Int) ≤ Int.ofNat (k - (1 : Nat)),
      Int.ofNat (k - (1 : Nat)) < Int.ofNat (List.length (List.map Ep.row R)),
      (List.map Ep.row R)[k - (1 : Nat)]? = some (Ep.row y),
      Contract Try.prog (24 : Nat) [V.agg [V.val (Value.int IntKind.u64 (Ep.hi x)), V.val (Value.int IntKind.u64 (Ep.lo x))], V.agg [V.val (Value.int IntKind.u64 (Ep.hi y)), V.val (Value.int IntKind.u64 (Ep.lo y))]] [] (Bo (ltT (Ep.hi x) (Ep.lo x) (Ep.hi y) (Ep.lo y))) [],
      ltT (Ep.hi x) (Ep.lo x) (Ep.hi y) (Ep.lo y) = true,
      IntKind.wrap IntKind.i64 (Int.ofNat k + (-1 : Int)) = Int.ofNat (k - (1 : Nat))] (by kernel_rfl)
    (by
      simp only [allP]
      and_intros <;> first
        | (simp; omega)
        | (simp [hx]; done)
        | (simp [hy]; done)
        | exact cLess _ _ _ _
        | (rw [i64_small (by simp; omega)]; simp; omega)
        | (rw [ltT_eq]; exact hb))

theorem mkGo (n b t : Int) (l R : List Ep) (x y : Ep) (i k : Nat) (hx : l[i]? = some x) (hi : i < l.length) (hs : l.length ≤ 1000000) (hR : R.length ≤ 1000000) (hkR : k ≤ R.length) (hk : 0 < k) (hy : R[k - 1]? = some y) (hb : soLt x y = true)  : CodeC Try.prog 0 62 mkB (mkS n b t l R i k) .normal (mkS n b t l R i (k - 1)) := by
  exact CodeC.cast (by
    first
      | rfl) (mkGo_0 n b t l R x y i k hx hi hs hR hkR hk hy hb )

theorem mkStop_0 (n b t : Int) (l R : List Ep) (x y : Ep) (i k : Nat) (hx : l[i]? = some x) (hi : i < l.length) (hs : l.length ≤ 1000000) (hR : R.length ≤ 1000000) (hkR : k ≤ R.length) (hk : 0 < k) (hy : R[k - 1]? = some y) (hb : soLt x y = false) : CodeC Try.prog 0 62 mkB (mkS n b t l R i k) (Ex.exit (2 : Nat)) ({ env := [((3 : Nat), V.sl (6 : Nat) (List.map Ep.row l)), ((8 : Nat), V.ptr (1000 : Nat) (0 : Nat) (0 : Nat) (0 : Nat)), ((9 : Nat), V.ptr (205000 : Nat) (0 : Nat) (0 : Nat) (0 : Nat)), ((10 : Nat), I (Int.ofNat i)), ((11 : Nat), I (Int.ofNat k))], st := [((1000 : Nat), Obj.box [I (0 : Int), I (0 : Int), I (0 : Int), V.nil]), ((205000 : Nat), Obj.box [I n, I b, I t, V.own (0 : Nat)]), ((0 : Nat), Obj.arr (6 : Nat) (List.map Ep.row R))], ids := [(1000 : Nat), (205000 : Nat), (0 : Nat)] }) :=
  runP hmix [.reg 6 [(1, [], some true), (7, [.row (Ep.row x)], none), (11, [.be (I ((k - 1 : Nat) : Int))], none), (14, [.row (Ep.row y)], none), (15, [.app FLess], some false)], .tab [(24, FLess)]] ⟨[3, 8, 9, 10, 11], [(1000, 1000), (205000, 205000), (0, 0)], []⟩ [
      decide (Int.ofNat k > (0 : Int)) = true,
      (0 : Int) ≤ Int.ofNat i,
      Int.ofNat i < Int.ofNat (List.length (List.map Ep.row l)),
      (List.map Ep.row l)[i]? = some (Ep.row x),
      IntKind.wrap IntKind.i64 (Int.ofNat k + (-1 : Int)) = Int.ofNat (k - (1 : Nat)),
      (0 : Int) ≤ Int.ofNat (k - (1 : Nat)),
      Int.ofNat (k - (1 : Nat)) < Int.ofNat (List.length (List.map Ep.row R)),
      (List.map Ep.row R)[k - (1 : Nat)]? = some (Ep.row y),
      Contract Try.prog (24 : Nat) [V.agg [V.val (Value.int IntKind.u64 (Ep.hi x)), V.val (Value.int IntKind.u64 (Ep.lo x))], V.agg [V.val (Value.int IntKind.u64 (Ep.hi y)), V.val (Value.int IntKind.u64 (Ep.lo y))]] [] (Bo (ltT (Ep.hi x) (Ep.lo x) (Ep.hi y) (Ep.lo y))) [],
      ltT (Ep.hi x) (Ep.lo x) (Ep.hi y) (Ep.lo y) = false] (by kernel_rfl)
    (by
      simp only [allP]
      and_intros <;> first
        | (simp; omega)
        | (simp [hx]; done)
        | (simp [hy]; done)
        | exact cLess _ _ _ _
        | (rw [i64_small (by simp; omega)]; simp; omega)
        | (rw [ltT_eq]; exact hb))

theorem mkStop (n b t : Int) (l R : List Ep) (x y : Ep) (i k : Nat) (hx : l[i]? = some x) (hi : i < l.length) (hs : l.length ≤ 1000000) (hR : R.length ≤ 1000000) (hkR : k ≤ R.length) (hk : 0 < k) (hy : R[k - 1]? = some y) (hb : soLt x y = false)  : CodeC Try.prog 0 62 mkB (mkS n b t l R i k) (.exit 2) (mkS n b t l R i k) := by
  exact CodeC.cast (by
    first
      | rfl) (mkStop_0 n b t l R x y i k hx hi hs hR hkR hk hy hb )

theorem mkZ_0 (n b t : Int) (l R : List Ep) (i : Nat)  : CodeC Try.prog 0 62 mkB (mkS n b t l R i 0) (Ex.exit (2 : Nat)) ({ env := [((3 : Nat), V.sl (6 : Nat) (List.map Ep.row l)), ((8 : Nat), V.ptr (1000 : Nat) (0 : Nat) (0 : Nat) (0 : Nat)), ((9 : Nat), V.ptr (205000 : Nat) (0 : Nat) (0 : Nat) (0 : Nat)), ((10 : Nat), I (Int.ofNat i)), ((11 : Nat), I (0 : Int))], st := [((1000 : Nat), Obj.box [I (0 : Int), I (0 : Int), I (0 : Int), V.nil]), ((205000 : Nat), Obj.box [I n, I b, I t, V.own (0 : Nat)]), ((0 : Nat), Obj.arr (6 : Nat) (List.map Ep.row R))], ids := [(1000 : Nat), (205000 : Nat), (0 : Nat)] }) :=
  runP hmix [] ⟨[3, 8, 9, 10, 11], [(1000, 1000), (205000, 205000), (0, 0)], []⟩ [
      ] (by kernel_rfl)
    trivial

theorem mkZ (n b t : Int) (l R : List Ep) (i : Nat)   : CodeC Try.prog 0 62 mkB (mkS n b t l R i 0) (.exit 2) (mkS n b t l R i 0) := by
  exact CodeC.cast (by
    first
      | rfl) (mkZ_0 n b t l R i  )

theorem mkAll (n b t : Int) (l R : List Ep) (x : Ep) (i : Nat) (hx : l[i]? = some x) (hi : i < l.length) (hs : l.length ≤ 1000000) (hR : R.length ≤ 1000000) : ∀ k, k ≤ R.length → LoopC Try.prog 0 62 mkB (mkS n b t l R i k) (.exit 2) (mkS n b t l R i (backK R x k))
  | 0, _ => LoopC.last (mkZ n b t l R i) (by simp)
  | k + 1, hk => by
    have hy : R[k]? = some R[k] := List.getElem?_eq_getElem (by omega)
    unfold backK
    rw [hy]
    dsimp only
    cases hb : soLt x R[k] with
    | true => exact LoopC.next (mkGo n b t l R x R[k] i (k + 1) hx hi hs hR hk (by omega) hy hb) (mkAll n b t l R x i hx hi hs hR k (by omega))
    | false => exact LoopC.last (mkStop n b t l R x R[k] i (k + 1) hx hi hs hR hk (by omega) hy hb) (by simp)
theorem ins_cut (R : List Ep) (x : Ep) (k : Nat) : List.take k (R.map Ep.row) ++ [x.row] ++ List.drop k (R.map Ep.row) = (R.take k ++ [x] ++ R.drop k).map Ep.row := by
  rw [List.map_append, List.map_append, List.map_take, List.map_drop]; rfl

theorem mo_0 (n b t : Int) (l R : List Ep) (x : Ep) (i k : Nat) (hx : l[i]? = some x) (hi : i < l.length) (hs : l.length ≤ 1000000) (hR : R.length ≤ 1000000) (hk : k ≤ R.length) (hl : LoopC Try.prog 0 62 mkB (mkS n b t l R i R.length) (.exit 2) (mkS n b t l R i k)) : CodeC Try.prog 0 62 moB (moS n b t l R i) (Ex.normal) ({ env := [((3 : Nat), V.sl (6 : Nat) (List.map Ep.row l)), ((8 : Nat), V.ptr (1000 : Nat) (0 : Nat) (0 : Nat) (0 : Nat)), ((9 : Nat), V.ptr (205000 : Nat) (0 : Nat) (0 : Nat) (0 : Nat)), ((10 : Nat), I (Int.ofNat (i + (1 : Nat))))], st := [((1000 : Nat), Obj.box [I (0 : Int), I (0 : Int), I (0 : Int), V.nil]), ((205000 : Nat), Obj.box [I n, I b, I t, V.own (0 : Nat)]), ((0 : Nat), Obj.arr (6 : Nat) (List.map Ep.row (List.take k R ++ [x] ++ List.drop k R)))], ids := [(1000 : Nat), (205000 : Nat), (0 : Nat)] }) :=
  runP hmix [.reg 3 [(3, [], some true)], .reg 5 [(2, [.be (I (R.length : Int))], none)], .cut ⟨[3, 8, 9, 10, 11], [(1000, 1000), (205000, 205000), (0, 0)], []⟩ (.exit 2) (mkS n b t l R i k), .reg 8 [(3, [.idx 0], none), (8, [.row (Ep.row x)], none), (14, [.idx 0], none), (15, [.beO ((R.take k ++ [x] ++ R.drop k).map Ep.row)], none)], .reg 4 [(1, [.be (I ((i + 1 : Nat) : Int))], none)]] ⟨[3, 8, 9, 10], [(1000, 1000), (205000, 205000), (1616000, 0)], []⟩ [
      decide (Int.ofNat i < Int.ofNat (List.length (List.map Ep.row l))) = true,
      Int.ofNat (List.length (List.map Ep.row R)) = Int.ofNat (List.length R),
      LoopC Try.prog (0 : Nat) (62 : Nat) mkB { env := [((3 : Nat), V.sl (6 : Nat) (List.map Ep.row l)), ((8 : Nat), V.ptr (1000 : Nat) (0 : Nat) (0 : Nat) (0 : Nat)), ((9 : Nat), V.ptr (205000 : Nat) (0 : Nat) (0 : Nat) (0 : Nat)), ((10 : Nat), I (Int.ofNat i)), ((11 : Nat), I (Int.ofNat (List.length R)))], st := [((1000 : Nat), Obj.box [I (0 : Int), I (0 : Int), I (0 : Int), V.nil]), ((205000 : Nat), Obj.box [I n, I b, I t, V.own (0 : Nat)]), ((0 : Nat), Obj.arr (6 : Nat) (List.map Ep.row R))], ids := [(1000 : Nat), (205000 : Nat), (0 : Nat)] } (Ex.exit (2 : Nat)) { env := [((3 : Nat), V.sl (6 : Nat) (List.map Ep.row l)), ((8 : Nat), V.ptr (1000 : Nat) (0 : Nat) (0 : Nat) (0 : Nat)), ((9 : Nat), V.ptr (205000 : Nat) (0 : Nat) (0 : Nat) (0 : Nat)), ((10 : Nat), I (Int.ofNat i)), ((11 : Nat), I (Int.ofNat k))], st := [((1000 : Nat), Obj.box [I (0 : Int), I (0 : Int), I (0 : Int), V.nil]), ((205000 : Nat), Obj.box [I n, I b, I t, V.own (0 : Nat)]), ((0 : Nat), Obj.arr (6 : Nat) (List.map Ep.row R))], ids := [(1000 : Nat), (205000 : Nat), (0 : Nat)] },
      (0 : Int) ≤ (0 : Int),
      (0 : Int) ≤ Int.ofNat k,
      k ≤ List.length (List.map Ep.row R),
      k ≤ List.length (List.map Ep.row R),
      List.length (List.take k (List.map Ep.row R)) * (64 : Nat) ≤ (140737488355328 : Nat),
      (0 : Int) ≤ Int.ofNat i,
      Int.ofNat i < Int.ofNat (List.length (List.map Ep.row l)),
      (List.map Ep.row l)[i]? = some (Ep.row x),
      (List.length (List.take k (List.map Ep.row R)) + (1 : Nat)) * (64 : Nat) ≤ (140737488355328 : Nat),
      (0 : Int) ≤ Int.ofNat k,
      Int.ofNat k ≤ Int.ofNat (List.length (List.map Ep.row R)),
      List.length (List.map Ep.row R) ≤ List.length (List.map Ep.row R),
      List.length (List.map Ep.row R) ≤ List.length (List.map Ep.row R),
      (List.length (List.take k (List.map Ep.row R) ++ [[V.val (Value.int IntKind.u64 (Ep.hi x)), V.val (Value.int IntKind.u64 (Ep.lo x)), I (Ep.first x), I (Ep.last x), Bo (Ep.sure x), V.sl (10 : Nat) (List.map Sp.row (Ep.spans x))]]) + List.length (List.take (List.length (List.map Ep.row R) - k) (List.drop k (List.map Ep.row R)))) * (64 : Nat) ≤ (140737488355328 : Nat),
      List.take k (List.map Ep.row R) ++ [[V.val (Value.int IntKind.u64 (Ep.hi x)), V.val (Value.int IntKind.u64 (Ep.lo x)), I (Ep.first x), I (Ep.last x), Bo (Ep.sure x), V.sl (10 : Nat) (List.map Sp.row (Ep.spans x))]] ++ List.take (List.length (List.map Ep.row R) - k) (List.drop k (List.map Ep.row R)) = List.map Ep.row (List.take k R ++ [x] ++ List.drop k R),
      IntKind.wrap IntKind.i64 (Int.ofNat (i + (1 : Nat))) = Int.ofNat (i + (1 : Nat))] (by kernel_rfl)
    (by
      simp only [allP]
      and_intros <;> first
        | omega
        | exact hl
        | (simp; omega)
        | (simp [hx]; done)
        | exact i64_small (by simp; omega)
        | (refine Eq.trans ?_ (ins_cut R x k); refine congrArg _ ?_; exact List.take_of_length_le (by simp)))

theorem mo (n b t : Int) (l R : List Ep) (x : Ep) (i k : Nat) (hx : l[i]? = some x) (hi : i < l.length) (hs : l.length ≤ 1000000) (hR : R.length ≤ 1000000) (hk : k ≤ R.length) (hl : LoopC Try.prog 0 62 mkB (mkS n b t l R i R.length) (.exit 2) (mkS n b t l R i k))  : CodeC Try.prog 0 62 moB (moS n b t l R i) .normal (moS n b t l (R.take k ++ [x] ++ R.drop k) (i + 1)) := by
  exact CodeC.cast (by
    first
      | rfl) (mo_0 n b t l R x i k hx hi hs hR hk hl )

theorem moE_0 (n b t : Int) (l R : List Ep) (i : Nat) (h : l.length ≤ i) : CodeC Try.prog 0 62 moB (moS n b t l R i) (Ex.exit (0 : Nat)) ({ env := [((3 : Nat), V.sl (6 : Nat) (List.map Ep.row l)), ((8 : Nat), V.ptr (1000 : Nat) (0 : Nat) (0 : Nat) (0 : Nat)), ((9 : Nat), V.ptr (205000 : Nat) (0 : Nat) (0 : Nat) (0 : Nat)), ((10 : Nat), I (Int.ofNat i))], st := [((1000 : Nat), Obj.box [I (0 : Int), I (0 : Int), I (0 : Int), V.nil]), ((205000 : Nat), Obj.box [I n, I b, I t, V.own (0 : Nat)]), ((0 : Nat), Obj.arr (6 : Nat) (List.map Ep.row R))], ids := [(1000 : Nat), (205000 : Nat), (0 : Nat)] }) :=
  runP hmix [.reg 3 [(3, [], some false)]] ⟨[3, 8, 9, 10], [(1000, 1000), (205000, 205000), (0, 0)], []⟩ [
      decide (Int.ofNat i < Int.ofNat (List.length (List.map Ep.row l))) = false] (by kernel_rfl)
    (by
      simp only [allP]
      and_intros <;> first
        | (simp; omega))

theorem moE (n b t : Int) (l R : List Ep) (i : Nat) (h : l.length ≤ i)  : CodeC Try.prog 0 62 moB (moS n b t l R i) (.exit 0) (moS n b t l R i) := by
  exact CodeC.cast (by
    first
      | rfl) (moE_0 n b t l R i h )

theorem insM_len (R : List Ep) (x : Ep) : (insM R x).length = R.length + 1 := by
  unfold insM
  simp
  omega
theorem backK_le (R : List Ep) (x : Ep) : ∀ k, backK R x k ≤ k
  | 0 => Nat.le_refl _
  | k + 1 => by
    unfold backK
    split
    · cases soLt x _ with
      | true => exact Nat.le_succ_of_le (backK_le R x k)
      | false => exact Nat.le_refl _
    · exact Nat.le_refl _
theorem moAll (n b t : Int) (l : List Ep) (hs : l.length ≤ 500000) : LoopC Try.prog 0 62 moB (moS n b t l [] 0) (.exit 0) (moS n b t l (l.foldl insM []) l.length) :=
  LoopC.fold l insM (fun i R => R.length = i) (fun R i => moS n b t l R i) (by simp)
    (fun i R x hx hi hR => ⟨mo n b t l R x i (backK R x R.length) hx hi (by omega) (by omega) (backK_le R x _) (mkAll n b t l R x i hx hi (by omega) (by omega) R.length (Nat.le_refl _)), by rw [insM_len]; omega⟩)
    (fun R _ => moE n b t l R _ (Nat.le_refl _)) [] rfl

theorem mo0_0 (n b t : Int) (l R : List Ep) (hl : LoopC Try.prog 0 62 moB (moS n b t l [] 0) (.exit 0) (moS n b t l R l.length)) : Contract Try.prog 22 [I n, I b, I t, .sl 6 (l.map Ep.row)] [] (V.agg [I n, I b, I t, V.sl (6 : Nat) (List.map Ep.row R)]) ([]) :=
  vcP hmix [.cut ⟨[3, 8, 9, 10], [(1000, 1000), (205000, 205000)], [.cell 205000 3 0 6]⟩ (.exit 0) (moS n b t l R l.length)] [] [
      LoopC Try.prog (0 : Nat) (62 : Nat) moB { env := [((3 : Nat), V.sl (6 : Nat) (List.map Ep.row l)), ((8 : Nat), V.ptr (1000 : Nat) (0 : Nat) (0 : Nat) (0 : Nat)), ((9 : Nat), V.ptr (205000 : Nat) (0 : Nat) (0 : Nat) (0 : Nat)), ((10 : Nat), I (0 : Int))], st := [((1000 : Nat), Obj.box [I (0 : Int), I (0 : Int), I (0 : Int), V.nil]), ((205000 : Nat), Obj.box [I n, I b, I t, V.own (0 : Nat)]), ((0 : Nat), Obj.arr (6 : Nat) [])], ids := [(1000 : Nat), (205000 : Nat), (0 : Nat)] } (Ex.exit (0 : Nat)) { env := [((3 : Nat), V.sl (6 : Nat) (List.map Ep.row l)), ((8 : Nat), V.ptr (1000 : Nat) (0 : Nat) (0 : Nat) (0 : Nat)), ((9 : Nat), V.ptr (205000 : Nat) (0 : Nat) (0 : Nat) (0 : Nat)), ((10 : Nat), I (Int.ofNat (List.length l)))], st := [((1000 : Nat), Obj.box [I (0 : Int), I (0 : Int), I (0 : Int), V.nil]), ((205000 : Nat), Obj.box [I n, I b, I t, V.own (0 : Nat)]), ((0 : Nat), Obj.arr (6 : Nat) (List.map Ep.row R))], ids := [(1000 : Nat), (205000 : Nat), (0 : Nat)] }] (by kernel_rfl)
    (by
      simp only [allP]
      and_intros <;> first
        | exact hl)

theorem mo0 (n b t : Int) (l R : List Ep) (hl : LoopC Try.prog 0 62 moB (moS n b t l [] 0) (.exit 0) (moS n b t l R l.length)) : Contract Try.prog 22 [I n, I b, I t, .sl 6 (l.map Ep.row)] [] (Bk.v ⟨n, b, t, R⟩) [] := by
  exact Contract.cast (by
    first
      | rfl) (by
    first
      | rfl) (mo0_0 n b t l R hl )

theorem back_spec (R : List Ep) (x : Ep) (hs : Srt soLt R) : ∀ k, k ≤ R.length → (∀ y ∈ R.drop k, soLt x y = true) → (∀ y ∈ R.take (backK R x k), soLt x y = false) ∧ (∀ y ∈ R.drop (backK R x k), soLt x y = true)
  | 0, _, h => ⟨by simp [backK], by simpa [backK] using h⟩
  | k + 1, hk, h => by
    have hy : R[k]? = some R[k] := List.getElem?_eq_getElem (by omega)
    unfold backK
    rw [hy]
    dsimp only
    cases hb : soLt x R[k] with
    | true =>
      refine back_spec R x hs k (by omega) ?_
      intro y hm
      rw [List.drop_eq_getElem_cons (by omega)] at hm
      rcases List.mem_cons.1 hm with rfl | hm
      · exact hb
      · exact h y hm
    | false =>
      refine ⟨?_, h⟩
      intro y hm
      obtain ⟨j, hj⟩ := List.getElem?_of_mem hm
      have hjl := (List.getElem?_eq_some_iff.1 hj).1
      simp only [cond_false, List.length_take] at hjl
      rw [cond_false, List.getElem?_take_of_lt (by omega)] at hj
      have h1 : soLt R[k] y = false := Srt.le soOrd hs (show j ≤ k by omega) hj hy
      cases h2 : soLt x y with
      | false => rfl
      | true => rw [soOrd.lt_of_lt_le h2 h1] at hb; cases hb
theorem ins_mrg (R : List Ep) (x : Ep) (hs : Srt soLt R) : insM R x = mrg soLt R [x] := by
  obtain ⟨h1, h2⟩ := back_spec R x hs R.length (Nat.le_refl _) (by simp)
  have := mrg_one soOrd _ x _ h1 h2
  rw [List.take_append_drop] at this
  rw [this]
  unfold insM
  simp
theorem ins_srt (l : List Ep) : l.foldl insM [] = srt soLt l := by
  induction l using snoc_ind with
  | h0 => rfl
  | h1 l a ih =>
    rw [List.foldl_append, ih, srt_snoc]
    exact ins_mrg _ _ (srt_srt soOrd l)
theorem cMakeR (n b t : Int) (l : List Ep) (hs : l.length ≤ 500000) : Contract Try.prog 22 [I n, I b, I t, .sl 6 (l.map Ep.row)] [] (Bk.v ⟨n, b, t, srt soLt l⟩) [] := by
  rw [← ins_srt]
  exact mo0 n b t l _ (moAll n b t l hs)

end Go.Proofs.Ytfpdlamjlbpmkaa

/- merge: one block of two. -/
namespace Go.Proofs.Ytfpdlamjlbpmkaa
open E
set_option maxRecDepth 100000
set_option linter.unusedVariables false
set_option linter.unusedSimpArgs false


def coS (A B R : List Ep) (i : Nat) : SL := ⟨[(6, .own 0), (25, .sl 1 [[.sl 6 (A.map Ep.row)], [.sl 6 (B.map Ep.row)]]), (26, I 2), (27, I (i : Int))], [(0, .arr 6 (R.map Ep.row))], [0]⟩
def maxI (a b : Int) : Int := bif decide (a ≥ b) then a else b
noncomputable def coB : Code := codeAt Try.prog 21 [true, true, true, true, false, true, false, false]

theorem gr0_0   : Contract Try.prog 31 [.nil, I 0] [] (V.own (0 : Nat)) ([some (Obj.arr (6 : Nat) [])]) :=
  vcP hmix [.reg 6 [(0, [.idx 6], none)]] [1201000] [
      ] (by kernel_rfl)
    trivial

theorem gr0   : Contract Try.prog 31 [.nil, I 0] [] (.own 0) [some (.arr 6 [])] := by
  exact Contract.cast (by
    first
      | rfl) (by
    first
      | rfl) (gr0_0   )

theorem grP_0 (n : Nat) (h : 0 < n) (hn : n ≤ 1000000) : Contract Try.prog 31 [.nil, I (n : Int)] [] (V.own (0 : Nat)) ([some (Obj.arr (6 : Nat) [])]) :=
  vcP hmix [.reg 1 [(1, [], some false)], .reg 3 [(5, [.be (I 0)], none), (6, [.be (I ((n : Nat) : Int))], none)], .reg 4 [(1, [], some true)], .reg 5 [(0, [.idx 6, .idx 2, .idx 0], none), (3, [.idx 0], none), (8, [.idx 0], none), (9, [.idx 0], none)]] [1010000] [
      false = false,
      (0 : Int) = (0 : Int),
      IntKind.wrap IntKind.i64 (Int.ofNat n) = Int.ofNat n,
      decide (Int.ofNat n > (0 : Int)) = true,
      (0 : Int) ≤ (0 : Int),
      (0 : Int) ≤ (0 : Int),
      (0 : Nat) ≤ (0 : Nat),
      (0 : Nat) ≤ (0 : Nat),
      (0 : Int) ≤ Int.ofNat n,
      (0 : Nat) < (0 : Nat) + n,
      ((0 : Nat) + n) * (64 : Nat) ≤ (140737488355328 : Nat),
      (0 : Int) ≤ (0 : Int),
      (0 : Int) ≤ (0 : Int),
      (0 : Nat) ≤ List.length (List.replicate n [V.val (Value.int IntKind.u64 (0 : Int)), V.val (Value.int IntKind.u64 (0 : Int)), I (0 : Int), I (0 : Int), Bo false, V.nil]),
      (0 : Nat) ≤ List.length (List.replicate n [V.val (Value.int IntKind.u64 (0 : Int)), V.val (Value.int IntKind.u64 (0 : Int)), I (0 : Int), I (0 : Int), Bo false, V.nil])] (by kernel_rfl)
    (by
      simp only [allP]
      and_intros <;> first
        | omega
        | (simp; omega)
        | exact i64_small (by simp; omega)
        | (simp; done))

theorem grP (n : Nat) (h : 0 < n) (hn : n ≤ 1000000) : Contract Try.prog 31 [.nil, I (n : Int)] [] (.own 0) [some (.arr 6 [])] := by
  exact Contract.cast (by
    first
      | rfl) (by
    first
      | rfl) (grP_0 n h hn )

theorem cGrow (n : Nat) (hn : n ≤ 1000000) : Contract Try.prog 31 [.nil, I (n : Int)] [] (.own 0) [some (.arr 6 [])] := by
  by_cases h : n = 0
  · subst h; exact gr0
  · exact grP n (by omega) hn

theorem coA_0 (A B R : List Ep) (hA : A.length ≤ 1000000) (hB : B.length ≤ 1000000) (hR : R.length ≤ 1000000) : CodeC Try.prog 0 36 coB (coS A B R 0) (Ex.normal) ({ env := [((6 : Nat), V.own (0 : Nat)), ((25 : Nat), V.sl (1 : Nat) [[V.sl (6 : Nat) (List.map Ep.row A)], [V.sl (6 : Nat) (List.map Ep.row B)]]), ((26 : Nat), I (2 : Int)), ((27 : Nat), I (1 : Int))], st := [((0 : Nat), Obj.arr (6 : Nat) (List.map Ep.row (R ++ A)))], ids := [(0 : Nat)] }) :=
  runP hmix [.reg 13 [(2, [.beO ((R ++ A).map Ep.row)], none)]] ⟨[6, 25, 26, 27], [(2603000, 0)], []⟩ [
      (0 : Int) ≤ (0 : Int),
      (0 : Int) < (2 : Int),
      (List.length (List.map Ep.row R) + List.length (List.map Ep.row A)) * (64 : Nat) ≤ (140737488355328 : Nat),
      List.map Ep.row R ++ List.map Ep.row A = List.map Ep.row (R ++ A)] (by kernel_rfl)
    (by
      simp only [allP]
      and_intros <;> first
        | omega
        | (simp; omega)
        | (simp; done))

theorem coA (A B R : List Ep) (hA : A.length ≤ 1000000) (hB : B.length ≤ 1000000) (hR : R.length ≤ 1000000)  : CodeC Try.prog 0 36 coB (coS A B R 0) .normal (coS A B (R ++ A) 1) := by
  exact CodeC.cast (by
    first
      | rfl) (coA_0 A B R hA hB hR )

theorem coB1_0 (A B R : List Ep) (hA : A.length ≤ 1000000) (hB : B.length ≤ 1000000) (hR : R.length ≤ 1000000) : CodeC Try.prog 0 36 coB (coS A B R 1) (Ex.normal) ({ env := [((6 : Nat), V.own (0 : Nat)), ((25 : Nat), V.sl (1 : Nat) [[V.sl (6 : Nat) (List.map Ep.row A)], [V.sl (6 : Nat) (List.map Ep.row B)]]), ((26 : Nat), I (2 : Int)), ((27 : Nat), I (2 : Int))], st := [((0 : Nat), Obj.arr (6 : Nat) (List.map Ep.row (R ++ B)))], ids := [(0 : Nat)] }) :=
  runP hmix [.reg 13 [(2, [.beO ((R ++ B).map Ep.row)], none)]] ⟨[6, 25, 26, 27], [(2603000, 0)], []⟩ [
      (0 : Int) ≤ (1 : Int),
      (1 : Int) < (2 : Int),
      (List.length (List.map Ep.row R) + List.length (List.map Ep.row B)) * (64 : Nat) ≤ (140737488355328 : Nat),
      List.map Ep.row R ++ List.map Ep.row B = List.map Ep.row (R ++ B)] (by kernel_rfl)
    (by
      simp only [allP]
      and_intros <;> first
        | omega
        | (simp; omega)
        | (simp; done))

theorem coB1 (A B R : List Ep) (hA : A.length ≤ 1000000) (hB : B.length ≤ 1000000) (hR : R.length ≤ 1000000)  : CodeC Try.prog 0 36 coB (coS A B R 1) .normal (coS A B (R ++ B) 2) := by
  exact CodeC.cast (by
    first
      | rfl) (coB1_0 A B R hA hB hR )

theorem coE_0 (A B R : List Ep)  : CodeC Try.prog 0 36 coB (coS A B R 2) (Ex.exit (2 : Nat)) ({ env := [((6 : Nat), V.own (0 : Nat)), ((25 : Nat), V.sl (1 : Nat) [[V.sl (6 : Nat) (List.map Ep.row A)], [V.sl (6 : Nat) (List.map Ep.row B)]]), ((26 : Nat), I (2 : Int)), ((27 : Nat), I (2 : Int))], st := [((0 : Nat), Obj.arr (6 : Nat) (List.map Ep.row R))], ids := [(0 : Nat)] }) :=
  runP hmix [] ⟨[6, 25, 26, 27], [(0, 0)], []⟩ [
      ] (by kernel_rfl)
    trivial

theorem coE (A B R : List Ep)   : CodeC Try.prog 0 36 coB (coS A B R 2) (.exit 2) (coS A B R 2) := by
  exact CodeC.cast (by
    first
      | rfl) (coE_0 A B R  )

theorem cConcat_0 (A B : List Ep) (hA : A.length ≤ 250000) (hB : B.length ≤ 250000) : Contract Try.prog 21 [.sl 1 [[.sl 6 (A.map Ep.row)], [.sl 6 (B.map Ep.row)]]] [] (V.sl (6 : Nat) (List.map Ep.row (A ++ B))) ([]) :=
  vcP hmix [.unroll 3, .reg 5 [(2, [.be (I (A.length : Int))], none), (3, [.be (I ((A.length : Nat) : Int))], none)], .reg 6 [(1, [], some false)], .reg 5 [(2, [.be (I (B.length : Int))], none), (3, [.be (I ((A.length + B.length : Nat) : Int))], none)], .reg 6 [(1, [], some false)], .reg 9 [(1, [.idx 0, .call [] [] (.own 0) [some (.arr 6 [])]], none)], .cut ⟨[6, 25, 26, 27], [(1802001, 0)], []⟩ (.exit 2) (coS A B (A ++ B) 2), .reg 15 [(0, [.idx 1], none)]] [] [
      (0 : Int) ≤ (0 : Int),
      (0 : Int) < (2 : Int),
      Int.ofNat (List.length (List.map Ep.row A)) = Int.ofNat (List.length A),
      IntKind.wrap IntKind.i64 (Int.ofNat ((0 : Nat) + List.length A)) = Int.ofNat (List.length A),
      false = false,
      (0 : Int) ≤ (1 : Int),
      (1 : Int) < (2 : Int),
      Int.ofNat (List.length (List.map Ep.row B)) = Int.ofNat (List.length B),
      IntKind.wrap IntKind.i64 (Int.ofNat (List.length A + List.length B)) = Int.ofNat (List.length A + List.length B),
      false = false,
      Contract Try.prog (31 : Nat) [V.nil, I (Int.ofNat (List.length A + List.length B))] [] (V.own (0 : Nat)) [some (Obj.arr (6 : Nat) [])],
      LoopC Try.prog (0 : Nat) (36 : Nat) coB { env := [((6 : Nat), V.own (0 : Nat)), ((25 : Nat), V.sl (1 : Nat) [[V.sl (6 : Nat) (List.map Ep.row A)], [V.sl (6 : Nat) (List.map Ep.row B)]]), ((26 : Nat), I (2 : Int)), ((27 : Nat), I (0 : Int))], st := [((0 : Nat), Obj.arr (6 : Nat) [])], ids := [(0 : Nat)] } (Ex.exit (2 : Nat)) { env := [((6 : Nat), V.own (0 : Nat)), ((25 : Nat), V.sl (1 : Nat) [[V.sl (6 : Nat) (List.map Ep.row A)], [V.sl (6 : Nat) (List.map Ep.row B)]]), ((26 : Nat), I (2 : Int)), ((27 : Nat), I (2 : Int))], st := [((0 : Nat), Obj.arr (6 : Nat) (List.map Ep.row (A ++ B)))], ids := [(0 : Nat)] }] (by kernel_rfl)
    (by
      simp only [allP]
      and_intros <;> first
        | omega
        | (simp; done)
        | exact i64_small (by simp; omega)
        | (rw [i64_small (by simp; omega)]; simp; done)
        | exact cGrow _ (by omega)
        | exact LoopC.next (coA A B [] (by omega) (by omega) (by simp)) (LoopC.next (coB1 A B A (by omega) (by omega) (by omega)) (LoopC.last (coE A B (A ++ B)) (by simp))))

theorem cConcat (A B : List Ep) (hA : A.length ≤ 250000) (hB : B.length ≤ 250000) : Contract Try.prog 21 [.sl 1 [[.sl 6 (A.map Ep.row)], [.sl 6 (B.map Ep.row)]]] [] (.sl 6 ((A ++ B).map Ep.row)) [] := by
  exact Contract.cast (by
    first
      | rfl) (by
    first
      | rfl) (cConcat_0 A B hA hB )

end Go.Proofs.Ytfpdlamjlbpmkaa

/- merge: two blocks become one; which two. -/
namespace Go.Proofs.Ytfpdlamjlbpmkaa
open E
set_option maxRecDepth 100000
set_option linter.unusedVariables false
set_option linter.unusedSimpArgs false


/-- Two blocks are one. -/
def joinM (a b : Bk) (n : Int) : Bk := ⟨n, maxI a.born b.born, IntKind.i64.wrap (maxI a.tier b.tier + 1), srt soLt (a.eps ++ b.eps)⟩
theorem cJoin_0 (a b : Bk) (n : Int) (hA : a.eps.length ≤ 250000) (hB : b.eps.length ≤ 250000) (hm : ∀ e ∈ a.eps ++ b.eps, smE e) : Contract Try.prog 12 [a.v, b.v, I n] [] (V.agg [I n, I (maxI (Bk.born a) (Bk.born b)), I (IntKind.wrap IntKind.i64 (maxI (Bk.tier a) (Bk.tier b) + (1 : Int))), V.sl (6 : Nat) (List.map Ep.row (srt soLt (Bk.eps a ++ Bk.eps b)))]) ([]) :=
  vcP hmix [.reg 1 [(5, [.be (I (maxI a.born b.born))], none), (10, [.be (I (maxI a.tier b.tier))], none), (17, [.call [] [217000] (.sl 6 ((a.eps ++ b.eps).map Ep.row)) []], none), (18, [.call [] [] (Bk.v (joinM a b n)) []], none)]] [] [
      (if Bk.born b > Bk.born a then Bk.born b else Bk.born a) = maxI (Bk.born a) (Bk.born b),
      (if Bk.tier b > Bk.tier a then Bk.tier b else Bk.tier a) = maxI (Bk.tier a) (Bk.tier b),
      Contract Try.prog (21 : Nat) [V.sl (1 : Nat) [[V.sl (6 : Nat) (List.map Ep.row (Bk.eps a))], [V.sl (6 : Nat) (List.map Ep.row (Bk.eps b))]]] [] (V.sl (6 : Nat) (List.map Ep.row (Bk.eps a ++ Bk.eps b))) [],
      Contract Try.prog (20 : Nat) [I n, I (maxI (Bk.born a) (Bk.born b)), I (IntKind.wrap IntKind.i64 (maxI (Bk.tier a) (Bk.tier b) + (1 : Int))), V.sl (6 : Nat) (List.map Ep.row (Bk.eps a ++ Bk.eps b))] [] (V.agg (Bk.row { num := n, born := maxI (Bk.born a) (Bk.born b), tier := IntKind.wrap IntKind.i64 (maxI (Bk.tier a) (Bk.tier b) + (1 : Int)), eps := srt soLt (Bk.eps a ++ Bk.eps b) })) []] (by kernel_rfl)
    (by
      simp only [allP]
      and_intros <;> first
        | exact cConcat _ _ hA hB
        | exact mk0 _ _ _ _ (by simp; omega) hm
        | (unfold maxI; simp only [Bool.cond_eq_ite]; (repeat' split) <;> simp_all <;> omega))

theorem cJoin (a b : Bk) (n : Int) (hA : a.eps.length ≤ 250000) (hB : b.eps.length ≤ 250000) (hm : ∀ e ∈ a.eps ++ b.eps, smE e) : Contract Try.prog 12 [a.v, b.v, I n] [] (Bk.v (joinM a b n)) [] := by
  exact Contract.cast (by
    first
      | rfl) (by
    first
      | rfl) (cJoin_0 a b n hA hB hm )


/-- Which two blocks, up to one. -/
def pickStep (l : List Bk) (i : Nat) (s : Bool × Nat × Nat) : Bool × Nat × Nat := match l[i]? with
  | none => s
  | some x => match (l.drop (i + 1)).findIdx? (pT x) with
    | none => s
    | some j => match s.1, l[s.2.1]? with
      | true, some y => bif decide (x.tier < y.tier) then (true, i, i + 1 + j) else s
      | _, _ => (true, i, i + 1 + j)
def pickM (l : List Bk) : Bool × Nat × Nat := (List.range l.length).foldl (fun s i => pickStep l i s) (false, 0, 0)
theorem pick_in {l : List Bk} {s : Bool × Nat × Nat} {i : Nat} (h : s.1 = true → s.2.1 < s.2.2 ∧ s.2.2 < l.length ∧ ∃ x y, l[s.2.1]? = some x ∧ l[s.2.2]? = some y ∧ x.tier = y.tier) :
    (pickStep l i s).1 = true → (pickStep l i s).2.1 < (pickStep l i s).2.2 ∧ (pickStep l i s).2.2 < l.length ∧ ∃ x y, l[(pickStep l i s).2.1]? = some x ∧ l[(pickStep l i s).2.2]? = some y ∧ x.tier = y.tier := by
  unfold pickStep
  cases hx : l[i]? with
  | none => exact h
  | some x =>
    dsimp only
    cases hk : (l.drop (i + 1)).findIdx? (pT x) with
    | none => exact h
    | some j =>
      dsimp only
      obtain ⟨h1, h2, _⟩ := List.findIdx?_eq_some_iff_getElem.1 hk
      simp only [List.length_drop] at h1
      simp only [List.getElem_drop, pT, beq_iff_eq] at h2
      have new : i < i + 1 + j ∧ i + 1 + j < l.length ∧ ∃ u y, l[i]? = some u ∧ l[i + 1 + j]? = some y ∧ u.tier = y.tier :=
        ⟨by omega, by omega, x, l[i + 1 + j], hx, List.getElem?_eq_getElem (by omega), h2.symm⟩
      obtain ⟨f, a, b⟩ := s
      cases f with
      | false => intro _; exact new
      | true =>
        obtain ⟨g1, g2, u, y, g3, g4, g5⟩ := h rfl
        simp only [g3]
        cases hd : decide (x.tier < u.tier) with
        | true => intro _; exact new
        | false => intro _; exact ⟨g1, g2, u, y, g3, g4, g5⟩
theorem pick_inv (l : List Bk) (n : Nat) : let s := (List.range n).foldl (fun s i => pickStep l i s) (false, 0, 0); s.1 = true → s.2.1 < s.2.2 ∧ s.2.2 < l.length ∧ ∃ x y, l[s.2.1]? = some x ∧ l[s.2.2]? = some y ∧ x.tier = y.tier := by
  induction n with
  | zero => intro s h; simp [s] at h
  | succ n ih =>
    intro s
    simp only [s, List.range_succ, List.foldl_append, List.foldl_cons, List.foldl_nil]
    exact pick_in ih

end Go.Proofs.Ytfpdlamjlbpmkaa

/- blocks, by the reference: two together. -/
namespace Go.Proofs.Ytfpdlamjlbpmkaa
open E
set_option maxRecDepth 100000
set_option linter.unusedVariables false
set_option linter.unusedSimpArgs false

theorem maxI_eq (a b : Int) : (bif decide (b > a) then b else a) = maxI a b := by
  unfold maxI
  by_cases h : b > a <;> by_cases h2 : a ≥ b <;> simp [h, h2] <;> omega
theorem jr0_0 (a b : Bk) (n : Int) (hs : a.eps.length + b.eps.length ≤ 500000) (hb : decide (b.born > a.born) = true) (ht : decide (b.tier > a.tier) = true) : Contract Try.prog 13 [a.v, b.v, I n] [] (V.agg [I n, I (Bk.born b), I (IntKind.wrap IntKind.i64 (Bk.tier b + (1 : Int))), V.sl (6 : Nat) (List.map Ep.row (srt soLt (Bk.eps a ++ Bk.eps b)))]) ([]) :=
  vcP hmix [.reg 2 [(3, [], some true)], .reg 5 [(3, [], some true)], .reg 7 [(9, [.beO ((a.eps ++ b.eps).map Ep.row)], none), (10, [.call [] [1410000] (Bk.v ⟨n, b.born, IntKind.i64.wrap (b.tier + 1), srt soLt (a.eps ++ b.eps)⟩) []], none)]] [] [
      decide (Bk.born b > Bk.born a) = true,
      decide (Bk.tier b > Bk.tier a) = true,
      List.length (List.map Ep.row (Bk.eps a)) * (64 : Nat) ≤ (140737488355328 : Nat),
      (List.length (List.map Ep.row (Bk.eps a)) + List.length (List.map Ep.row (Bk.eps b))) * (64 : Nat) ≤ (140737488355328 : Nat),
      List.map Ep.row (Bk.eps a) ++ List.map Ep.row (Bk.eps b) = List.map Ep.row (Bk.eps a ++ Bk.eps b),
      Contract Try.prog (22 : Nat) [I n, I (Bk.born b), I (IntKind.wrap IntKind.i64 (Bk.tier b + (1 : Int))), V.sl (6 : Nat) (List.map Ep.row (Bk.eps a ++ Bk.eps b))] [] (V.agg (Bk.row { num := n, born := Bk.born b, tier := IntKind.wrap IntKind.i64 (Bk.tier b + (1 : Int)), eps := srt soLt (Bk.eps a ++ Bk.eps b) })) []] (by kernel_rfl)
    (by
      simp only [allP]
      and_intros <;> first
        | omega
        | exact cMakeR _ _ _ _ (by simp; omega)
        | (simp; omega)
        | (rw [List.map_append]; done))

theorem jr0 (a b : Bk) (n : Int) (hs : a.eps.length + b.eps.length ≤ 500000) (hb : decide (b.born > a.born) = true) (ht : decide (b.tier > a.tier) = true) : Contract Try.prog 13 [a.v, b.v, I n] [] (Bk.v ⟨n, b.born, IntKind.i64.wrap (b.tier + 1), srt soLt (a.eps ++ b.eps)⟩) [] := by
  exact Contract.cast (by
    first
      | rfl) (by
    first
      | rfl) (jr0_0 a b n hs hb ht )

theorem jr1_0 (a b : Bk) (n : Int) (hs : a.eps.length + b.eps.length ≤ 500000) (hb : decide (b.born > a.born) = true) (ht : decide (b.tier > a.tier) = false) : Contract Try.prog 13 [a.v, b.v, I n] [] (V.agg [I n, I (Bk.born b), I (IntKind.wrap IntKind.i64 (Bk.tier a + (1 : Int))), V.sl (6 : Nat) (List.map Ep.row (srt soLt (Bk.eps a ++ Bk.eps b)))]) ([]) :=
  vcP hmix [.reg 2 [(3, [], some true)], .reg 5 [(3, [], some false)], .reg 7 [(9, [.beO ((a.eps ++ b.eps).map Ep.row)], none), (10, [.call [] [1410000] (Bk.v ⟨n, b.born, IntKind.i64.wrap (a.tier + 1), srt soLt (a.eps ++ b.eps)⟩) []], none)]] [] [
      decide (Bk.born b > Bk.born a) = true,
      decide (Bk.tier b > Bk.tier a) = false,
      List.length (List.map Ep.row (Bk.eps a)) * (64 : Nat) ≤ (140737488355328 : Nat),
      (List.length (List.map Ep.row (Bk.eps a)) + List.length (List.map Ep.row (Bk.eps b))) * (64 : Nat) ≤ (140737488355328 : Nat),
      List.map Ep.row (Bk.eps a) ++ List.map Ep.row (Bk.eps b) = List.map Ep.row (Bk.eps a ++ Bk.eps b),
      Contract Try.prog (22 : Nat) [I n, I (Bk.born b), I (IntKind.wrap IntKind.i64 (Bk.tier a + (1 : Int))), V.sl (6 : Nat) (List.map Ep.row (Bk.eps a ++ Bk.eps b))] [] (V.agg (Bk.row { num := n, born := Bk.born b, tier := IntKind.wrap IntKind.i64 (Bk.tier a + (1 : Int)), eps := srt soLt (Bk.eps a ++ Bk.eps b) })) []] (by kernel_rfl)
    (by
      simp only [allP]
      and_intros <;> first
        | omega
        | exact cMakeR _ _ _ _ (by simp; omega)
        | (simp; omega)
        | (rw [List.map_append]; done))

theorem jr1 (a b : Bk) (n : Int) (hs : a.eps.length + b.eps.length ≤ 500000) (hb : decide (b.born > a.born) = true) (ht : decide (b.tier > a.tier) = false) : Contract Try.prog 13 [a.v, b.v, I n] [] (Bk.v ⟨n, b.born, IntKind.i64.wrap (a.tier + 1), srt soLt (a.eps ++ b.eps)⟩) [] := by
  exact Contract.cast (by
    first
      | rfl) (by
    first
      | rfl) (jr1_0 a b n hs hb ht )

theorem jr2_0 (a b : Bk) (n : Int) (hs : a.eps.length + b.eps.length ≤ 500000) (hb : decide (b.born > a.born) = false) (ht : decide (b.tier > a.tier) = true) : Contract Try.prog 13 [a.v, b.v, I n] [] (V.agg [I n, I (Bk.born a), I (IntKind.wrap IntKind.i64 (Bk.tier b + (1 : Int))), V.sl (6 : Nat) (List.map Ep.row (srt soLt (Bk.eps a ++ Bk.eps b)))]) ([]) :=
  vcP hmix [.reg 2 [(3, [], some false)], .reg 5 [(3, [], some true)], .reg 7 [(9, [.beO ((a.eps ++ b.eps).map Ep.row)], none), (10, [.call [] [1410000] (Bk.v ⟨n, a.born, IntKind.i64.wrap (b.tier + 1), srt soLt (a.eps ++ b.eps)⟩) []], none)]] [] [
      decide (Bk.born b > Bk.born a) = false,
      decide (Bk.tier b > Bk.tier a) = true,
      List.length (List.map Ep.row (Bk.eps a)) * (64 : Nat) ≤ (140737488355328 : Nat),
      (List.length (List.map Ep.row (Bk.eps a)) + List.length (List.map Ep.row (Bk.eps b))) * (64 : Nat) ≤ (140737488355328 : Nat),
      List.map Ep.row (Bk.eps a) ++ List.map Ep.row (Bk.eps b) = List.map Ep.row (Bk.eps a ++ Bk.eps b),
      Contract Try.prog (22 : Nat) [I n, I (Bk.born a), I (IntKind.wrap IntKind.i64 (Bk.tier b + (1 : Int))), V.sl (6 : Nat) (List.map Ep.row (Bk.eps a ++ Bk.eps b))] [] (V.agg (Bk.row { num := n, born := Bk.born a, tier := IntKind.wrap IntKind.i64 (Bk.tier b + (1 : Int)), eps := srt soLt (Bk.eps a ++ Bk.eps b) })) []] (by kernel_rfl)
    (by
      simp only [allP]
      and_intros <;> first
        | omega
        | exact cMakeR _ _ _ _ (by simp; omega)
        | (simp; omega)
        | (rw [List.map_append]; done))

theorem jr2 (a b : Bk) (n : Int) (hs : a.eps.length + b.eps.length ≤ 500000) (hb : decide (b.born > a.born) = false) (ht : decide (b.tier > a.tier) = true) : Contract Try.prog 13 [a.v, b.v, I n] [] (Bk.v ⟨n, a.born, IntKind.i64.wrap (b.tier + 1), srt soLt (a.eps ++ b.eps)⟩) [] := by
  exact Contract.cast (by
    first
      | rfl) (by
    first
      | rfl) (jr2_0 a b n hs hb ht )

theorem jr3_0 (a b : Bk) (n : Int) (hs : a.eps.length + b.eps.length ≤ 500000) (hb : decide (b.born > a.born) = false) (ht : decide (b.tier > a.tier) = false) : Contract Try.prog 13 [a.v, b.v, I n] [] (V.agg [I n, I (Bk.born a), I (IntKind.wrap IntKind.i64 (Bk.tier a + (1 : Int))), V.sl (6 : Nat) (List.map Ep.row (srt soLt (Bk.eps a ++ Bk.eps b)))]) ([]) :=
  vcP hmix [.reg 2 [(3, [], some false)], .reg 5 [(3, [], some false)], .reg 7 [(9, [.beO ((a.eps ++ b.eps).map Ep.row)], none), (10, [.call [] [1410000] (Bk.v ⟨n, a.born, IntKind.i64.wrap (a.tier + 1), srt soLt (a.eps ++ b.eps)⟩) []], none)]] [] [
      decide (Bk.born b > Bk.born a) = false,
      decide (Bk.tier b > Bk.tier a) = false,
      List.length (List.map Ep.row (Bk.eps a)) * (64 : Nat) ≤ (140737488355328 : Nat),
      (List.length (List.map Ep.row (Bk.eps a)) + List.length (List.map Ep.row (Bk.eps b))) * (64 : Nat) ≤ (140737488355328 : Nat),
      List.map Ep.row (Bk.eps a) ++ List.map Ep.row (Bk.eps b) = List.map Ep.row (Bk.eps a ++ Bk.eps b),
      Contract Try.prog (22 : Nat) [I n, I (Bk.born a), I (IntKind.wrap IntKind.i64 (Bk.tier a + (1 : Int))), V.sl (6 : Nat) (List.map Ep.row (Bk.eps a ++ Bk.eps b))] [] (V.agg (Bk.row { num := n, born := Bk.born a, tier := IntKind.wrap IntKind.i64 (Bk.tier a + (1 : Int)), eps := srt soLt (Bk.eps a ++ Bk.eps b) })) []] (by kernel_rfl)
    (by
      simp only [allP]
      and_intros <;> first
        | omega
        | exact cMakeR _ _ _ _ (by simp; omega)
        | (simp; omega)
        | (rw [List.map_append]; done))

theorem jr3 (a b : Bk) (n : Int) (hs : a.eps.length + b.eps.length ≤ 500000) (hb : decide (b.born > a.born) = false) (ht : decide (b.tier > a.tier) = false) : Contract Try.prog 13 [a.v, b.v, I n] [] (Bk.v ⟨n, a.born, IntKind.i64.wrap (a.tier + 1), srt soLt (a.eps ++ b.eps)⟩) [] := by
  exact Contract.cast (by
    first
      | rfl) (by
    first
      | rfl) (jr3_0 a b n hs hb ht )

theorem cJoinR (a b : Bk) (n : Int) (hs : a.eps.length + b.eps.length ≤ 500000) : Contract Try.prog 13 [a.v, b.v, I n] [] (Bk.v (joinM a b n)) [] := by
  unfold joinM
  rw [← maxI_eq, ← maxI_eq]
  rcases tf (decide (b.born > a.born)) with h1 | h1 <;> rcases tf (decide (b.tier > a.tier)) with h2 | h2 <;> rw [h1, h2]
  · exact jr0 a b n hs h1 h2
  · exact jr1 a b n hs h1 h2
  · exact jr2 a b n hs h1 h2
  · exact jr3 a b n hs h1 h2

end Go.Proofs.Ytfpdlamjlbpmkaa

/- blocks, by the reference: what one has of a trace. -/
namespace Go.Proofs.Ytfpdlamjlbpmkaa
open E
set_option maxRecDepth 100000
set_option linter.unusedVariables false
set_option linter.unusedSimpArgs false

def eqT (h o : Int) (e : Ep) : Bool := e.hi == h && e.lo == o
def fbS (b : Bk) (h o : Int) (R : List Ep) (i : Nat) : SL := ⟨[(2, .ptr 1000 0 0 0), (3, .ptr 2000 0 0 0), (5, .own 0), (6, I (i : Int))], [(1000, .box b.row), (2000, .box [U h, U o]), (0, .arr 6 (R.map Ep.row))], [1000, 2000, 0]⟩
noncomputable def fbB : Code := codeAt Try.prog 15 [true, true, false, true, false, false]

theorem fbY_0 (b : Bk) (h o : Int) (R : List Ep) (x : Ep) (i : Nat) (hx : b.eps[i]? = some x) (hi : i < b.eps.length) (hs : b.eps.length ≤ 1000000) (hR : R.length ≤ 1000000) (hb : eqT h o x = true) : CodeC Try.prog 0 31 fbB (fbS b h o R i) (Ex.normal) ({ env := [((2 : Nat), V.ptr (1000 : Nat) (0 : Nat) (0 : Nat) (0 : Nat)), ((3 : Nat), V.ptr (2000 : Nat) (0 : Nat) (0 : Nat) (0 : Nat)), ((5 : Nat), V.own (0 : Nat)), ((6 : Nat), I (Int.ofNat (i + (1 : Nat))))], st := [((1000 : Nat), Obj.box [I (Bk.num b), I (Bk.born b), I (Bk.tier b), V.sl (6 : Nat) (List.map Ep.row (Bk.eps b))]), ((2000 : Nat), Obj.box [V.val (Value.int IntKind.u64 h), V.val (Value.int IntKind.u64 o)]), ((0 : Nat), Obj.arr (6 : Nat) (List.map Ep.row (R ++ [x])))], ids := [(1000 : Nat), (2000 : Nat), (0 : Nat)] }) :=
  runP hmix [.reg 3 [(4, [], some true)], .reg 5 [(5, [.row (Ep.row x)], none), (7, [], some true)], .reg 6 [(5, [.row (Ep.row x)], none), (7, [.beO ((R ++ [x]).map Ep.row)], none)], .reg 4 [(1, [.be (I ((i + 1 : Nat) : Int))], none)]] ⟨[2, 3, 5, 6], [(1000, 1000), (2000, 2000), (1208000, 0)], []⟩ [
      decide (Int.ofNat i < Int.ofNat (List.length (List.map Ep.row (Bk.eps b)))) = true,
      (0 : Int) ≤ Int.ofNat i,
      Int.ofNat i < Int.ofNat (List.length (List.map Ep.row (Bk.eps b))),
      (List.map Ep.row (Bk.eps b))[i]? = some (Ep.row x),
      (decide (Ep.hi x = h) && (decide (Ep.lo x = o) && true)) = true,
      (0 : Int) ≤ Int.ofNat i,
      Int.ofNat i < Int.ofNat (List.length (List.map Ep.row (Bk.eps b))),
      (List.map Ep.row (Bk.eps b))[i]? = some (Ep.row x),
      (List.length (List.map Ep.row R) + (1 : Nat)) * (64 : Nat) ≤ (140737488355328 : Nat),
      List.map Ep.row R ++ [[V.val (Value.int IntKind.u64 (Ep.hi x)), V.val (Value.int IntKind.u64 (Ep.lo x)), I (Ep.first x), I (Ep.last x), Bo (Ep.sure x), V.sl (10 : Nat) (List.map Sp.row (Ep.spans x))]] = List.map Ep.row (R ++ [x]),
      IntKind.wrap IntKind.i64 (Int.ofNat (i + (1 : Nat))) = Int.ofNat (i + (1 : Nat))] (by kernel_rfl)
    (by
      simp only [allP]
      and_intros <;> first
        | (simp; omega)
        | (simp [hx]; done)
        | exact i64_small (by simp; omega)
        | (rw [List.map_append]; rfl)
        | (unfold eqT at hb; simp at hb ⊢; exact hb))

theorem fbY (b : Bk) (h o : Int) (R : List Ep) (x : Ep) (i : Nat) (hx : b.eps[i]? = some x) (hi : i < b.eps.length) (hs : b.eps.length ≤ 1000000) (hR : R.length ≤ 1000000) (hb : eqT h o x = true)  : CodeC Try.prog 0 31 fbB (fbS b h o R i) .normal (fbS b h o (R ++ [x]) (i + 1)) := by
  exact CodeC.cast (by
    first
      | rfl) (fbY_0 b h o R x i hx hi hs hR hb )

theorem fbN_0 (b : Bk) (h o : Int) (R : List Ep) (x : Ep) (i : Nat) (hx : b.eps[i]? = some x) (hi : i < b.eps.length) (hs : b.eps.length ≤ 1000000) (hR : R.length ≤ 1000000) (hb : eqT h o x = false) : CodeC Try.prog 0 31 fbB (fbS b h o R i) (Ex.normal) ({ env := [((2 : Nat), V.ptr (1000 : Nat) (0 : Nat) (0 : Nat) (0 : Nat)), ((3 : Nat), V.ptr (2000 : Nat) (0 : Nat) (0 : Nat) (0 : Nat)), ((5 : Nat), V.own (0 : Nat)), ((6 : Nat), I (Int.ofNat (i + (1 : Nat))))], st := [((1000 : Nat), Obj.box [I (Bk.num b), I (Bk.born b), I (Bk.tier b), V.sl (6 : Nat) (List.map Ep.row (Bk.eps b))]), ((2000 : Nat), Obj.box [V.val (Value.int IntKind.u64 h), V.val (Value.int IntKind.u64 o)]), ((0 : Nat), Obj.arr (6 : Nat) (List.map Ep.row R))], ids := [(1000 : Nat), (2000 : Nat), (0 : Nat)] }) :=
  runP hmix [.reg 3 [(4, [], some true)], .reg 5 [(5, [.row (Ep.row x)], none), (7, [], some false)], .reg 4 [(1, [.be (I ((i + 1 : Nat) : Int))], none)]] ⟨[2, 3, 5, 6], [(1000, 1000), (2000, 2000), (0, 0)], []⟩ [
      decide (Int.ofNat i < Int.ofNat (List.length (List.map Ep.row (Bk.eps b)))) = true,
      (0 : Int) ≤ Int.ofNat i,
      Int.ofNat i < Int.ofNat (List.length (List.map Ep.row (Bk.eps b))),
      (List.map Ep.row (Bk.eps b))[i]? = some (Ep.row x),
      (decide (Ep.hi x = h) && (decide (Ep.lo x = o) && true)) = false,
      IntKind.wrap IntKind.i64 (Int.ofNat (i + (1 : Nat))) = Int.ofNat (i + (1 : Nat))] (by kernel_rfl)
    (by
      simp only [allP]
      and_intros <;> first
        | (simp; omega)
        | (simp [hx]; done)
        | exact i64_small (by simp; omega)
        | (unfold eqT at hb; simp at hb ⊢; exact hb))

theorem fbN (b : Bk) (h o : Int) (R : List Ep) (x : Ep) (i : Nat) (hx : b.eps[i]? = some x) (hi : i < b.eps.length) (hs : b.eps.length ≤ 1000000) (hR : R.length ≤ 1000000) (hb : eqT h o x = false)  : CodeC Try.prog 0 31 fbB (fbS b h o R i) .normal (fbS b h o R (i + 1)) := by
  exact CodeC.cast (by
    first
      | rfl) (fbN_0 b h o R x i hx hi hs hR hb )

theorem fbE_0 (b : Bk) (h o : Int) (R : List Ep) (i : Nat) (hi : b.eps.length ≤ i) : CodeC Try.prog 0 31 fbB (fbS b h o R i) (Ex.exit (0 : Nat)) ({ env := [((2 : Nat), V.ptr (1000 : Nat) (0 : Nat) (0 : Nat) (0 : Nat)), ((3 : Nat), V.ptr (2000 : Nat) (0 : Nat) (0 : Nat) (0 : Nat)), ((5 : Nat), V.own (0 : Nat)), ((6 : Nat), I (Int.ofNat i))], st := [((1000 : Nat), Obj.box [I (Bk.num b), I (Bk.born b), I (Bk.tier b), V.sl (6 : Nat) (List.map Ep.row (Bk.eps b))]), ((2000 : Nat), Obj.box [V.val (Value.int IntKind.u64 h), V.val (Value.int IntKind.u64 o)]), ((0 : Nat), Obj.arr (6 : Nat) (List.map Ep.row R))], ids := [(1000 : Nat), (2000 : Nat), (0 : Nat)] }) :=
  runP hmix [.reg 3 [(4, [], some false)]] ⟨[2, 3, 5, 6], [(1000, 1000), (2000, 2000), (0, 0)], []⟩ [
      decide (Int.ofNat i < Int.ofNat (List.length (List.map Ep.row (Bk.eps b)))) = false] (by kernel_rfl)
    (by
      simp only [allP]
      and_intros <;> first
        | (simp; omega))

theorem fbE (b : Bk) (h o : Int) (R : List Ep) (i : Nat) (hi : b.eps.length ≤ i)  : CodeC Try.prog 0 31 fbB (fbS b h o R i) (.exit 0) (fbS b h o R i) := by
  exact CodeC.cast (by
    first
      | rfl) (fbE_0 b h o R i hi )

theorem foldl_filter {α : Type} (p : α → Bool) : ∀ (l R : List α), l.foldl (fun R x => bif p x then R ++ [x] else R) R = R ++ l.filter p
  | [], R => by simp
  | x :: l, R => by
    rw [List.foldl_cons, foldl_filter p l, List.filter_cons]
    cases h : p x <;> simp
theorem fbAll (b : Bk) (h o : Int) (hs : b.eps.length ≤ 1000000) : LoopC Try.prog 0 31 fbB (fbS b h o [] 0) (.exit 0) (fbS b h o (b.eps.filter (eqT h o)) b.eps.length) := by
  have := LoopC.fold b.eps (fun R x => bif eqT h o x then R ++ [x] else R) (fun i R => R.length ≤ i) (fun R i => fbS b h o R i) (P := Try.prog) (k := 0) (n := 31) (c := fbB) (e := .exit 0) (by simp)
    (fun i R x hx hi hR => by
      cases hb : eqT h o x with
      | true => exact ⟨fbY b h o R x i hx hi hs (by omega) hb, by simp; omega⟩
      | false => exact ⟨fbN b h o R x i hx hi hs (by omega) hb, by simp; omega⟩)
    (fun R _ => fbE b h o R _ (Nat.le_refl _)) [] (Nat.le_refl _)
  rw [foldl_filter, List.nil_append] at this
  exact this

theorem fb0_0 (b : Bk) (h o : Int) (R : List Ep) (hl : LoopC Try.prog 0 31 fbB (fbS b h o [] 0) (.exit 0) (fbS b h o R b.eps.length)) : Contract Try.prog 15 [b.v, .agg [U h, U o]] [] (V.sl (6 : Nat) (List.map Ep.row R)) ([]) :=
  vcP hmix [.cut ⟨[2, 3, 5, 6], [(1000, 1000), (2000, 2000)], [.slot 5 0 6]⟩ (.exit 0) (fbS b h o R b.eps.length)] [] [
      LoopC Try.prog (0 : Nat) (31 : Nat) fbB { env := [((2 : Nat), V.ptr (1000 : Nat) (0 : Nat) (0 : Nat) (0 : Nat)), ((3 : Nat), V.ptr (2000 : Nat) (0 : Nat) (0 : Nat) (0 : Nat)), ((5 : Nat), V.own (0 : Nat)), ((6 : Nat), I (0 : Int))], st := [((1000 : Nat), Obj.box [I (Bk.num b), I (Bk.born b), I (Bk.tier b), V.sl (6 : Nat) (List.map Ep.row (Bk.eps b))]), ((2000 : Nat), Obj.box [V.val (Value.int IntKind.u64 h), V.val (Value.int IntKind.u64 o)]), ((0 : Nat), Obj.arr (6 : Nat) [])], ids := [(1000 : Nat), (2000 : Nat), (0 : Nat)] } (Ex.exit (0 : Nat)) { env := [((2 : Nat), V.ptr (1000 : Nat) (0 : Nat) (0 : Nat) (0 : Nat)), ((3 : Nat), V.ptr (2000 : Nat) (0 : Nat) (0 : Nat) (0 : Nat)), ((5 : Nat), V.own (0 : Nat)), ((6 : Nat), I (Int.ofNat (List.length (Bk.eps b))))], st := [((1000 : Nat), Obj.box (Bk.row b)), ((2000 : Nat), Obj.box [V.val (Value.int IntKind.u64 h), V.val (Value.int IntKind.u64 o)]), ((0 : Nat), Obj.arr (6 : Nat) (List.map Ep.row R))], ids := [(1000 : Nat), (2000 : Nat), (0 : Nat)] }] (by kernel_rfl)
    (by
      simp only [allP]
      and_intros <;> first
        | exact hl)

theorem fb0 (b : Bk) (h o : Int) (R : List Ep) (hl : LoopC Try.prog 0 31 fbB (fbS b h o [] 0) (.exit 0) (fbS b h o R b.eps.length)) : Contract Try.prog 15 [b.v, .agg [U h, U o]] [] (.sl 6 (R.map Ep.row)) [] := by
  exact Contract.cast (by
    first
      | rfl) (by
    first
      | rfl) (fb0_0 b h o R hl )

theorem cFindR (b : Bk) (h o : Int) (hs : b.eps.length ≤ 1000000) : Contract Try.prog 15 [b.v, .agg [U h, U o]] [] (.sl 6 ((b.eps.filter (eqT h o)).map Ep.row)) [] := fb0 b h o _ (fbAll b h o hs)

end Go.Proofs.Ytfpdlamjlbpmkaa

