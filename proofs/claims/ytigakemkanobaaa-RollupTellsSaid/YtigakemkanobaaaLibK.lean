/- Things counted one by one in a list that stands in order: the plain law. -/
import Derived.Test.YtigakemkanobaaaLibS
namespace Go.Proofs.Ytigakemkanobaaa
set_option linter.unusedVariables false
set_option linter.unusedSimpArgs false

/-- A way to compare. -/
structure Ord3 {α : Type} (c : α → α → Int) : Prop where
  flip : ∀ a b, c b a = - c a b
  trans : ∀ {a b d}, c a b < 0 → c b d < 0 → c a d < 0
  same : ∀ {a b}, c a b = 0 → ∀ d, c a d = c b d

theorem Ord3.self {α : Type} {c : α → α → Int} (h : Ord3 c) (a : α) : c a a = 0 := by have := h.flip a a; omega

theorem Ord3.lex {α : Type} {f g : α → α → Int} (hf : Ord3 f) (hg : Ord3 g) : Ord3 (fun a b => orI (f a b) (g a b)) := by
  have nz : ∀ {x y : Int}, x ≠ 0 → orI x y = x := fun {x y} h => by
    have : (x != 0) = true := by simp [h]
    simp [orI, this]
  have z : ∀ {y : Int}, orI 0 y = y := fun {y} => rfl
  refine ⟨fun a b => ?_, fun {a b d} h k => ?_, fun {a b} h d => ?_⟩
  · show orI (f b a) (g b a) = - orI (f a b) (g a b)
    rw [hf.flip a b, hg.flip a b]
    by_cases e : f a b = 0
    · rw [e]; rfl
    · rw [nz e, nz (by omega)]
  · show orI (f a d) (g a d) < 0
    have h : orI (f a b) (g a b) < 0 := h
    have k : orI (f b d) (g b d) < 0 := k
    by_cases e : f a b = 0
    · rw [e, z] at h
      by_cases e2 : f b d = 0
      · rw [e2, z] at k
        rw [hf.same e d, e2, z]
        exact hg.trans h k
      · rw [nz e2] at k
        rw [hf.same e d, nz e2]; exact k
    · rw [nz e] at h
      by_cases e2 : f b d = 0
      · have : f a d = f a b := by
          have h1 := hf.flip d a; have h2 := hf.flip b a
          have h3 := hf.same (a := d) (b := b) (by have := hf.flip b d; omega) a
          omega
        rw [this, nz e]; exact h
      · rw [nz e2] at k
        have := hf.trans h k
        rw [nz (by omega)]; exact this
  · show orI (f a d) (g a d) = orI (f b d) (g b d)
    have h : orI (f a b) (g a b) = 0 := h
    by_cases e : f a b = 0
    · rw [e, z] at h
      rw [hf.same e d, hg.same h d]
    · rw [nz e] at h; exact absurd h e

theorem Ord3.of {α β : Type} {c : β → β → Int} (h : Ord3 c) (f : α → β) : Ord3 (fun a b => c (f a) (f b)) :=
  ⟨fun a b => h.flip _ _, fun h1 h2 => h.trans h1 h2, fun h1 d => h.same h1 _⟩

theorem ord_S : Ord3 cmpS := ⟨fun a b => cmpS_flip a b, fun {a b d} h k => cmpS_neg.2 (ltS_trans (cmpS_neg.1 h) (cmpS_neg.1 k)), fun h d => by rw [cmpS_zero.1 h]⟩

def cmpZ (a b : Int) : Int := bif decide (a < b) then -1 else bif decide (a > b) then 1 else 0
theorem cmpZ_cases (a b : Int) : (a < b ∧ cmpZ a b = -1) ∨ (a = b ∧ cmpZ a b = 0) ∨ (b < a ∧ cmpZ a b = 1) := by
  unfold cmpZ
  by_cases h : a < b
  · left; simp [h]
  · by_cases k : b < a
    · right; right; simp [h, k]
    · right; left; exact ⟨by omega, by simp [h, k]⟩
theorem ord_Z : Ord3 cmpZ := by
  refine ⟨fun a b => ?_, fun {a b d} h k => ?_, fun {a b} h d => ?_⟩
  · rcases cmpZ_cases a b with ⟨h, e⟩ | ⟨h, e⟩ | ⟨h, e⟩ <;> rcases cmpZ_cases b a with ⟨k, f⟩ | ⟨k, f⟩ | ⟨k, f⟩ <;> omega
  · rcases cmpZ_cases a b with ⟨h1, e⟩ | ⟨h1, e⟩ | ⟨h1, e⟩ <;> rcases cmpZ_cases b d with ⟨k1, f⟩ | ⟨k1, f⟩ | ⟨k1, f⟩ <;> rcases cmpZ_cases a d with ⟨l1, g⟩ | ⟨l1, g⟩ | ⟨l1, g⟩ <;> omega
  · rcases cmpZ_cases a b with ⟨h1, e⟩ | ⟨h1, e⟩ | ⟨h1, e⟩
    · omega
    · rw [h1]
    · omega

section
variable {α : Type} (c : α → α → Int)
/-- Things in order, each key once. -/
def SortedK (l : List α) : Prop := l.Pairwise (fun a b => c a b < 0)
/-- A thing counted: where there is one of its key, that one is bumped; else the key is, and stands where it has to. -/
def insK (key : α) (b : α → α) : List α → List α
  | [] => [b key]
  | y :: ys => if c y key = 0 then b y :: ys else if 0 < c y key then b key :: y :: ys else y :: insK key b ys
/-- Bumping leaves the key. -/
def Keeps (b : α → α) : Prop := ∀ x d, c (b x) d = c x d
variable {c}
theorem Keeps.right (h : Ord3 c) {b : α → α} (hb : Keeps c b) (x d : α) : c d (b x) = c d x := by
  have h1 := h.flip (b x) d; have h2 := h.flip x d; have h3 := hb x d; omega

theorem mem_insK {key : α} {b : α → α} : ∀ {l : List α} {z : α}, z ∈ insK c key b l → z = b key ∨ ∃ y ∈ l, z = y ∨ z = b y
  | [], z, h => by
    simp only [insK, List.mem_singleton] at h
    exact .inl h
  | y :: ys, z, h => by
    unfold insK at h
    split at h
    · rcases List.mem_cons.1 h with rfl | h
      · exact .inr ⟨y, by simp, .inr rfl⟩
      · exact .inr ⟨z, by simp [h], .inl rfl⟩
    · split at h
      · rcases List.mem_cons.1 h with rfl | h
        · exact .inl rfl
        · exact .inr ⟨z, h, .inl rfl⟩
      · rcases List.mem_cons.1 h with rfl | h
        · exact .inr ⟨z, by simp, .inl rfl⟩
        · rcases mem_insK h with h | ⟨y', h1, h2⟩
          · exact .inl h
          · exact .inr ⟨y', by simp [h1], h2⟩

theorem sorted_insK (ho : Ord3 c) {key : α} {b : α → α} (hb : Keeps c b) : ∀ {l : List α}, SortedK c l → SortedK c (insK c key b l)
  | [], h => by simp [insK, SortedK]
  | y :: ys, h => by
    have h' := List.pairwise_cons.1 h
    unfold insK
    split
    · exact List.pairwise_cons.2 ⟨fun z hz => by rw [hb]; exact h'.1 z hz, h'.2⟩
    · rename_i hz0
      split
      · rename_i hz
        have e : c (b key) y < 0 := by
          have := ho.flip y key
          have := hb key y
          omega
        refine List.pairwise_cons.2 ⟨fun z hz' => ?_, h⟩
        rcases List.mem_cons.1 hz' with rfl | hz'
        · exact e
        · exact ho.trans e (h'.1 z hz')
      · refine List.pairwise_cons.2 ⟨fun z hz' => ?_, sorted_insK ho hb h'.2⟩
        rcases mem_insK hz' with rfl | ⟨y', h1, rfl | rfl⟩
        · rw [hb.right ho]; omega
        · exact h'.1 _ h1
        · rw [hb.right ho]; exact h'.1 y' h1

/-- By two searches, an insertion and a bump. -/
theorem insK_find (ho : Ord3 c) {key : α} {b : α → α} : ∀ {l : List α}, SortedK c l →
    insK c key b l = match l.findIdx? (fun y => c y key == 0) with
      | some j => l.modify j b
      | none => (l.take ((l.findIdx? (fun y => decide (c y key > 0))).getD l.length) ++ key :: l.drop ((l.findIdx? (fun y => decide (c y key > 0))).getD l.length)).modify ((l.findIdx? (fun y => decide (c y key > 0))).getD l.length) b
  | [], _ => rfl
  | y :: ys, h => by
    have h' := List.pairwise_cons.1 h
    have ih := insK_find ho (key := key) (b := b) h'.2
    unfold insK
    by_cases h0 : c y key = 0
    · rw [if_pos h0]
      simp [List.findIdx?_cons, h0]
    · rw [if_neg h0]
      have h1 : (c y key == 0) = false := by simp [h0]
      by_cases hg : 0 < c y key
      · rw [if_pos hg]
        have h2 : decide (c y key > 0) = true := by simp [hg]
        have h3 : ys.findIdx? (fun y => c y key == 0) = none := by
          rw [List.findIdx?_eq_none_iff]
          intro z hz
          have a := h'.1 z hz
          have b := ho.flip y key
          have c1 := ho.trans (a := key) (b := y) (d := z) (by omega) a
          have d := ho.flip z key
          simp; omega
        simp [List.findIdx?_cons, h1, h2, h3]
      · rw [if_neg hg]
        have h2 : decide (c y key > 0) = false := by simp; omega
        rw [ih]
        simp only [List.findIdx?_cons, h1, h2, Bool.false_eq_true, if_false]
        cases hf : ys.findIdx? (fun y => c y key == 0) with
        | some j => simp
        | none =>
          cases hq : ys.findIdx? (fun y => decide (c y key > 0)) with
          | some j => simp
          | none => simp

/-- Two things counted, in whichever order. -/
theorem insK_swap (ho : Ord3 c) {P Q : α} {p q : α → α} (hp : Keeps c p) (hq : Keeps c q) (hpq : ∀ x, p (q x) = q (p x)) (hk : c P Q = 0 → P = Q) : ∀ l : List α, insK c Q q (insK c P p l) = insK c P p (insK c Q q l)
  | [] => by
    simp only [insK]
    have hf := ho.flip P Q
    have e1 : c (p P) Q = c P Q := hp P Q
    have e2 : c (q Q) P = c Q P := hq Q P
    by_cases h0 : c P Q = 0
    · have e := hk h0
      subst e
      simp only [e1, e2, h0, if_true, hpq]
    · by_cases h1 : 0 < c P Q
      · simp only [e1, e2, h0, h1, if_true, if_false, show ¬ c Q P = 0 by omega, show ¬ 0 < c Q P by omega]
      · simp only [e1, e2, h0, h1, if_true, if_false, show ¬ c Q P = 0 by omega, show 0 < c Q P by omega]
  | y :: ys => by
    have ih := insK_swap ho hp hq hpq hk ys
    have hf := ho.flip P Q
    have hy1 := ho.flip y P
    have hy2 := ho.flip y Q
    have k1 : ∀ d, c (p P) d = c P d := hp P
    have k2 : ∀ d, c (q Q) d = c Q d := hq Q
    have k3 : ∀ d, c (p y) d = c y d := hp y
    have k4 : ∀ d, c (q y) d = c y d := hq y
    by_cases a0 : c y P = 0
    · have ep : c y Q = c P Q := ho.same a0 Q
      by_cases b0 : c y Q = 0
      · simp only [insK, a0, b0, k3, k4, if_true, hpq]
      · by_cases b1 : 0 < c y Q
        · simp only [insK, a0, b0, b1, k1, k2, k3, k4, if_true, if_false, show ¬ c Q P = 0 by omega, show ¬ 0 < c Q P by omega]
        · simp only [insK, a0, b0, b1, k1, k2, k3, k4, if_true, if_false]
    · by_cases a1 : 0 < c y P
      · by_cases b0 : c y Q = 0
        · have eq : c y P = c Q P := ho.same b0 P
          simp only [insK, a0, a1, b0, k1, k2, k3, k4, if_true, if_false, show ¬ c P Q = 0 by omega, show ¬ 0 < c P Q by omega]
        · by_cases b1 : 0 < c y Q
          · by_cases c0 : c P Q = 0
            · have e2 := hk c0
              subst e2
              simp only [insK, a0, a1, k1, k2, k3, k4, c0, if_true, if_false, hpq]
            · by_cases c1 : 0 < c P Q
              · simp only [insK, a0, a1, b0, b1, k1, k2, k3, k4, if_true, if_false, c0, c1, show ¬ c Q P = 0 by omega, show ¬ 0 < c Q P by omega]
              · simp only [insK, a0, a1, b0, b1, k1, k2, k3, k4, if_true, if_false, c0, c1, show ¬ c Q P = 0 by omega, show 0 < c Q P by omega]
          · have c1 := ho.trans (a := P) (b := y) (d := Q) (by omega) (by omega)
            simp only [insK, a0, a1, b0, b1, k1, k2, k3, k4, if_true, if_false, show ¬ c P Q = 0 by omega, show ¬ 0 < c P Q by omega]
      · by_cases b0 : c y Q = 0
        · simp only [insK, a0, a1, b0, k1, k2, k3, k4, if_true, if_false]
        · by_cases b1 : 0 < c y Q
          · have c1 := ho.trans (a := Q) (b := y) (d := P) (by omega) (by omega)
            simp only [insK, a0, a1, b0, b1, k1, k2, k3, k4, if_true, if_false, show ¬ c Q P = 0 by omega, show ¬ 0 < c Q P by omega]
          · simp only [insK, a0, a1, b0, b1, if_false, ih]
end

/-! ### numbers that count, none above the most -/

def inI (n : Int) : Prop := -9223372036854775808 ≤ n ∧ n ≤ 9223372036854775807
/-- What is told together. -/
def plusN (a b m : Int) : Int :=
  let m := if 0 < m then m else 0
  let a := if a < 0 then 0 else if m < a then m else a
  let b := if b < 0 then 0 else if m < b then m else b
  if m - a < b then m else a + b
theorem plusN_swap (a b c m : Int) : plusN (plusN a b m) c m = plusN (plusN a c m) b m := by
  unfold plusN
  simp only
  generalize hM : (if 0 < m then m else 0) = M
  have hM1 : 0 ≤ M := by subst hM; split <;> omega
  generalize hA : (if a < 0 then 0 else if M < a then M else a) = A
  generalize hB : (if b < 0 then 0 else if M < b then M else b) = B
  generalize hC : (if c < 0 then 0 else if M < c then M else c) = C
  have hA1 : 0 ≤ A ∧ A ≤ M := by subst hA; repeat' split
                                 all_goals omega
  have hB1 : 0 ≤ B ∧ B ≤ M := by subst hB; repeat' split
                                 all_goals omega
  have hC1 : 0 ≤ C ∧ C ≤ M := by subst hC; repeat' split
                                 all_goals omega
  clear hA hB hC hM
  repeat' split
  all_goals omega
end Go.Proofs.Ytigakemkanobaaa
namespace Go.Proofs.Ytigakemkanobaaa
set_option linter.unusedVariables false
set_option linter.unusedSimpArgs false
section
variable {α : Type} {c : α → α → Int}
/-- The thing of a key. -/
def getK (c : α → α → Int) (l : List α) (d : α) : Option α := l.find? (fun y => c y d == 0)
theorem getK_cons (y : α) (l : List α) (d : α) : getK c (y :: l) d = if c y d = 0 then some y else getK c l d := by
  unfold getK
  rw [List.find?_cons]
  by_cases h : c y d = 0
  · simp [h]
  · have : (c y d == 0) = false := by simp [h]
    rw [if_neg h, this]
theorem getK_none (ho : Ord3 c) {y d : α} {l : List α} (h : SortedK c (y :: l)) (hd : c y d = 0 ∨ 0 < c y d) : getK c l d = none := by
  unfold getK
  rw [List.find?_eq_none]
  intro z hz
  have h1 := (List.pairwise_cons.1 h).1 z hz
  have h2 := ho.flip y d
  have h3 := ho.flip z d
  rcases hd with hd | hd
  · have := ho.same hd z
    simp; omega
  · have := ho.trans (a := d) (b := y) (d := z) (by omega) h1
    simp; omega
theorem getK_insK (ho : Ord3 c) {key : α} {b : α → α} (hb : Keeps c b) (d : α) : ∀ {l : List α}, SortedK c l → getK c (insK c key b l) d = if c key d = 0 then some (b ((getK c l key).getD key)) else getK c l d
  | [], _ => by
    unfold insK
    rw [getK_cons, hb]
    rfl
  | y :: ys, h => by
    have h' := List.pairwise_cons.1 h
    have ih := getK_insK ho (key := key) hb d h'.2
    unfold insK
    by_cases h0 : c y key = 0
    · rw [if_pos h0, getK_cons, getK_cons, getK_cons, hb, if_pos h0, ho.same h0 d]
      by_cases hk : c key d = 0 <;> simp [hk]
    · rw [if_neg h0]
      by_cases h1 : 0 < c y key
      · rw [if_pos h1, getK_cons, hb, getK_cons y ys key, if_neg h0, getK_none ho h (.inr h1)]
        rfl
      · rw [if_neg h1, getK_cons, ih, getK_cons y ys key, if_neg h0, getK_cons y ys d]
        by_cases h2 : c y d = 0
        · have : c key d ≠ 0 := by
            intro hk
            have a1 := ho.same h2 key
            have a2 := ho.flip key d
            omega
          rw [if_pos h2, if_neg this, if_pos h2]
        · rw [if_neg h2, if_neg h2]
theorem getK_self (ho : Ord3 c) : ∀ {l : List α}, SortedK c l → ∀ {r : α}, r ∈ l → getK c l r = some r
  | y :: ys, h, r, hr => by
    have h' := List.pairwise_cons.1 h
    rw [getK_cons]
    rcases List.mem_cons.1 hr with rfl | hr
    · rw [if_pos (ho.self _)]
    · rw [if_neg (by have := h'.1 r hr; omega)]
      exact getK_self ho h'.2 hr

theorem rev_ind {β : Type} {P : List β → Prop} (h0 : P []) (h1 : ∀ l a, P l → P (l ++ [a])) (l : List β) : P l := by
  have : ∀ l : List β, P l.reverse := by
    intro l
    induction l with
    | nil => exact h0
    | cons a l ih => rw [List.reverse_cons]; exact h1 _ _ ih
  have h := this l.reverse
  rwa [List.reverse_reverse] at h
/-- Things counted, one by one: what stands there of a key. -/
theorem getK_fold (ho : Ord3 c) {β : Type} (key : β → α) (b : β → α → α) (hb : ∀ e, Keeps c (b e)) (d : α) : ∀ (es : List β), (∀ e ∈ es, ∀ f ∈ es, c (key e) (key f) = 0 → key e = key f) →
    SortedK c (es.foldl (fun l e => insK c (key e) (b e) l) []) ∧ ∀ d, getK c (es.foldl (fun l e => insK c (key e) (b e) l) []) d = match es.filter (fun e => c (key e) d == 0) with
      | [] => none
      | e :: r => some ((e :: r).foldl (fun z e => b e z) (key e)) := by
  refine rev_ind ?_ ?_
  · intro _; exact ⟨List.Pairwise.nil, fun d => rfl⟩
  · intro es e ih hk
    obtain ⟨ih1, ih2⟩ := ih (fun x hx y hy => hk x (by simp [hx]) y (by simp [hy]))
    rw [List.foldl_append]
    refine ⟨sorted_insK ho (hb e) ih1, fun d => ?_⟩
    show getK c (insK c (key e) (b e) _) d = _
    rw [getK_insK ho (hb e) d ih1, ih2 d, ih2 (key e), List.filter_append]
    by_cases h : c (key e) d = 0
    · rw [if_pos h]
      have hf : es.filter (fun f => c (key f) d == 0) = es.filter (fun f => c (key f) (key e) == 0) := by
        refine List.filter_congr fun f _ => ?_
        have a1 := ho.same h (key f)
        have a2 := ho.flip (key f) (key e)
        have a3 := ho.flip (key f) d
        have e2 : c (key f) d = c (key f) (key e) := by omega
        rw [e2]
      rw [hf]
      cases hes : es.filter (fun f => c (key f) (key e) == 0) with
      | nil => simp [h]
      | cons f r => simp [h]
    · rw [if_neg h]
      simp [h]
end

/-- Ones counted, none above the most. -/
theorem plus_ones (m : Int) : ∀ (l : List Int) (v : Int), (∀ x ∈ l, x = 0 ∨ x = 1) → 0 ≤ v → v ≤ (if 0 < m then m else 0) →
    l.foldl (fun v x => plusN v x m) v = if (if 0 < m then m else 0) < v + l.sum then (if 0 < m then m else 0) else v + l.sum
  | [], v, _, h0, h1 => by simp; omega
  | x :: l, v, hx, h0, h1 => by
    rw [List.foldl_cons, List.sum_cons]
    generalize hM : (if 0 < m then m else 0) = M at h1
    have hM0 : 0 ≤ M := by omega
    have hs : 0 ≤ l.sum := by
      clear h1 hM
      have : ∀ l : List Int, (∀ x ∈ l, x = 0 ∨ x = 1) → 0 ≤ l.sum := by
        intro l
        induction l with
        | nil => intro _; simp
        | cons a l ih => intro h; rw [List.sum_cons]; have := ih (fun x hx => h x (by simp [hx])); rcases h a (by simp) with e | e <;> omega
      exact this l (fun y hy => hx y (by simp [hy]))
    have hx' := hx x (by simp)
    have e : plusN v x m = if M < v + x then M else v + x := by
      unfold plusN
      simp only
      rw [hM]
      rcases hx' with rfl | rfl
      · repeat' split
        all_goals omega
      · repeat' split
        all_goals omega
    rw [e]
    have ih := plus_ones m l (if M < v + x then M else v + x) (fun y hy => hx y (by simp [hy])) (by split <;> omega) (by rw [hM]; split <;> omega)
    rw [ih, hM]
    repeat' split
    all_goals omega
end Go.Proofs.Ytigakemkanobaaa
