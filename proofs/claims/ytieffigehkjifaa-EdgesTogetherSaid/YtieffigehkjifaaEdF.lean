/- edges: the plain law: calls are counted in whichever order. -/
import Derived.Test.YtieffigehkjifaaEdE
namespace Go.Proofs.Ytieffigehkjifaa
open E
set_option linter.unusedVariables false
set_option linter.unusedSimpArgs false

def inI (n : Int) : Prop := -9223372036854775808 ≤ n ∧ n ≤ 9223372036854775807

/-- What is told together. -/
def plusN (a b m : Int) : Int :=
  let m := if 0 < m then m else 0
  let a := if a < 0 then 0 else if m < a then m else a
  let b := if b < 0 then 0 else if m < b then m else b
  if m - a < b then m else a + b

theorem plusR_eq {a b m : Int} (hm : inI m) : plusR a b m = plusN a b m := by
  unfold inI at hm
  have h1 : ∀ m a : Int, 0 ≤ m → m ≤ 9223372036854775807 → mx 0 (mn a m) = (if a < 0 then 0 else if m < a then m else a) := by
    intro m a h1 h2
    unfold mx mn
    repeat' split
    all_goals omega
  have h0 : mx 0 m = if 0 < m then m else 0 := rfl
  unfold plusR plusN
  simp only [h0]
  generalize hM : (if 0 < m then m else 0) = M
  have hM1 : 0 ≤ M ∧ M ≤ 9223372036854775807 := by subst hM; split <;> omega
  rw [h1 M a hM1.1 hM1.2, h1 M b hM1.1 hM1.2]
  generalize hA : (if a < 0 then 0 else if M < a then M else a) = A
  generalize hB : (if b < 0 then 0 else if M < b then M else b) = B
  have hA1 : 0 ≤ A ∧ A ≤ M := by subst hA; repeat' split
                                 all_goals omega
  have hB1 : 0 ≤ B ∧ B ≤ M := by subst hB; repeat' split
                                 all_goals omega
  rw [i64_small (n := M - A) (by omega)]
  unfold mn
  split
  · rw [i64_small (by omega)]; omega
  · rw [i64_small (by omega)]

theorem plusN_swap (a b c m : Int) : plusN (plusN a b m) c m = plusN (plusN a c m) b m := by
  unfold plusN
  simp only
  generalize hM : (if 0 < m then m else 0) = M
  have hM1 : 0 ≤ M := by subst hM; split <;> omega
  generalize hA : (if a < 0 then 0 else if M < a then M else a) = A
  generalize hB : (if b < 0 then 0 else if M < b then M else b) = B
  generalize hC : (if c < 0 then 0 else if M < c then M else c) = C
  have hA1 : 0 ≤ A ∧ A ≤ M := by subst hA; repeat' split
                                 all_goals omega
  have hB1 : 0 ≤ B ∧ B ≤ M := by subst hB; repeat' split
                                 all_goals omega
  have hC1 : 0 ≤ C ∧ C ≤ M := by subst hC; repeat' split
                                 all_goals omega
  clear hA hB hC hM
  repeat' split
  all_goals omega

/-! ### the order of edges -/

theorem cmpD_zero {a b : Ed} : cmpD a b = 0 ↔ a.fr = b.fr ∧ a.to = b.to := by
  unfold cmpD orI
  by_cases h : cmpS a.fr b.fr = 0
  · rw [h]
    simp only [bne_self_eq_false, cond_false, cmpS_zero]
    exact ⟨fun k => ⟨cmpS_zero.1 h, k⟩, fun k => k.2⟩
  · have : (cmpS a.fr b.fr != 0) = true := by simp [h]
    rw [this]
    simp only [cond_true]
    exact ⟨fun k => absurd k h, fun k => absurd (cmpS_zero.2 k.1) h⟩
theorem cmpD_neg {a b : Ed} : cmpD a b < 0 ↔ ltS a.fr b.fr = true ∨ a.fr = b.fr ∧ ltS a.to b.to = true := by
  unfold cmpD orI
  by_cases h : cmpS a.fr b.fr = 0
  · rw [h]
    have e := cmpS_zero.1 h
    simp only [bne_self_eq_false, cond_false, cmpS_neg]
    constructor
    · exact fun k => .inr ⟨e, k⟩
    · rintro (k | k)
      · rw [e, ltS_irrefl] at k; cases k
      · exact k.2
  · have : (cmpS a.fr b.fr != 0) = true := by simp [h]
    rw [this]
    simp only [cond_true, cmpS_neg]
    constructor
    · exact .inl
    · rintro (k | k)
      · exact k
      · exact absurd (cmpS_zero.2 k.1) h
theorem cmpD_flip (a b : Ed) : cmpD b a = - cmpD a b := by
  unfold cmpD orI
  rw [cmpS_flip a.fr b.fr, cmpS_flip a.to b.to]
  by_cases h : cmpS a.fr b.fr = 0
  · rw [h]; rfl
  · have h1 : (cmpS a.fr b.fr != 0) = true := by simp [h]
    have h2 : (- cmpS a.fr b.fr != 0) = true := by simp; omega
    rw [h1, h2]
    rfl
theorem cmpD_trans {a b c : Ed} (h : cmpD a b < 0) (k : cmpD b c < 0) : cmpD a c < 0 := by
  rw [cmpD_neg] at h k ⊢
  rcases h with h | ⟨e, h⟩
  · rcases k with k | ⟨f, k⟩
    · exact .inl (ltS_trans h k)
    · exact .inl (f ▸ h)
  · rcases k with k | ⟨f, k⟩
    · exact .inl (e ▸ k)
    · exact .inr ⟨e.trans f, ltS_trans h k⟩
theorem cmpD_key {a b c d : Ed} (h1 : a.fr = b.fr) (h2 : a.to = b.to) (h3 : c.fr = d.fr) (h4 : c.to = d.to) : cmpD a c = cmpD b d := by
  unfold cmpD; rw [h1, h2, h3, h4]

/-- Edges in order. -/
def SortedE (l : List Ed) : Prop := l.Pairwise (fun a b => cmpD a b < 0)
theorem SortedE.next {l : List Ed} (h : SortedE l) : nextE l := by
  intro j y x hy hx
  have h1 := (List.getElem?_eq_some_iff.1 hx).1
  have k := List.pairwise_iff_getElem.1 h j (j + 1) (by omega) h1 (by omega)
  rw [(List.getElem?_eq_some_iff.1 hy).2, (List.getElem?_eq_some_iff.1 hx).2] at k
  rcases cmpD_neg.1 k with k | ⟨e, k⟩
  · refine .inl ⟨ltS_asymm k, ?_⟩
    cases hb : x.fr.toList == y.fr.toList with
    | false => rfl
    | true =>
      have hb : x.fr.toList = y.fr.toList := by simpa using hb
      have := (ltS_iff _ _).1 k
      rw [hb] at this
      exact absurd this (by have := ltS_irrefl y.fr; intro hh; rw [(ltS_iff _ _).2 hh] at this; cases this)
  · refine .inr ⟨by rw [e]; exact ltS_irrefl _, by rw [e]; simp, ?_⟩
    rw [ltS_asymm k, Bool.false_or]
    cases hb : x.to.toList == y.to.toList with
    | false => rfl
    | true =>
      have hb : x.to.toList = y.to.toList := by simpa using hb
      have := (ltS_iff _ _).1 k
      rw [hb] at this
      exact absurd this (by have := ltS_irrefl y.to; intro hh; rw [(ltS_iff _ _).2 hh] at this; cases this)

/-! ### counting, one by one -/

def cntR (key : Ed) (err : Bool) (m : Int) : List Ed → List Ed
  | [] => [bumpE m err key]
  | y :: ys => if cmpD y key = 0 then bumpE m err y :: ys else if 0 < cmpD y key then bumpE m err key :: y :: ys else y :: cntR key err m ys

theorem mem_cntR {key : Ed} {err : Bool} {m : Int} : ∀ {l : List Ed} {z : Ed}, z ∈ cntR key err m l → (z.fr = key.fr ∧ z.to = key.to) ∨ ∃ y ∈ l, z.fr = y.fr ∧ z.to = y.to
  | [], z, h => by
    simp only [cntR, List.mem_singleton] at h
    subst h
    exact .inl ⟨rfl, rfl⟩
  | y :: ys, z, h => by
    unfold cntR at h
    split at h
    · rcases List.mem_cons.1 h with rfl | h
      · exact .inr ⟨y, by simp, rfl, rfl⟩
      · exact .inr ⟨z, by simp [h], rfl, rfl⟩
    · split at h
      · rcases List.mem_cons.1 h with rfl | h
        · exact .inl ⟨rfl, rfl⟩
        · exact .inr ⟨z, h, rfl, rfl⟩
      · rcases List.mem_cons.1 h with rfl | h
        · exact .inr ⟨z, by simp, rfl, rfl⟩
        · rcases mem_cntR h with h | ⟨y', h1, h2⟩
          · exact .inl h
          · exact .inr ⟨y', by simp [h1], h2⟩

theorem sorted_cntR {key : Ed} {err : Bool} {m : Int} : ∀ {l : List Ed}, SortedE l → SortedE (cntR key err m l)
  | [], h => by simp [cntR, SortedE]
  | y :: ys, h => by
    have h' := List.pairwise_cons.1 h
    unfold cntR
    split
    · exact List.pairwise_cons.2 ⟨fun z hz => h'.1 z hz, h'.2⟩
    · rename_i hz0
      split
      · rename_i hz
        refine List.pairwise_cons.2 ⟨fun z hz' => ?_, h⟩
        have e : cmpD (bumpE m err key) y < 0 := by
          have := cmpD_flip y key
          have e2 : cmpD (bumpE m err key) y = cmpD key y := cmpD_key rfl rfl rfl rfl
          omega
        rcases List.mem_cons.1 hz' with rfl | hz'
        · exact e
        · exact cmpD_trans e (h'.1 z hz')
      · refine List.pairwise_cons.2 ⟨fun z hz' => ?_, sorted_cntR h'.2⟩
        rcases mem_cntR hz' with ⟨a, b⟩ | ⟨y', h1, h2, h3⟩
        · rw [cmpD_key (b := y) (d := key) rfl rfl a b]; omega
        · rw [cmpD_key (b := y) (d := y') rfl rfl h2 h3]; exact h'.1 y' h1

theorem countE_eq {key : Ed} {err : Bool} {m : Int} : ∀ {l : List Ed}, SortedE l → countE l key err m = cntR key err m l
  | [], _ => rfl
  | y :: ys, h => by
    have h' := List.pairwise_cons.1 h
    have ih := countE_eq (key := key) (err := err) (m := m) h'.2
    unfold cntR
    by_cases h0 : cmpD y key = 0
    · rw [if_pos h0]
      have : pEq key y = true := by simp [pEq, h0]
      simp [countE, List.findIdx?_cons, this]
    · rw [if_neg h0]
      have h1 : pEq key y = false := by simp [pEq, h0]
      by_cases hg : 0 < cmpD y key
      · rw [if_pos hg]
        have h2 : pGt key y = true := by simp [pGt, hg]
        have h3 : ys.findIdx? (pEq key) = none := by
          rw [List.findIdx?_eq_none_iff]
          intro z hz
          have a := h'.1 z hz
          have b := cmpD_flip y key
          have c := cmpD_trans (a := key) (b := y) (c := z) (by omega) a
          have d := cmpD_flip z key
          simp [pEq]; omega
        simp [countE, List.findIdx?_cons, h1, h2, h3, insE]
      · rw [if_neg hg]
        have h2 : pGt key y = false := by simp [pGt]; omega
        rw [← ih]
        unfold countE
        simp only [List.findIdx?_cons, h1, h2, Bool.false_eq_true, if_false]
        cases hf : ys.findIdx? (pEq key) with
        | some j => simp
        | none =>
          cases hq : ys.findIdx? (pGt key) with
          | some j => simp [insE]
          | none => simp [insE]

theorem bump_swap {m : Int} (hm : inI m) (e1 e2 : Bool) (y : Ed) : bumpE m e1 (bumpE m e2 y) = bumpE m e2 (bumpE m e1 y) := by
  unfold bumpE
  simp only [plusR_eq hm]
  rw [plusN_swap y.errs]

theorem key_eq {a b : ByteArray × ByteArray} (h : cmpD (Ed.mk a.1 a.2 0 0) (Ed.mk b.1 b.2 0 0) = 0) : a = b := by
  obtain ⟨h1, h2⟩ := cmpD_zero.1 h
  exact Prod.ext h1 h2

/-- A call: who calls whom, and whether it went wrong. -/
def cntK (m : Int) (l : List Ed) (k : (ByteArray × ByteArray) × Bool) : List Ed := cntR (Ed.mk k.1.1 k.1.2 0 0) k.2 m l

theorem cmp_b (m : Int) (e : Bool) (y k : Ed) : cmpD (bumpE m e y) k = cmpD y k := cmpD_key rfl rfl rfl rfl

theorem cnt_swap {m : Int} (hm : inI m) (p q : (ByteArray × ByteArray) × Bool) : ∀ l : List Ed, cntK m (cntK m l p) q = cntK m (cntK m l q) p
  | [] => by
    unfold cntK
    simp only [cntR, cmp_b]
    have hpq : cmpD (Ed.mk p.1.1 p.1.2 0 0) (Ed.mk q.1.1 q.1.2 0 0) = 0 → p.1 = q.1 := key_eq
    generalize hP : Ed.mk p.1.1 p.1.2 0 0 = P at hpq ⊢
    generalize hQ : Ed.mk q.1.1 q.1.2 0 0 = Q at hpq ⊢
    have hf := cmpD_flip P Q
    by_cases h0 : cmpD P Q = 0
    · have e : P = Q := by rw [← hP, ← hQ, hpq h0]
      subst e
      simp only [h0, if_true, bump_swap hm]
    · by_cases h1 : 0 < cmpD P Q
      · simp only [h0, h1, if_true, if_false, show ¬ cmpD Q P = 0 by omega, show ¬ 0 < cmpD Q P by omega]
      · simp only [h0, h1, if_true, if_false, show ¬ cmpD Q P = 0 by omega, show 0 < cmpD Q P by omega]
  | y :: ys => by
    have ih := cnt_swap hm p q ys
    unfold cntK at ih ⊢
    generalize hP : Ed.mk p.1.1 p.1.2 0 0 = P at ih ⊢
    generalize hQ : Ed.mk q.1.1 q.1.2 0 0 = Q at ih ⊢
    have hf := cmpD_flip P Q
    have hy1 := cmpD_flip y P
    have hy2 := cmpD_flip y Q
    by_cases a0 : cmpD y P = 0
    · have ep : cmpD y Q = cmpD P Q := by
        obtain ⟨h1, h2⟩ := cmpD_zero.1 a0
        exact cmpD_key h1 h2 rfl rfl
      by_cases b0 : cmpD y Q = 0
      · simp only [cntR, a0, b0, cmp_b, if_true, bump_swap hm]
      · by_cases b1 : 0 < cmpD y Q
        · simp only [cntR, a0, b0, b1, cmp_b, if_true, if_false, show ¬ cmpD Q P = 0 by omega, show ¬ 0 < cmpD Q P by omega]
        · simp only [cntR, a0, b0, b1, cmp_b, if_true, if_false]
    · by_cases a1 : 0 < cmpD y P
      · by_cases b0 : cmpD y Q = 0
        · have eq : cmpD y P = cmpD Q P := by
            obtain ⟨h1, h2⟩ := cmpD_zero.1 b0
            exact cmpD_key h1 h2 rfl rfl
          simp only [cntR, a0, a1, b0, cmp_b, if_true, if_false, show ¬ cmpD P Q = 0 by omega, show ¬ 0 < cmpD P Q by omega]
        · by_cases b1 : 0 < cmpD y Q
          · by_cases c0 : cmpD P Q = 0
            · have e : p.1 = q.1 := key_eq (by rw [hP, hQ]; exact c0)
              have e2 : P = Q := by rw [← hP, ← hQ, e]
              subst e2
              simp only [cntR, a0, a1, cmp_b, c0, if_true, if_false, bump_swap hm]
            · by_cases c1 : 0 < cmpD P Q
              · simp only [cntR, a0, a1, b0, b1, cmp_b, if_true, if_false, c0, c1, show ¬ cmpD Q P = 0 by omega, show ¬ 0 < cmpD Q P by omega]
              · simp only [cntR, a0, a1, b0, b1, cmp_b, if_true, if_false, c0, c1, show ¬ cmpD Q P = 0 by omega, show 0 < cmpD Q P by omega]
          · have c := cmpD_trans (a := P) (b := y) (c := Q) (by omega) (by omega)
            simp only [cntR, a0, a1, b0, b1, cmp_b, if_true, if_false, show ¬ cmpD P Q = 0 by omega, show ¬ 0 < cmpD P Q by omega]
      · by_cases b0 : cmpD y Q = 0
        · simp only [cntR, a0, a1, b0, cmp_b, if_true, if_false]
        · by_cases b1 : 0 < cmpD y Q
          · have c := cmpD_trans (a := Q) (b := y) (c := P) (by omega) (by omega)
            simp only [cntR, a0, a1, b0, b1, cmp_b, if_true, if_false, show ¬ cmpD Q P = 0 by omega, show ¬ 0 < cmpD Q P by omega]
          · simp only [cntR, a0, a1, b0, b1, cmp_b, if_false, ih]

/-! ### batches -/

/-- The call that a span of a batch is. -/
def evK (b : List Sp) (s : Sp) : Option ((ByteArray × ByteArray) × Bool) := bif rightS s then (bif (callerS b s).2 then some (((callerS b s).1, s.svc), s.err) else none) else none
def evs (b c : List Sp) : List ((ByteArray × ByteArray) × Bool) := c.filterMap (evK b)

theorem sorted_foldK {m : Int} : ∀ (ks : List ((ByteArray × ByteArray) × Bool)) (l : List Ed), SortedE l → SortedE (ks.foldl (cntK m) l)
  | [], l, h => h
  | k :: ks, l, h => sorted_foldK ks _ (sorted_cntR h)

theorem foldE_eq (b : List Sp) (m : Int) : ∀ (c : List Sp) (l : List Ed), SortedE l → c.foldl (stepE b m) l = (evs b c).foldl (cntK m) l
  | [], l, _ => rfl
  | s :: c, l, h => by
    unfold evs
    rw [List.foldl_cons, List.filterMap_cons]
    unfold stepE evK
    cases h1 : rightS s with
    | false => simp only [cond_false]; exact foldE_eq b m c l h
    | true =>
      cases h2 : (callerS b s).2 with
      | false => simp only [cond_true, cond_false]; exact foldE_eq b m c l h
      | true =>
        simp only [cond_true, List.foldl_cons]
        rw [countE_eq h]
        exact foldE_eq b m c _ (sorted_cntR h)

theorem addE_eq {l : List Ed} (h : SortedE l) (b : List Sp) (m : Int) : addE l b m = (evs b b).foldl (cntK m) l := foldE_eq b m b l h
theorem sorted_addE {l : List Ed} (h : SortedE l) (b : List Sp) (m : Int) : SortedE (addE l b m) := by
  rw [addE_eq h]; exact sorted_foldK _ _ h
theorem sorted_nil : SortedE [] := List.Pairwise.nil

theorem foldK_perm {m : Int} (hm : inI m) {ks ks' : List ((ByteArray × ByteArray) × Bool)} (h : ks.Perm ks') (l : List Ed) : ks.foldl (cntK m) l = ks'.foldl (cntK m) l :=
  h.foldl_eq' (fun p _ q _ z => cnt_swap hm p q z) l

/-- EdgesAny's law. -/
theorem edges_any {m : Int} (hm : inI m) (a b c : List Sp) : addE (addE (addE [] c m) a m) b m = addE (addE (addE [] a m) b m) c m := by
  have s1 := sorted_addE sorted_nil a m
  have s2 := sorted_addE s1 b m
  have t1 := sorted_addE sorted_nil c m
  have t2 := sorted_addE t1 a m
  rw [addE_eq s2, addE_eq s1, addE_eq sorted_nil a, addE_eq t2, addE_eq t1, addE_eq sorted_nil c]
  rw [← List.foldl_append, ← List.foldl_append, ← List.foldl_append, ← List.foldl_append]
  refine foldK_perm hm ?_ []
  rw [← List.append_assoc (evs a a) (evs b b) (evs c c)]
  exact List.perm_append_comm

end Go.Proofs.Ytieffigehkjifaa
