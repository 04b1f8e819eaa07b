/- rollup: the plain law: spans are counted in whichever order. -/
import Derived.Test.YtigakemkanobaaaRwE
import Derived.Test.YtigakemkanobaaaLibK
namespace Go.Proofs.Ytigakemkanobaaa
open E
set_option linter.unusedVariables false
set_option linter.unusedSimpArgs false

theorem ordR : Ord3 cmpR := (ord_Z.of Rw.lev).lex ((ord_Z.of Rw.win).lex ((ord_S.of Rw.svc).lex (ord_S.of Rw.op)))
theorem orI_zero {a b : Int} : orI a b = 0 ↔ a = 0 ∧ b = 0 := by
  unfold orI
  by_cases h : a = 0
  · subst h; simp
  · have : (a != 0) = true := by simp [h]
    simp [this, h]
theorem cmpZ_zero {a b : Int} : cmpZ a b = 0 ↔ a = b := by
  rcases cmpZ_cases a b with ⟨h, e⟩ | ⟨h, e⟩ | ⟨h, e⟩ <;> omega
theorem cmpR_zero {a b : Rw} : cmpR a b = 0 ↔ a.lev = b.lev ∧ a.win = b.win ∧ a.svc = b.svc ∧ a.op = b.op := by
  show orI (cmpZ a.lev b.lev) (orI (cmpZ a.win b.win) (orI (cmpS a.svc b.svc) (cmpS a.op b.op))) = 0 ↔ _
  rw [orI_zero, orI_zero, orI_zero, cmpZ_zero, cmpZ_zero, cmpS_zero, cmpS_zero]

theorem oneF_range (k : Int) (e : Bool) : ∀ i : Nat, 0 ≤ oneF k e i ∧ oneF k e i ≤ 1
  | 0 => by simp [oneF]
  | 1 => by cases e <;> simp [oneF]
  | n + 2 => by
    show 0 ≤ (bif decide (k = ((n + 2 : Nat) : Int) - 2) then (1 : Int) else 0) ∧ (bif decide (k = ((n + 2 : Nat) : Int) - 2) then (1 : Int) else 0) ≤ 1
    cases decide (k = ((n + 2 : Nat) : Int) - 2) <;> simp

theorem mx0 (m : Int) : mx 0 m = if 0 < m then m else 0 := rfl
/-- A cell that counts. -/
theorem up_zero {v m : Int} (hm : inI m) : upR 0 (mx 0 v) m = (if v < 0 then 0 else if (if 0 < m then m else 0) < v then (if 0 < m then m else 0) else v) := by
  unfold inI at hm
  unfold upR
  rw [mx0 m]
  generalize hM : (if 0 < m then m else 0) = M
  have hM1 : 0 ≤ M ∧ M ≤ 9223372036854775807 := by subst hM; split <;> omega
  rw [i64_small (n := M - 0) (by omega)]
  unfold mn mx
  repeat' split
  all_goals (rw [i64_small (by omega)]; omega)
theorem up_more {n b m : Int} (hm : inI m) (hn : 0 ≤ n ∧ n ≤ (if 0 < m then m else 0)) (hb : 0 ≤ b ∧ b ≤ 1) : upR n (mx 0 b) m = if (if 0 < m then m else 0) - n < b then (if 0 < m then m else 0) else n + b := by
  unfold inI at hm
  unfold upR
  rw [mx0 m]
  generalize hM : (if 0 < m then m else 0) = M at hn ⊢
  have hM1 : 0 ≤ M ∧ M ≤ 9223372036854775807 := by subst hM; split <;> omega
  rw [i64_small (n := M - n) (by omega)]
  unfold mn mx
  repeat' split
  all_goals (rw [i64_small (by omega)]; try omega)
theorem cntF_eq {m : Int} (hm : inI m) (x : Nat → Int) (s : Sp) (k : Nat) : cntF x s m k = plusN (x k) (oneF (ofR s.dur) s.err k) m := by
  unfold cntF addC
  have h1 := oneF_range (ofR s.dur) s.err k
  generalize oneF (ofR s.dur) s.err k = b at h1
  rw [up_zero hm]
  unfold plusN
  simp only
  generalize hM : (if 0 < m then m else 0) = M
  have hM1 : 0 ≤ M := by subst hM; split <;> omega
  generalize hA : (if x k < 0 then 0 else if M < x k then M else x k) = A
  have hA1 : 0 ≤ A ∧ A ≤ M := by subst hA; repeat' split
                                 all_goals omega
  rw [up_more hm (by rw [hM]; exact hA1) h1, hM]
  repeat' split
  all_goals omega
theorem bump_swap {m : Int} (hm : inI m) (s t : Sp) (x : Rw) : bumpR s m (bumpR t m x) = bumpR t m (bumpR s m x) := by
  unfold bumpR
  congr 1
  funext k
  show cntF (cntF x.c t m) s m k = cntF (cntF x.c s m) t m k
  rw [cntF_eq hm, cntF_eq hm, cntF_eq hm, cntF_eq hm, plusN_swap]

theorem countR_eq {l : List Rw} (h : SortedK cmpR l) (key : Rw) (s : Sp) (m : Int) : countR l key s m = insK cmpR key (bumpR s m) l := by
  rw [insK_find ordR h]; rfl
theorem keeps_bump (s : Sp) (m : Int) : Keeps cmpR (bumpR s m) := fun _ _ => rfl

/-- What a span is counted as. -/
def evR (s : Sp) : List (Rw × Sp) := bif rightS s then [(keyR s 0, s), (keyR s 1, s), (keyR s 2, s)] else []
def stR (m : Int) (l : List Rw) (e : Rw × Sp) : List Rw := insK cmpR e.1 (bumpR e.2 m) l
theorem sorted_stR {m : Int} {l : List Rw} (h : SortedK cmpR l) (e : Rw × Sp) : SortedK cmpR (stR m l e) := sorted_insK ordR (keeps_bump _ _) h
theorem addR_eq {l : List Rw} (h : SortedK cmpR l) (s : Sp) (m : Int) : addR l s m = (evR s).foldl (stR m) l := by
  unfold addR evR
  cases rightS s with
  | false => rfl
  | true =>
    simp only [cond_true, List.foldl_cons, List.foldl_nil]
    have e1 : countR l (keyR s 0) s m = stR m l (keyR s 0, s) := countR_eq h _ _ _
    rw [e1]
    have s1 : SortedK cmpR (stR m l (keyR s 0, s)) := sorted_stR h _
    have e2 : countR (stR m l (keyR s 0, s)) (keyR s 1) s m = stR m (stR m l (keyR s 0, s)) (keyR s 1, s) := countR_eq s1 _ _ _
    rw [e2]
    exact countR_eq (sorted_stR s1 _) _ _ _
theorem sorted_fold {m : Int} : ∀ (es : List (Rw × Sp)) (l : List Rw), SortedK cmpR l → SortedK cmpR (es.foldl (stR m) l)
  | [], l, h => h
  | e :: es, l, h => sorted_fold es _ (sorted_stR h e)
theorem sorted_addR {l : List Rw} (h : SortedK cmpR l) (s : Sp) (m : Int) : SortedK cmpR (addR l s m) := by
  rw [addR_eq h]; exact sorted_fold _ _ h
theorem rowsR_fold {m : Int} : ∀ (l : List Sp) (x : List Rw), SortedK cmpR x → l.foldl (fun x s => addR x s m) x = (l.flatMap evR).foldl (stR m) x
  | [], x, _ => rfl
  | s :: l, x, h => by
    rw [List.foldl_cons, List.flatMap_cons, List.foldl_append, ← addR_eq h]
    exact rowsR_fold l _ (sorted_addR h s m)
theorem sorted_nil : SortedK cmpR [] := List.Pairwise.nil
theorem rowsR_eq (l : List Sp) (m : Int) : rowsR l m = (l.flatMap evR).foldl (stR m) [] := rowsR_fold l [] sorted_nil
theorem sorted_rows (l : List Sp) (m : Int) : SortedK cmpR (rowsR l m) := by rw [rowsR_eq]; exact sorted_fold _ _ sorted_nil

theorem ev_key {l : List Sp} {e : Rw × Sp} (h : e ∈ l.flatMap evR) : ∃ v, e.1 = keyR e.2 v := by
  obtain ⟨s, _, h⟩ := List.mem_flatMap.1 h
  unfold evR at h
  cases hr : rightS s with
  | false => rw [hr] at h; simp at h
  | true =>
    rw [hr] at h
    simp at h
    rcases h with rfl | rfl | rfl <;> exact ⟨_, rfl⟩
theorem key_same {s t : Sp} {u v : Int} (h : cmpR (keyR s u) (keyR t v) = 0) : keyR s u = keyR t v := by
  obtain ⟨h1, h2, h3, h4⟩ := cmpR_zero.1 h
  simp only [keyR] at h1 h2 h3 h4 ⊢
  rw [h1] at h2 ⊢
  rw [h2, h3, h4]
theorem stR_swap {m : Int} (hm : inI m) {e f : Rw × Sp} (he : ∃ v, e.1 = keyR e.2 v) (hf : ∃ v, f.1 = keyR f.2 v) (l : List Rw) : stR m (stR m l e) f = stR m (stR m l f) e := by
  obtain ⟨u, he⟩ := he
  obtain ⟨v, hf⟩ := hf
  refine insK_swap ordR (keeps_bump _ _) (keeps_bump _ _) (fun x => bump_swap hm _ _ x) (fun h => ?_) l
  rw [he, hf] at h ⊢
  exact key_same h
theorem rows_perm {m : Int} (hm : inI m) {l l' : List Sp} (h : l.Perm l') : rowsR l m = rowsR l' m := by
  rw [rowsR_eq, rowsR_eq]
  exact (h.flatMap_right evR).foldl_eq' (fun e he f hf z => stR_swap hm (ev_key he) (ev_key hf) z) []

theorem cmpR_less {a b : Rw} : lessR a b = true ↔ cmpR a b < 0 := by
  show _ ↔ orI (cmpZ a.lev b.lev) (orI (cmpZ a.win b.win) (orI (cmpS a.svc b.svc) (cmpS a.op b.op))) < 0
  have ne : ∀ {x y : Int}, x ≠ 0 → orI x y = x := fun {x y} h => by
    have : (x != 0) = true := by simp [h]
    simp [orI, this]
  have z : ∀ {y : Int}, orI 0 y = y := fun {y} => rfl
  unfold lessR
  by_cases h1 : a.lev = b.lev
  · rw [cmpZ_zero.2 h1, z]
    have : (a.lev != b.lev) = false := by simp [h1]
    rw [this]; simp only [cond_false]
    by_cases h2 : a.win = b.win
    · rw [cmpZ_zero.2 h2, z]
      have : (a.win != b.win) = false := by simp [h2]
      rw [this]; simp only [cond_false]
      by_cases h3 : a.svc = b.svc
      · rw [cmpS_zero.2 h3, z]
        have : (a.svc.toList == b.svc.toList) = true := by simp [h3]
        rw [this]; simp only [Bool.not_true, cond_false]
        exact cmpS_neg.symm
      · have hn : cmpS a.svc b.svc ≠ 0 := fun h => h3 (cmpS_zero.1 h)
        rw [ne hn]
        have : (a.svc.toList == b.svc.toList) = false := by
          rw [beq_eq_false_iff_ne]; exact fun h => h3 (toList_inj h)
        rw [this]; simp only [Bool.not_false, cond_true]
        exact cmpS_neg.symm
    · rw [ne (fun h => h2 (cmpZ_zero.1 h))]
      have : (a.win != b.win) = true := by simp [h2]
      rw [this]; simp only [cond_true, decide_eq_true_eq]
      rcases cmpZ_cases a.win b.win with ⟨h, e⟩ | ⟨h, e⟩ | ⟨h, e⟩ <;> omega
  · rw [ne (fun h => h1 (cmpZ_zero.1 h))]
    have : (a.lev != b.lev) = true := by simp [h1]
    rw [this]; simp only [cond_true, decide_eq_true_eq]
    rcases cmpZ_cases a.lev b.lev with ⟨h, e⟩ | ⟨h, e⟩ | ⟨h, e⟩ <;> omega
theorem sorted_ord {l : List Rw} (h : SortedK cmpR l) : ordB l = true := by
  refine ord_good fun j y hy => ?_
  unfold badO
  cases hx : l[j + 1]? with
  | none => rfl
  | some x =>
    obtain ⟨h1, e1⟩ := List.getElem?_eq_some_iff.1 hx
    obtain ⟨h2, e2⟩ := List.getElem?_eq_some_iff.1 hy
    have := List.pairwise_iff_getElem.1 h j (j + 1) h2 h1 (by omega)
    rw [e1, e2] at this
    simp only
    rw [cmpR_less.2 this]; rfl
theorem ord_sorted {l : List Rw} (h : ordB l = true) : SortedK cmpR l := by
  have key : ∀ (n i : Nat) (hi : i < l.length) (hj : i + n + 1 < l.length), cmpR l[i] l[i + n + 1] < 0 := by
    intro n
    induction n with
    | zero => intro i hi hj; exact cmpR_less.1 (ord_next h (List.getElem?_eq_getElem hi) (List.getElem?_eq_getElem hj))
    | succ n ih =>
      intro i hi hj
      have h1 := ih i hi (by omega)
      have h2 := cmpR_less.1 (ord_next h (j := i + n + 1) (List.getElem?_eq_getElem (by omega)) (List.getElem?_eq_getElem (by omega : i + n + 1 + 1 < l.length)))
      exact ordR.trans h1 h2
  refine List.pairwise_iff_getElem.2 fun i j hi hj hij => ?_
  have := key (j - i - 1) i hi (by omega)
  simp only [show i + (j - i - 1) + 1 = j by omega] at this
  exact this

end Go.Proofs.Ytigakemkanobaaa
