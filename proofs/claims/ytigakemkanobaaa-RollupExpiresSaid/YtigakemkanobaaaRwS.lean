/- rollup: the plain law: a window is what it is made of. -/
import Derived.Test.YtigakemkanobaaaRwK
namespace Go.Proofs.Ytigakemkanobaaa
open E
set_option linter.unusedVariables false
set_option linter.unusedSimpArgs false

/-- Sums over two lists, either way round. -/
theorem sum_swap {α β : Type} (f : α → β → Int) : ∀ (l : List α) (x : List β), (l.map fun a => (x.map fun b => f a b).sum).sum = (x.map fun b => (l.map fun a => f a b).sum).sum
  | [], x => by
    induction x with
    | nil => rfl
    | cons b x ih => simp only [List.map_nil, List.sum_nil, List.map_cons, List.sum_cons] at ih ⊢; omega
  | a :: l, x => by
    rw [List.map_cons, List.sum_cons, sum_swap f l x]
    induction x with
    | nil => rfl
    | cons b x ih =>
      simp only [List.map_cons, List.sum_cons] at ih ⊢
      omega

theorem sum_filter {α : Type} (p : α → Bool) (f : α → Int) : ∀ l : List α, ((l.filter p).map f).sum = (l.map fun a => bif p a then f a else 0).sum
  | [] => rfl
  | a :: l => by
    have ih := sum_filter p f l
    cases h : p a <;> simp [List.filter_cons, h, ih]

/-- Capped numbers told together. -/
theorem plus_caps {α : Type} (m : Int) (a : α → Int) : ∀ (l : List α) (v : Int), (∀ x ∈ l, 0 ≤ a x) → 0 ≤ v → v ≤ (if 0 < m then m else 0) →
    l.foldl (fun v x => plusN v (if (if 0 < m then m else 0) < a x then (if 0 < m then m else 0) else a x) m) v = if (if 0 < m then m else 0) < v + (l.map a).sum then (if 0 < m then m else 0) else v + (l.map a).sum
  | [], v, _, h0, h1 => by simp; omega
  | x :: l, v, hx, h0, h1 => by
    rw [List.foldl_cons, List.map_cons, List.sum_cons]
    generalize hM : (if 0 < m then m else 0) = M at h1
    have hs : 0 ≤ (l.map a).sum := by
      have : ∀ l : List α, (∀ x ∈ l, 0 ≤ a x) → 0 ≤ (l.map a).sum := by
        intro l
        induction l with
        | nil => intro _; simp
        | cons y l ih => intro h; rw [List.map_cons, List.sum_cons]; have := ih (fun z hz => h z (by simp [hz])); have := h y (by simp); omega
      exact this l (fun y hy => hx y (by simp [hy]))
    have hx' := hx x (by simp)
    have e : plusN v (if M < a x then M else a x) m = if M < v + a x then M else v + a x := by
      unfold plusN
      simp only
      rw [hM]
      repeat' split
      all_goals omega
    rw [e]
    have ih := plus_caps m a l (if M < v + a x then M else v + a x) (fun y hy => hx y (by simp [hy])) (by split <;> omega) (by rw [hM]; split <;> omega)
    rw [hM] at ih
    rw [ih]
    repeat' split
    all_goals omega

/-- Just one of a list is so: where there is one of a key. -/
theorem sum_unique {x : List Rw} (hs : SortedK cmpR x) (d : Rw) (v : Int) : (x.map fun q => bif cmpR q d == 0 then v else 0).sum = if (getK cmpR x d).isSome then v else 0 := by
  induction x with
  | nil => rfl
  | cons y x ih =>
    have h' := List.pairwise_cons.1 hs
    rw [List.map_cons, List.sum_cons, getK_cons, ih h'.2]
    by_cases h : cmpR y d = 0
    · rw [getK_none ordR hs (.inl h)]
      simp [h]
    · have hf : (cmpR y d == 0) = false := by simp [h]
      rw [if_neg h, hf]; simp

theorem win_up {v sec : Int} (hv : v = 0 ∨ v = 1) (h : 0 ≤ sec) (hs : sec ≤ 1099511627776) : upW v (winW v sec) = winW (v + 1) sec := by
  unfold upW winW
  have hw : withinB sec 0 1099511627776 = true := by simp [withinB, h, hs]
  rcases hv with rfl | rfl
  · simp [lenW, hw]; omega
  · simp [lenW, hw]; omega
theorem win_good {v sec : Int} (hv : v = 0 ∨ v = 1 ∨ v = 2) (h : 0 ≤ sec) (hs : sec ≤ 1099511627776) : goodW v (winW v sec) = true := by
  have hw : withinB sec 0 1099511627776 = true := by simp [withinB, h, hs]
  rcases hv with rfl | rfl | rfl
  · have e : winW 0 sec = sec / 60 := by simp [winW, lenW, hw]
    rw [e]; unfold goodW withinB; simp [lenW]; omega
  · have e : winW 1 sec = sec / 3600 := by simp [winW, lenW, hw]
    rw [e]; unfold goodW withinB; simp [lenW]; omega
  · have e : winW 2 sec = sec / 86400 := by simp [winW, lenW, hw]
    rw [e]; unfold goodW withinB; simp [lenW]; omega
theorem right_start {s : Sp} (h : rightS s = true) : 0 ≤ s.start ∧ s.start ≤ 1099511627776 := by
  unfold rightS withinB at h
  simp only [Bool.and_eq_true, decide_eq_true_eq] at h
  omega
/-- The rows of spans have windows that are. -/
theorem row_good {l : List Sp} {m : Int} (hm : inI m) {q : Rw} (h : q ∈ rowsR l m) : (q.lev = 0 ∨ q.lev = 1 ∨ q.lev = 2) ∧ goodW q.lev q.win = true := by
  obtain ⟨hv, hne, _⟩ := row_is hm h
  refine ⟨hv, ?_⟩
  obtain ⟨s, hs⟩ := List.exists_mem_of_ne_nil _ hne
  have hh := (List.mem_filter.1 hs).2
  unfold hitB at hh
  simp only [Bool.and_eq_true, decide_eq_true_eq] at hh
  obtain ⟨h1, h2⟩ := right_start hh.1.1.1
  rw [← hh.2]
  exact win_good hv h1 h2
theorem has_row {l : List Sp} {m : Int} {s : Sp} (hs : s ∈ l) (hr : rightS s = true) {v : Int} (hv : v = 0 ∨ v = 1 ∨ v = 2) : (getK cmpR (rowsR l m) (keyR s v)).isSome = true := by
  rw [getK_rows]
  have : (keyR s v, s) ∈ (l.flatMap evR).filter (fun e => cmpR e.1 (keyR s v) == 0) := by
    refine List.mem_filter.2 ⟨List.mem_flatMap.2 ⟨s, hs, ?_⟩, by simp [ordR.self]⟩
    unfold evR
    rw [hr]
    rcases hv with rfl | rfl | rfl <;> simp
  cases hf : (l.flatMap evR).filter (fun e => cmpR e.1 (keyR s v) == 0) with
  | nil => rw [hf] at this; simp at this
  | cons e es => rfl

theorem hit_key {q : Rw} {s : Sp} (h : rightS s = true) (v : Int) (hv : q.lev = v) : hitB q s = (cmpR q (keyR s v) == 0) := by
  unfold hitB
  rw [h, Bool.true_and]
  by_cases e : cmpR q (keyR s v) = 0
  · obtain ⟨h1, h2, h3, h4⟩ := cmpR_zero.1 e
    simp only [keyR] at h1 h2 h3 h4
    have ht : (cmpR q (keyR s v) == 0) = true := by simp [e]
    rw [ht]
    simp only [Bool.and_eq_true, decide_eq_true_eq, beq_iff_eq]
    exact ⟨⟨by rw [h3], by rw [h4]⟩, by rw [hv]; exact h2.symm⟩
  · have hf : (cmpR q (keyR s v) == 0) = false := by simp [e]
    rw [hf, Bool.eq_false_iff]
    intro hc
    simp only [Bool.and_eq_true, decide_eq_true_eq, beq_iff_eq] at hc
    exact e (cmpR_zero.2 ⟨hv, by rw [← hc.2, hv]; rfl, toList_inj hc.1.1.symm, toList_inj hc.1.2.symm⟩)

/-- A span of a row is one of just one of the rows that it is made of. -/
theorem one_below {l : List Sp} {m : Int} (hm : inI m) {r : Rw} (hr0 : r.lev ≠ 0) (hv : r.lev = 0 ∨ r.lev = 1 ∨ r.lev = 2) {s : Sp} (hs : s ∈ l) (v : Int) :
    ((rowsR l m).map fun q => bif upB q r then (bif hitB q s then v else 0) else 0).sum = bif hitB r s then v else 0 := by
  cases hr : rightS s with
  | false =>
    have h0 : ∀ q : Rw, hitB q s = false := fun q => by unfold hitB; rw [hr]; rfl
    simp only [h0, cond_false]
    have : ∀ x : List Rw, (x.map fun q => bif upB q r then (0 : Int) else 0).sum = 0 := by
      intro x
      induction x with
      | nil => rfl
      | cons a x ih => rw [List.map_cons, List.sum_cons, ih]; cases upB a r <;> rfl
    exact this _
  | true =>
    obtain ⟨g1, g2⟩ := right_start hr
    have hlv : r.lev - 1 = 0 ∨ r.lev - 1 = 1 := by omega
    cases hh : hitB r s with
    | false =>
      simp only [cond_false]
      have : ∀ x : List Rw, (∀ q ∈ x, q.lev = 0 ∨ q.lev = 1 ∨ q.lev = 2) → (x.map fun q => bif upB q r then (bif hitB q s then v else 0) else (0 : Int)).sum = 0 := by
        intro x
        induction x with
        | nil => intro _; rfl
        | cons a x ih =>
          intro hx
          rw [List.map_cons, List.sum_cons, ih (fun q hq => hx q (by simp [hq]))]
          cases hu : upB a r with
          | false => rfl
          | true =>
            cases ha : hitB a s with
            | false => rfl
            | true =>
              exfalso
              unfold upB at hu
              unfold hitB at ha hh
              simp only [Bool.and_eq_true, decide_eq_true_eq, beq_iff_eq, bne_iff_ne] at hu ha
              have hal := hx a (by simp)
              have hw : winW r.lev s.start = r.win := by
                rw [← hu.1.1.2, ← ha.2, ← hu.1.1.1.2]
                exact (win_up (by omega) g1 g2).symm
              have : (rightS s && s.svc.toList == r.svc.toList && s.op.toList == r.op.toList && decide (winW r.lev s.start = r.win)) = true := by
                simp only [Bool.and_eq_true, decide_eq_true_eq, beq_iff_eq]
                exact ⟨⟨⟨hr, by rw [ha.1.1.2, hu.1.2]⟩, by rw [ha.1.2, hu.2]⟩, hw⟩
              rw [this] at hh; cases hh
      exact this _ (fun q hq => (row_good hm hq).1)
    | true =>
      simp only [cond_true]
      have hh' := hh
      unfold hitB at hh'
      simp only [Bool.and_eq_true, decide_eq_true_eq, beq_iff_eq] at hh'
      have e : ((rowsR l m).map fun q => bif upB q r then (bif hitB q s then v else 0) else (0 : Int)) = (rowsR l m).map fun q => bif cmpR q (keyR s (r.lev - 1)) == 0 then v else 0 := by
        refine List.map_congr_left fun q hq => ?_
        obtain ⟨hql, hqg⟩ := row_good hm hq
        by_cases hz : cmpR q (keyR s (r.lev - 1)) = 0
        · obtain ⟨h1, h2, h3, h4⟩ := cmpR_zero.1 hz
          simp only [keyR] at h1 h2 h3 h4
          have hq1 : hitB q s = true := by rw [hit_key hr (r.lev - 1) h1]; simp [hz]
          have hu : upB q r = true := by
            unfold upB
            simp only [Bool.and_eq_true, decide_eq_true_eq, beq_iff_eq, bne_iff_ne]
            refine ⟨⟨⟨⟨by omega, by omega⟩, ?_⟩, by rw [h3]; exact hh'.1.1.2⟩, by rw [h4]; exact hh'.1.2⟩
            rw [h1, h2, win_up hlv g1 g2, show r.lev - 1 + 1 = r.lev by omega]
            exact hh'.2
          simp [hu, hq1, hz]
        · have hf : (cmpR q (keyR s (r.lev - 1)) == 0) = false := by simp [hz]
          rw [hf]
          cases hu : upB q r with
          | false => rfl
          | true =>
            have hl : q.lev = r.lev - 1 := by
              unfold upB at hu
              simp only [Bool.and_eq_true, decide_eq_true_eq] at hu
              omega
            rw [hit_key hr (r.lev - 1) hl, hf]; rfl
      rw [e, sum_unique (sorted_rows l m), has_row hs hr (by omega)]
      rfl

/-- RollupSums' law. -/
theorem rows_sum {l : List Sp} {m : Int} (hm : inI m) {r : Rw} (h : r ∈ rowsR l m) (hr0 : r.lev ≠ 0) (k : Nat) : ((rowsR l m).foldl (stU r m) (fun _ => 0)) k = r.c k := by
  obtain ⟨hv, _, hc⟩ := row_is hm h
  have e : ∀ (x : List Rw) (f : Nat → Int), (∀ q ∈ x, q ∈ rowsR l m) → (x.foldl (stU r m) f) k = (x.filter fun q => upB q r).foldl (fun v q => plusN v (if (if 0 < m then m else 0) < ((l.filter (hitB q)).map fun s => oneS s k).sum then (if 0 < m then m else 0) else ((l.filter (hitB q)).map fun s => oneS s k).sum) m) (f k) := by
    intro x
    induction x with
    | nil => intro f _; rfl
    | cons q x ih =>
      intro f hx
      rw [List.foldl_cons, ih _ (fun y hy => hx y (by simp [hy]))]
      unfold stU
      cases hu : upB q r with
      | false => simp [List.filter_cons, hu]
      | true =>
        rw [List.filter_cons, hu]
        simp only [cond_true, if_true, List.foldl_cons]
        congr 1
        show sumR (f k) (q.c k) m = _
        rw [sumR_eq hm, (row_is hm (hx q (by simp))).2.2 k]
  have nn : ∀ (l : List Sp), 0 ≤ (l.map fun s => oneS s k).sum := by
    intro l
    induction l with
    | nil => simp
    | cons s l ih => rw [List.map_cons, List.sum_cons]; have := (oneF_range (ofR s.dur) s.err k).1; have : 0 ≤ oneS s k := this; omega
  rw [e _ _ (fun q hq => hq), plus_caps m (fun q => ((l.filter (hitB q)).map fun s => oneS s k).sum) _ 0 (fun q _ => nn _) (by omega) (by split <;> omega), hc k]
  have hsum : (((rowsR l m).filter fun q => upB q r).map fun q => ((l.filter (hitB q)).map fun s => oneS s k).sum).sum = ((l.filter (hitB r)).map fun s => oneS s k).sum := by
    rw [sum_filter, sum_filter]
    have h1 : ((rowsR l m).map fun q => bif upB q r then ((l.filter (hitB q)).map fun s => oneS s k).sum else 0) = (rowsR l m).map fun q => (l.map fun s => bif upB q r then (bif hitB q s then oneS s k else 0) else 0).sum := by
      refine List.map_congr_left fun q _ => ?_
      cases upB q r with
      | true => simp only [cond_true]; rw [sum_filter]
      | false =>
        simp only [cond_false]
        have : ∀ l : List Sp, (l.map fun _ => (0 : Int)).sum = 0 := by
          intro l
          induction l with
          | nil => rfl
          | cons a l ih => rw [List.map_cons, List.sum_cons, ih]; rfl
        exact (this l).symm
    rw [h1, sum_swap (fun q s => bif upB q r then (bif hitB q s then oneS s k else 0) else 0) (rowsR l m) l]
    congr 1
    exact List.map_congr_left fun s hs => one_below hm hr0 hv hs (oneS s k)
  rw [hsum]
  simp only [Int.zero_add]

end Go.Proofs.Ytigakemkanobaaa
