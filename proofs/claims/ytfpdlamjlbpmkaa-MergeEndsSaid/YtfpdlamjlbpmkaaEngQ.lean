/- The engine, part Q: a region whose order is open comes to what it comes to in the text's order. -/
import Derived.Test.YtfpdlamjlbpmkaaEngP
namespace Go.Proofs.Ytfpdlamjlbpmkaa.E
open Go
set_option linter.unusedSimpArgs false

theorem St.ids_congr {base : Nat} {X G : Nat → Prop} {τ : Nat → Gh} {n : Nat} {env : Nat → V} {st : Nat → Option E.Obj} {ids ids' : List Nat} {a : Act} {w : World} (h : St base X G τ ⟨n, env, st, ids⟩ a w) (hi : ∀ i ∈ ids, i ∈ ids') : St base X G τ ⟨n, env, st, ids'⟩ a w :=
  ⟨h.mem, h.base, h.size, h.env, fun t i hm => hi i (h.ids t i hm), fun i o ho => ⟨hi i (h.objs i o ho).1, fun j hj => hi j ((h.objs i o ho).2 j hj)⟩, h.defers⟩

def aheadStep (acc : List Nat) (o : Oper) : Nat := o.after.toList.foldl (fun s e => bif Region.binds .any e then s ||| 2 ^ e.on ||| acc.getD e.on 0 else s) 0

theorem aheadStep_bit (acc : List Nat) (j : Nat) : ∀ (l : List Edge) (s : Nat), (l.foldl (fun s e => bif Region.binds .any e then s ||| 2 ^ e.on ||| acc.getD e.on 0 else s) s).testBit j = true →
    s.testBit j = true ∨ ∃ e ∈ l, Region.binds .any e = true ∧ (j = e.on ∨ (acc.getD e.on 0).testBit j = true)
  | [], s, h => .inl h
  | e :: l, s, h => by
    simp only [List.foldl_cons] at h
    rcases aheadStep_bit acc j l _ h with h | ⟨e', h1, h2, h3⟩
    · cases hb : Region.binds .any e with
      | false => simp only [hb, cond_false] at h; exact .inl h
      | true =>
        simp only [hb, cond_true, Nat.testBit_or, Bool.or_eq_true] at h
        rcases h with (h | h) | h
        · exact .inl h
        · rw [Nat.testBit_two_pow] at h
          exact .inr ⟨e, by simp, hb, .inl (by have := of_decide_eq_true h; omega)⟩
        · exact .inr ⟨e, by simp, hb, .inr h⟩
    · exact .inr ⟨e', by simp [h1], h2, h3⟩

theorem aheadOf_fold : ∀ (l : List Oper) (acc : List Nat), ∃ tl, l.foldl (fun acc o => acc ++ [aheadStep acc o]) acc = acc ++ tl ∧ tl.length = l.length ∧
    ∀ (m : Nat) (o : Oper), l[m]? = some o → tl.getD m 0 = aheadStep (acc ++ tl.take m) o
  | [], acc => ⟨[], by simp, rfl, by simp⟩
  | o :: l, acc => by
    obtain ⟨tl, h1, h2, h3⟩ := aheadOf_fold l (acc ++ [aheadStep acc o])
    refine ⟨aheadStep acc o :: tl, by simp only [List.foldl_cons, h1]; simp, by simp [h2], fun m q hq => ?_⟩
    cases m with
    | zero => simp at hq; subst hq; simp
    | succ m =>
      have := h3 m q (by simpa using hq)
      simpa using this

theorem aheadOf_eq (ops : Array Oper) : aheadOf ops = ops.toList.foldl (fun acc o => acc ++ [aheadStep acc o]) [] := rfl

theorem aheadOf_bit {ops : Array Oper} {k j : Nat} (h : ((aheadOf ops).getD k 0).testBit j = true) : ∃ o, ops[k]? = some o ∧ ∃ e ∈ o.after, Region.binds .any e = true ∧ (j = e.on ∨ ((aheadOf ops).getD e.on 0).testBit j = true) := by
  rw [aheadOf_eq] at h ⊢
  obtain ⟨tl, h1, h2, h3⟩ := aheadOf_fold ops.toList []
  rw [h1] at h ⊢
  simp only [List.nil_append] at h ⊢ h3
  by_cases hk : k < ops.toList.length
  · have ho : ops.toList[k]? = some ops.toList[k] := List.getElem?_eq_getElem hk
    rw [h3 k _ ho] at h
    rcases aheadStep_bit _ j _ _ h with h | ⟨e, q1, q2, q3⟩
    · simp at h
    · refine ⟨ops.toList[k], by simp, e, by simpa using q1, q2, ?_⟩
      rcases q3 with q3 | q3
      · exact .inl q3
      · right
        by_cases he : e.on < k
        · have : (tl.take k).getD e.on 0 = tl.getD e.on 0 := by simp [List.getElem?_take_of_lt he]
          rwa [this] at q3
        · have : (tl.take k).getD e.on 0 = 0 := by simp [List.getElem?_take, he]
          rw [this] at q3; simp at q3
  · have : tl.getD k 0 = 0 := by simp [List.getElem?_eq_none (show tl.length ≤ k by omega)]
    rw [this] at h; simp at h

theorem edgesBack_spec {ops : Array Oper} (h : edgesBack ops = true) {i : Nat} {o : Oper} (ho : ops[i]? = some o) : ∀ e ∈ o.after, Region.binds .any e = true → e.on < i := by
  intro e he hb
  have hm : (o, i) ∈ ops.toList.zipIdx := by
    rw [List.mem_zipIdx_iff_getElem?]
    simpa using ho
  have := List.all_eq_true.1 h _ hm
  have := List.all_eq_true.1 this e (by simpa using he)
  simp only [hb, Bool.not_true, Bool.false_or, Nat.blt_eq] at this
  exact this

theorem calm_spec {ops : Array Oper} {ah : List Nat} {L : List Row} (h : calmAt ops ah L = true) {x y : Row} (hx : x ∈ L) (hy : y ∈ L) :
    (x.1 < y.1 → (ah.getD y.1 0).testBit x.1 = false → clash ops x.2.1 y.2.1 x.2.2 y.2.2 = false) ∧ (x.1 ≠ y.1 → (ah.getD y.1 0).testBit x.1 = false → disjoint x.2.2.new y.2.2.vids = true) := by
  have h1 := List.all_eq_true.1 (List.all_eq_true.1 h x hx) y hy
  simp only [Bool.and_eq_true] at h1
  refine ⟨fun hlt hb => ?_, fun hne hb => ?_⟩
  · have hlt' : Nat.blt x.1 y.1 = true := by simpa [Nat.blt_eq] using hlt
    have := h1.1
    simp only [hlt', hb, Bool.not_false, Bool.and_true, cond_true, Bool.not_eq_true'] at this
    exact this
  · have hne' : (x.1 != y.1) = true := by simpa using hne
    have := h1.2
    simp only [hne', hb, Bool.not_false, Bool.and_true, cond_true] at this
    exact this

theorem clash_spec {ops : Array Oper} {oi oj : Oper} {li lj : Log} (h : clash ops oi oj li lj = false) :
    (∀ d, oi.dst = some d → d ∉ looksOf ops oj ∧ oj.dst ≠ some d) ∧ (∀ d, oj.dst = some d → d ∉ looksOf ops oi) ∧ (∀ i ∈ li.touch, i ∉ lj.rs ∧ i ∉ lj.touch) ∧ (∀ i ∈ lj.touch, i ∉ li.rs) := by
  unfold clash at h
  simp only [Bool.or_eq_false_iff, Bool.not_eq_false'] at h
  obtain ⟨⟨⟨h1, h2⟩, h3⟩, h4⟩ := h
  refine ⟨fun d hd => ?_, fun d hd => ?_, fun i hi => ?_, fun i hi => disjoint_spec h4 i hi⟩
  · simp only [hd, Bool.or_eq_false_iff] at h1
    refine ⟨by simpa using h1.1, fun e => ?_⟩
    have := h1.2
    simp [e] at this
  · simpa [hd] using h2
  · have := disjoint_spec h3 i hi
    simp only [List.mem_append, not_or] at this
    exact this

theorem stEnv_cons_true {p : Nat → Bool} {x : Row} {L : List Row} {env : Nat → V} (h : p x.1 = true) : stEnv (x :: L) p env = stEnv L p (putEnv env x.2.1.dst x.2.2.v) := by simp [stEnv, h]
theorem stSt_cons_true {p : Nat → Bool} {x : Row} {L : List Row} {st : Nat → Option E.Obj} (h : p x.1 = true) : stSt (x :: L) p st = stSt L p (putSt st x.2.2.ws) := by simp [stSt, h]

/-- What is known of a region's rows. -/
structure Calm (P : Program) (rid : Nat) (ops : Array Oper) (sc : List (Nat × List Ans × Option Bool)) (n : Nat) (L : List Row) (env : Nat → V) (st : Nat → Option E.Obj) (ids : List Nat) : Prop where
  good : Good P rid ops sc n L env st ids
  calm : calmAt ops (aheadOf ops) L = true
  edges : edgesBack ops = true
  all : ∀ (i : Nat) (o : Oper), ops[i]? = some o → ∃ l, (i, o, l) ∈ L
  obs : ∀ x ∈ L, ∀ p ∈ x.2.2.obs, p

theorem any_wp {P : Program} {base : Nat} {X : Nat → Prop} {rid : Nat} {ops : Array Oper} {sc : List (Nat × List Ans × Option Bool)} {n : Nat} {L : List Row} {env : Nat → V} {st : Nat → Option E.Obj} {ids : List Nat} {Q : Exit → Act → World → Prop}
    (hC : Calm P rid ops sc n L env st ids) : ∀ (fuel : Nat) (listed : Array Bool) (G : Nat → Prop) (τ : Nat → Gh) (a : Act) (w : World),
      ((List.range ops.size).filter fun i => !listed.getD i false).length ≤ fuel → listed.size = ops.size → (∀ k, listed.getD k false = true → ∀ j, ((aheadOf ops).getD k 0).testBit j = true → listed.getD j false = true) →
      St base X G τ ⟨n, stEnv L (fun k => listed.getD k false) env, stSt L (fun k => listed.getD k false) st, stIds L (fun k => listed.getD k false) ids⟩ a w →
      (∀ a' w' G' τ', St base X G' τ' ⟨n, stEnv L (fun _ => true) env, stSt L (fun _ => true) st, stIds L (fun _ => true) ids⟩ a' w' → Ext base X G w G' w' → (∀ i ∈ ids, τ' i = τ i) → Q .normal a' w') →
      wpAny P .any ops Q fuel listed a w := by
  -- a row is there once
  have huniq : ∀ x ∈ L, ∀ y ∈ L, y.1 = x.1 → y = x := fun x hx => (hC.good.at x hx).2.2.2.2.2.2
  have hidx : ∀ x ∈ L, x.1 < ops.size := fun x hx => (Array.getElem?_eq_some_iff.1 (hC.good.at x hx).1).1
  -- if none is ready, all are listed
  have hready : ∀ (listed : Array Bool), listed.size = ops.size → Region.ready .any ops listed = [] → ∀ i, i < ops.size → listed.getD i false = true := by
    intro listed hsz hr i
    induction i using Nat.strongRecOn with
    | _ i ih =>
      intro hi
      cases hl : listed.getD i false with
      | true => rfl
      | false =>
        exfalso
        have hmem : i ∈ Region.ready .any ops listed := by
          rw [mem_ready]
          refine ⟨?_, ops[i], by simp [hi], fun e he hb => ih e.on (edgesBack_spec hC.edges (by simp [hi]) e he hb) ?_⟩
          · have : i < listed.size := by omega
            simp [this] at hl ⊢; exact hl
          · have := edgesBack_spec hC.edges (i := i) (o := ops[i]) (by simp [hi]) e he hb
            omega
        rw [hr] at hmem; simp at hmem
  have hdone : ∀ (listed : Array Bool), listed.size = ops.size → Region.ready .any ops listed = [] → ∀ {G τ a w}, St base X G τ ⟨n, stEnv L (fun k => listed.getD k false) env, stSt L (fun k => listed.getD k false) st, stIds L (fun k => listed.getD k false) ids⟩ a w →
      St base X G τ ⟨n, stEnv L (fun _ => true) env, stSt L (fun _ => true) st, stIds L (fun _ => true) ids⟩ a w := by
    intro listed hsz hr G τ a w hs
    have hall := hready listed hsz hr
    have e1 : stEnv L (fun k => listed.getD k false) env = stEnv L (fun _ => true) env := by
      funext t; exact stEnv_at rfl fun x hx _ => hall x.1 (hidx x hx)
    have e2 : stSt L (fun k => listed.getD k false) st = stSt L (fun _ => true) st := by
      funext t; exact stSt_at rfl fun x hx _ => hall x.1 (hidx x hx)
    rw [e1, e2] at hs
    refine hs.ids_congr fun i hi => ?_
    rw [stIds_mem] at hi ⊢
    rcases hi with hi | ⟨x, hx, _, hn⟩
    · exact .inl hi
    · exact .inr ⟨x, hx, rfl, hn⟩
  intro fuel
  induction fuel with
  | zero =>
    intro listed G τ a w hcnt hsz _ hs hQ
    have hr : Region.ready .any ops listed = [] := by
      apply List.eq_nil_iff_forall_not_mem.2
      intro i hi
      rw [mem_ready] at hi
      obtain ⟨h0, o, ho, _⟩ := hi
      have hlt : i < ops.size := (Array.getElem?_eq_some_iff.1 ho).1
      have hmem : i ∈ (List.range ops.size).filter fun i => !listed.getD i false := by
        rw [List.mem_filter]
        have : i < listed.size := by omega
        refine ⟨by simpa using hlt, ?_⟩
        simp [this] at h0 ⊢; exact h0
      have : ((List.range ops.size).filter fun i => !listed.getD i false) = [] := List.eq_nil_of_length_eq_zero (by omega)
      rw [this] at hmem; simp at hmem
    exact ⟨hr, hQ a w G τ (hdone listed hsz hr hs) (Ext.refl _ _ _ _) (fun _ _ => rfl)⟩
  | succ fuel ih =>
    intro listed G τ a w hcnt hsz hdc hs hQ
    refine ⟨fun hr => hQ a w G τ (hdone listed hsz hr hs) (Ext.refl _ _ _ _) (fun _ _ => rfl), fun i hi => ?_⟩
    rw [mem_ready] at hi
    obtain ⟨h0, o, ho, hpre⟩ := hi
    have hlt : i < ops.size := (Array.getElem?_eq_some_iff.1 ho).1
    have hli : i < listed.size := by omega
    have h0' : listed.getD i false = false := by simp [hli] at h0 ⊢; exact h0
    obtain ⟨l, hx⟩ := hC.all i o ho
    obtain ⟨g1, g2, g3, g4, g5, g6, g7⟩ := hC.good.at _ hx
    simp only at g1 g2 g3 g4 g5 g6 g7
    -- whoever is ahead is listed
    have hahead : ∀ j, ((aheadOf ops).getD i 0).testBit j = true → listed.getD j false = true := by
      intro j hj
      obtain ⟨o', ho', e, he, hb, hor⟩ := aheadOf_bit hj
      rw [ho] at ho'; cases ho'
      have hel := hpre e he hb
      rcases hor with rfl | hor
      · exact hel
      · exact hdc e.on hel j hor
    -- who is listed does not wait for this one
    have hnot : ∀ y ∈ L, listed.getD y.1 false = true → ((aheadOf ops).getD y.1 0).testBit i = false := by
      intro y _ hly
      cases hb : ((aheadOf ops).getD y.1 0).testBit i with
      | false => rfl
      | true => rw [hdc y.1 hly i hb] at h0'; simp at h0'
    -- rows that meet this one stand as in the text
    have hsame : ∀ y ∈ L, ((∃ d, y.2.1.dst = some d ∧ (d ∈ looksOf ops o ∨ o.dst = some d)) ∨ (∃ j ∈ y.2.2.touch, j ∈ l.rs ∨ j ∈ l.touch)) → y.1 ≠ i → listed.getD y.1 false = decide (y.1 < i) := by
      intro y hy hmeet hne
      rcases Nat.lt_or_gt_of_ne hne with hlt' | hgt
      · simp only [hlt', decide_true]
        cases hb : ((aheadOf ops).getD i 0).testBit y.1 with
        | true => exact hahead y.1 hb
        | false =>
          exfalso
          obtain ⟨c1, c2, c3, c4⟩ := clash_spec ((calm_spec hC.calm hy hx).1 hlt' hb)
          rcases hmeet with ⟨d, hd, hm⟩ | ⟨j, hj, hm⟩
          · obtain ⟨k1, k2⟩ := c1 d hd
            rcases hm with hm | hm
            · exact k1 hm
            · exact k2 hm
          · obtain ⟨k1, k2⟩ := c3 j hj
            rcases hm with hm | hm
            · exact k1 hm
            · exact k2 hm
      · have hnlt : ¬ y.1 < i := by omega
        simp only [hnlt, decide_false]
        cases hl : listed.getD y.1 false with
        | false => rfl
        | true =>
          exfalso
          obtain ⟨c1, c2, c3, c4⟩ := clash_spec ((calm_spec hC.calm hx hy).1 hgt (hnot y hy hl))
          rcases hmeet with ⟨d, hd, hm⟩ | ⟨j, hj, hm⟩
          · rcases hm with hm | hm
            · exact c2 d hd hm
            · exact (c1 d hm).2 hd
          · rcases hm with hm | hm
            · exact c4 j hj hm
            · exact (c3 j hm).2 hj
    have hself : ∀ y ∈ L, y.1 = i → y = (i, o, l) := fun y hy he => huniq _ hx y hy he
    have hlog : logOp P rid ops sc i o (stEnv L (fun k => listed.getD k false) env) (stSt L (fun k => listed.getD k false) st) = some l := by
      refine logOp_congr g2 (fun t ht => ?_) (fun j hj => ?_)
      · refine stEnv_at rfl fun y hy hd => ?_
        by_cases hyi : y.1 = i
        · simp only [hyi, h0']; simp
        · exact hsame y hy (.inl ⟨t, hd, .inl ht⟩) hyi
      · refine stSt_at rfl fun y hy hd => ?_
        by_cases hyi : y.1 = i
        · simp only [hyi, h0']; simp
        · exact hsame y hy (.inr ⟨j, hd, .inl hj⟩) hyi
    have hobs := hC.obs _ hx
    refine log_wp hs ho hlog hobs g3 ?_ ?_ fun a' w' G' τ' k1 k2 k3 => ?_
    · apply List.all_eq_true.2
      intro j hj
      simp only [Bool.not_eq_true']
      have : j ∉ stIds L (fun k => listed.getD k false) ids := by
        rw [stIds_mem]
        rintro (h | ⟨y, hy, hyl, hn⟩)
        · exact g4 j hj h
        · by_cases hyi : y.1 = i
          · rw [hyi, h0'] at hyl; simp at hyl
          · rcases Nat.lt_or_gt_of_ne hyi with hlt' | hgt
            · exact g5 y hy hlt' j hj hn
            · exact (hC.good.at y hy).2.2.2.2.1 _ hx hgt j hn hj
      simpa using this
    · intro j hj
      rw [List.mem_append, stIds_mem]
      rcases g6 j hj with h | h | ⟨y, hy, hlt', hn⟩
      · exact .inl h
      · exact .inr (.inl h)
      · right; right
        refine ⟨y, hy, ?_, hn⟩
        cases hb : ((aheadOf ops).getD i 0).testBit y.1 with
        | true => exact hahead y.1 hb
        | false => exact absurd hj (disjoint_spec ((calm_spec hC.calm hy hx).2 (Nat.ne_of_lt hlt') hb) j hn)
    · -- behind it
      have hset : ∀ k, (listed.setIfInBounds i true).getD k false = if k = i then true else listed.getD k false := by
        intro k
        by_cases hk : k = i
        · subst hk; simp [hli]
        · simp [hk, Array.getElem?_setIfInBounds_ne (Ne.symm hk)]
      have hpi : (listed.setIfInBounds i true).getD i false = true := by rw [hset, if_pos rfl]
      have hpne : ∀ y ∈ L, y.1 ≠ i → (listed.setIfInBounds i true).getD y.1 false = listed.getD y.1 false := fun y _ hne => by rw [hset, if_neg hne]
      obtain ⟨A, B, hAB⟩ := List.append_of_mem hx
      have hBne : ∀ y ∈ A ++ B, y.1 = i → y = (i, o, l) := fun y hy he => hself y (by rw [hAB]; rcases List.mem_append.1 hy with h | h <;> simp [h]) he
      have e1 : putEnv (stEnv L (fun k => listed.getD k false) env) o.dst l.v = stEnv L (fun k => (listed.setIfInBounds i true).getD k false) env := by
        funext t
        by_cases ht : o.dst = some t
        · rw [ht, putEnv_same, hAB, stEnv_append]
          have hstep : stEnv ((i, o, l) :: B) (fun k => (listed.setIfInBounds i true).getD k false) (stEnv A (fun k => (listed.setIfInBounds i true).getD k false) env) t
              = stEnv B (fun _ => false) (putEnv (stEnv A (fun k => (listed.setIfInBounds i true).getD k false) env) o.dst l.v) t := by
            rw [stEnv_cons_true hpi]
            refine stEnv_at rfl fun y hy hd => ?_
            show (listed.setIfInBounds i true).getD y.1 false = false
            rw [hset]
            have hyL : y ∈ L := by rw [hAB]; simp [hy]
            by_cases hyi : y.1 = i
            · exfalso
              -- the same row twice: the indices rise
              have := hBne y (by simp [hy]) hyi
              subst this
              have hsorted : ∀ (M : List Row) {env st ids}, Good P rid ops sc n M env st ids → ∀ (A B : List Row) (x : Row), M = A ++ x :: B → ∀ y ∈ B, x.1 < y.1 := by
                intro M env' st' ids' hg
                induction hg with
                | nil => intro A B x hM; simp at hM
                | cons _ _ _ _ _ h6 _ ih =>
                  intro A B x hM y hy
                  cases A with
                  | nil => simp only [List.nil_append, List.cons.injEq] at hM; obtain ⟨rfl, rfl⟩ := hM; exact h6 y hy
                  | cons z A => simp only [List.cons_append, List.cons.injEq] at hM; exact ih A B x hM.2 y hy
              have := hsorted L hC.good A B _ hAB _ hy
              omega
            · have hs1 := hsame y hyL (.inl ⟨t, hd, .inr ht⟩) hyi
              simp only [hyi, if_false]
              rw [hs1]
              have : ¬ y.1 < i := by
                have hsorted : ∀ (M : List Row) {env st ids}, Good P rid ops sc n M env st ids → ∀ (A B : List Row) (x : Row), M = A ++ x :: B → ∀ y ∈ B, x.1 < y.1 := by
                  intro M env' st' ids' hg
                  induction hg with
                  | nil => intro A B x hM; simp at hM
                  | cons _ _ _ _ _ h6 _ ih =>
                    intro A B x hM y hy
                    cases A with
                    | nil => simp only [List.nil_append, List.cons.injEq] at hM; obtain ⟨rfl, rfl⟩ := hM; exact h6 y hy
                    | cons z A => simp only [List.cons_append, List.cons.injEq] at hM; exact ih A B x hM.2 y hy
                have := hsorted L hC.good A B _ hAB _ hy
                omega
              simp [this]
          rw [hstep]
          have hfalse : ∀ (M : List Row) (e : Nat → V), stEnv M (fun _ => false) e = e := by
            intro M
            induction M with
            | nil => intro e; rfl
            | cons y M ih => intro e; simpa [stEnv] using ih e
          rw [hfalse, ht, putEnv_same]
        · rw [putEnv_other ht]
          refine stEnv_at rfl fun y hy hd => ?_
          by_cases hyi : y.1 = i
          · have := hself y hy hyi
            subst this
            exact absurd hd ht
          · exact (hpne y hy hyi).symm
      have e2 : putSt (stSt L (fun k => listed.getD k false) st) l.ws = stSt L (fun k => (listed.setIfInBounds i true).getD k false) st := by
        funext t
        by_cases ht : t ∈ l.touch
        · rw [hAB, stSt_append (p := fun k => (listed.setIfInBounds i true).getD k false)]
          have hstep : stSt ((i, o, l) :: B) (fun k => (listed.setIfInBounds i true).getD k false) (stSt A (fun k => (listed.setIfInBounds i true).getD k false) st) t
              = stSt B (fun _ => false) (putSt (stSt A (fun k => (listed.setIfInBounds i true).getD k false) st) l.ws) t := by
            rw [stSt_cons_true hpi]
            refine stSt_at rfl fun y hy hd => ?_
            show (listed.setIfInBounds i true).getD y.1 false = false
            rw [hset]
            have hyL : y ∈ L := by rw [hAB]; simp [hy]
            have hsorted : ∀ (M : List Row) {env st ids}, Good P rid ops sc n M env st ids → ∀ (A B : List Row) (x : Row), M = A ++ x :: B → ∀ y ∈ B, x.1 < y.1 := by
              intro M env' st' ids' hg
              induction hg with
              | nil => intro A B x hM; simp at hM
              | cons _ _ _ _ _ h6 _ ih =>
                intro A B x hM y hy
                cases A with
                | nil => simp only [List.nil_append, List.cons.injEq] at hM; obtain ⟨rfl, rfl⟩ := hM; exact h6 y hy
                | cons z A => simp only [List.cons_append, List.cons.injEq] at hM; exact ih A B x hM.2 y hy
            have hgt := hsorted L hC.good A B _ hAB _ hy
            have hyi : y.1 ≠ i := by omega
            have hs1 := hsame y hyL (.inr ⟨t, hd, .inr ht⟩) hyi
            simp only [hyi, if_false]
            rw [hs1]
            have : ¬ y.1 < i := by omega
            simp [this]
          rw [hstep]
          have hfalse : ∀ (M : List Row) (e : Nat → Option E.Obj), stSt M (fun _ => false) e = e := by
            intro M
            induction M with
            | nil => intro e; rfl
            | cons y M ih => intro e; simpa [stSt] using ih e
          rw [hfalse]
          exact putSt_touch ht
        · rw [putSt_other ht]
          refine stSt_at rfl fun y hy hd => ?_
          by_cases hyi : y.1 = i
          · have := hself y hy hyi
            subst this
            exact absurd hd ht
          · exact (hpne y hy hyi).symm
      simp only [e1, e2] at k1
      have k1' : St base X G' τ' ⟨n, stEnv L (fun k => (listed.setIfInBounds i true).getD k false) env, stSt L (fun k => (listed.setIfInBounds i true).getD k false) st, stIds L (fun k => (listed.setIfInBounds i true).getD k false) ids⟩ a' w' := by
        refine k1.ids_congr fun j hj => ?_
        rw [stIds_mem]
        rcases List.mem_append.1 hj with h | h
        · exact .inr ⟨(i, o, l), hx, by simp [hli], h⟩
        · rw [stIds_mem] at h
          rcases h with h | ⟨y, hy, hyl, hn⟩
          · exact .inl h
          · refine .inr ⟨y, hy, ?_, hn⟩
            show (listed.setIfInBounds i true).getD y.1 false = true
            rw [hset]
            split
            · rfl
            · exact hyl
      refine ih (listed.setIfInBounds i true) G' τ' a' w' ?_ (by simpa using hsz) ?_ k1' fun a2 w2 G2 τ2 q1 q2 q3 => hQ a2 w2 G2 τ2 q1 (k2.trans q2) (fun j hj => (q3 j hj).trans (k3 j (show j ∈ stIds L (fun k => listed.getD k false) ids from stIds_mem.2 (.inl hj))))
      · have hsub : ((List.range ops.size).filter fun k => !(listed.setIfInBounds i true).getD k false).length < ((List.range ops.size).filter fun k => !listed.getD k false).length := by
          have h1 : ((List.range ops.size).filter fun k => !(listed.setIfInBounds i true).getD k false) = (((List.range ops.size).filter fun k => !listed.getD k false).filter fun k => decide (k ≠ i)) := by
            rw [List.filter_filter]
            apply List.filter_congr
            intro k _
            rw [hset]
            by_cases hk : k = i
            · simp [hk]
            · simp [hk]
          rw [h1]
          apply List.length_filter_lt_length_iff_exists.2
          refine ⟨i, ?_, by simp⟩
          rw [List.mem_filter]
          exact ⟨by simpa using hlt, by simp only [h0', Bool.not_false]⟩
        omega
      · intro k hk j hj
        rw [hset] at hk ⊢
        by_cases hji : j = i
        · simp [hji]
        · rw [if_neg hji]
          by_cases hki : k = i
          · subst hki; exact hahead j hj
          · rw [if_neg hki] at hk; exact hdc k hk j hj

end Go.Proofs.Ytfpdlamjlbpmkaa.E
