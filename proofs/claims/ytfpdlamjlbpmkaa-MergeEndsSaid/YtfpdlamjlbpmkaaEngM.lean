/- The engine, part M: what comes back from a call. -/
import Derived.Test.YtfpdlamjlbpmkaaEngL
namespace Go.Proofs.Ytfpdlamjlbpmkaa.E
open Go
set_option linter.unusedSimpArgs false

mutual
theorem rep_flat {w : World} {G G' : Nat → Prop} {τ τ' : Nat → Gh} : ∀ {v : V} {x : Value}, v.flat = true → (∀ i ∈ v.ids, τ' i = τ i) → v.rep w G τ x → v.rep w G' τ' x
  | .val _, _, _, _, hr => by simp only [V.rep, V.repI] at hr ⊢; exact hr
  | .nil, _, _, _, hr => by simp only [V.rep, V.repI] at hr ⊢; exact hr
  | .undef, _, _, _, _ => by simp only [V.rep]
  | .sl _ _, _, h, _, _ => by simp [V.flat] at h
  | .iptr _ _ _ _, _, h, _, _ => by simp [V.flat] at h
  | .own id, _, _, ht, hr => by simp only [V.rep] at hr ⊢; rw [hr, ht id (by simp [V.ids])]
  | .ptr id n r o, _, _, ht, hr => by simp only [V.rep] at hr ⊢; rw [ht id (by simp [V.ids])]; exact hr
  | .vw id n a b, _, _, ht, hr => by simp only [V.rep] at hr ⊢; rw [ht id (by simp [V.ids])]; exact hr
  | .agg cs, x, h, ht, hr => by
    simp only [V.rep] at hr ⊢
    obtain ⟨xs, e, hr⟩ := hr
    exact ⟨xs, e, repL_flat (by simpa only [V.flat] using h) (by simpa only [V.ids] using ht) hr⟩
  | .tup cs, x, h, ht, hr => by
    simp only [V.rep] at hr ⊢
    obtain ⟨xs, e, hr⟩ := hr
    exact ⟨xs, e, repL_flat (by simpa only [V.flat] using h) (by simpa only [V.ids] using ht) hr⟩
  | .clo fn f c, x, h, ht, hr => by
    simp only [V.rep] at hr ⊢
    simp only [V.flat, Bool.and_eq_true] at h
    obtain ⟨xs, ys, e, h1, h2⟩ := hr
    exact ⟨xs, ys, e, repL_flat h.1 (fun i hi => ht i (by simp only [V.ids, List.mem_append]; exact .inl hi)) h1, repL_flat h.2 (fun i hi => ht i (by simp only [V.ids, List.mem_append]; exact .inr hi)) h2⟩
theorem repL_flat {w : World} {G G' : Nat → Prop} {τ τ' : Nat → Gh} : ∀ {cs : List V} {xs : List Value}, flatL cs = true → (∀ i ∈ idsL cs, τ' i = τ i) → repL w G τ cs xs → repL w G' τ' cs xs
  | [], [], _, _, _ => by simp only [repL]
  | [], _ :: _, _, _, hr => by simp only [repL] at hr
  | _ :: _, [], _, _, hr => by simp only [repL] at hr
  | c :: cs, x :: xs, h, ht, hr => by
    simp only [flatL, Bool.and_eq_true] at h
    simp only [repL] at hr ⊢
    exact ⟨rep_flat h.1 (fun i hi => ht i (by simp only [idsL, List.mem_append]; exact .inl hi)) hr.1, repL_flat h.2 (fun i hi => ht i (by simp only [idsL, List.mem_append]; exact .inr hi)) hr.2⟩
end

theorem repI_flat {w : World} {G G' : Nat → Prop} {v : V} {x : Value} (h : v.flat = true) (hr : v.repI w G x) : v.repI w G' x := by
  cases v <;> first | (simp only [V.repI] at hr ⊢; done) | (simp only [V.repI] at hr ⊢; exact hr) | (simp [V.flat] at h)

theorem repCells_flat {w : World} {G G' : Nat → Prop} {b : Nat} : ∀ {cs : List V} {o : Nat}, flatL cs = true → repCells w G b o cs → repCells w G' b o cs
  | [], _, _, _ => by simp only [repCells]
  | c :: cs, o, h, hr => by
    simp only [flatL, Bool.and_eq_true] at h
    simp only [repCells] at hr ⊢
    obtain ⟨⟨x, h1, h2, h3⟩, hr⟩ := hr
    exact ⟨⟨x, h1, h2, repI_flat h.1 h3⟩, repCells_flat h.2 hr⟩

theorem repRows_flatG {w : World} {G G' : Nat → Prop} {n b : Nat} : ∀ {rows : List (List V)} {o : Nat}, FlatRows rows → repRows w G n b o rows → repRows w G' n b o rows
  | [], _, _, _ => by simp only [repRows]
  | r :: rs, o, h, hr => by
    simp only [repRows] at hr ⊢
    exact ⟨hr.1, repCells_flat (h r (by simp)) hr.2.1, repRows_flatG (fun q hq => h q (by simp [hq])) hr.2.2⟩

mutual
theorem back_rep {w : World} {G : Nat → Prop} {τ τ' : Nat → Gh} {ids : List Nat} (ht : ∀ (j id : Nat), ids[j]? = some id → τ' id = τ j) : ∀ {v v' : V} {x : Value}, back ids v = some v' → v.rep w G τ x → v'.rep w G τ' x
  | .own j, v', x, h, hr => by
    simp only [back] at h
    split at h
    · rename_i id hid
      simp only [Option.some.injEq] at h
      subst h
      simp only [V.rep] at hr ⊢
      rw [ht j id hid]; exact hr
    · simp at h
  | .ptr j n r o, v', x, h, hr => by
    simp only [back] at h
    split at h
    · rename_i id hid
      simp only [Option.some.injEq] at h
      subst h
      simp only [V.rep] at hr ⊢
      rw [ht j id hid]; exact hr
    · simp at h
  | .vw j n a b, v', x, h, hr => by
    simp only [back] at h
    split at h
    · rename_i id hid
      simp only [Option.some.injEq] at h
      subst h
      simp only [V.rep] at hr ⊢
      rw [ht j id hid]; exact hr
    · simp at h
  | .agg cs, v', x, h, hr => by
    simp only [back] at h
    split at h
    · rename_i cs' hcs
      simp only [Option.some.injEq] at h
      subst h
      simp only [V.rep] at hr ⊢
      obtain ⟨xs, e, hr⟩ := hr
      exact ⟨xs, e, backL_rep ht hcs hr⟩
    · simp at h
  | .tup cs, v', x, h, hr => by
    simp only [back] at h
    split at h
    · rename_i cs' hcs
      simp only [Option.some.injEq] at h
      subst h
      simp only [V.rep] at hr ⊢
      obtain ⟨xs, e, hr⟩ := hr
      exact ⟨xs, e, backL_rep ht hcs hr⟩
    · simp at h
  | .clo fn f c, v', x, h, hr => by
    simp only [back] at h
    split at h
    · rename_i f' c' hf hc
      simp only [Option.some.injEq] at h
      subst h
      simp only [V.rep] at hr ⊢
      obtain ⟨xs, ys, e, h1, h2⟩ := hr
      exact ⟨xs, ys, e, backL_rep ht hf h1, backL_rep ht hc h2⟩
    · simp at h
  | .val _, v', x, h, hr => by simp only [back, Option.some.injEq] at h; subst h; simp only [V.rep] at hr ⊢; exact hr
  | .nil, v', x, h, hr => by simp only [back, Option.some.injEq] at h; subst h; simp only [V.rep] at hr ⊢; exact hr
  | .sl _ _, v', x, h, hr => by simp only [back, Option.some.injEq] at h; subst h; simp only [V.rep] at hr ⊢; exact hr
  | .iptr _ _ _ _, v', x, h, hr => by simp only [back, Option.some.injEq] at h; subst h; simp only [V.rep] at hr ⊢; exact hr
  | .undef, v', x, h, _ => by simp only [back, Option.some.injEq] at h; subst h; simp only [V.rep]
theorem backL_rep {w : World} {G : Nat → Prop} {τ τ' : Nat → Gh} {ids : List Nat} (ht : ∀ (j id : Nat), ids[j]? = some id → τ' id = τ j) : ∀ {cs cs' : List V} {xs : List Value}, backL ids cs = some cs' → repL w G τ cs xs → repL w G τ' cs' xs
  | [], cs', xs, h, hr => by
    simp only [backL, Option.some.injEq] at h
    subst h
    cases xs with
    | nil => simp only [repL]
    | cons => simp only [repL] at hr
  | c :: cs, cs', xs, h, hr => by
    simp only [backL] at h
    split at h
    · rename_i c' ds hc hd
      simp only [Option.some.injEq] at h
      subst h
      cases xs with
      | nil => simp only [repL] at hr
      | cons x xs =>
        simp only [repL] at hr ⊢
        exact ⟨back_rep ht hc hr.1, backL_rep ht hd hr.2⟩
    · simp at h
end

theorem backObjs_get {ids : List Nat} : ∀ {os os' : List (Option E.Obj)}, backObjs ids os = some os' → os'.length = os.length ∧ ∀ (j : Nat) (o' : Option E.Obj), os'[j]? = some o' → ∃ o, os[j]? = some o ∧ backObj ids o = some o'
  | [], os', h => by simp only [backObjs, Option.some.injEq] at h; subst h; exact ⟨rfl, by simp⟩
  | o :: os, os', h => by
    simp only [backObjs] at h
    split at h
    · rename_i p ps hp hps
      simp only [Option.some.injEq] at h
      subst h
      obtain ⟨h1, h2⟩ := backObjs_get hps
      refine ⟨by simp [h1], fun j o' hj => ?_⟩
      cases j with
      | zero => simp at hj; subst hj; exact ⟨o, by simp, hp⟩
      | succ j => obtain ⟨q, k1, k2⟩ := h2 j o' (by simpa using hj); exact ⟨q, by simpa using k1, k2⟩
    · simp at h

theorem flatObjs_get : ∀ {os : List (Option E.Obj)}, (∀ p ∈ flatObjs os, p) → ∀ (j : Nat) (o : Option E.Obj), os[j]? = some o → ∀ p ∈ flatObj o, p
  | [], _, j, o, h => by simp at h
  | q :: os, hp, j, o, h => by
    simp only [flatObjs, List.mem_append] at hp
    cases j with
    | zero => simp at h; subst h; exact fun p hm => hp p (.inl hm)
    | succ j => exact flatObjs_get (fun p hm => hp p (.inr hm)) j o (by simpa using h)

theorem newIds_len (site : Nat) : ∀ k, (newIds site k).length = k
  | 0 => rfl
  | k + 1 => by simp [newIds, newIds_len site k]

theorem newIds_mem (site : Nat) : ∀ k, ∀ i ∈ newIds site k, site + 1 ≤ i ∧ i < site + 1 + k
  | 0, i, h => by simp [newIds] at h
  | k + 1, i, h => by
    simp only [newIds, List.mem_append, List.mem_singleton] at h
    rcases h with h | h
    · have := newIds_mem site k i h; omega
    · omega

theorem nodup_append {a b : List Nat} (ha : nodupB a = true) (hb : nodupB b = true) (h : ∀ i ∈ a, i ∉ b) : nodupB (a ++ b) = true := by
  induction a with
  | nil => simpa using hb
  | cons x a ih =>
    simp only [nodupB, Bool.and_eq_true, Bool.not_eq_true'] at ha
    simp only [List.cons_append, nodupB, Bool.and_eq_true, Bool.not_eq_true']
    refine ⟨?_, ih ha.2 (fun i hi => h i (by simp [hi]))⟩
    have h1 : x ∉ a := by simpa using ha.1
    have h2 := h x (by simp)
    simp [h1, h2]

theorem newIds_nodup (site : Nat) : ∀ k, nodupB (newIds site k) = true
  | 0 => rfl
  | k + 1 => by
    refine nodup_append (newIds_nodup site k) (by simp [nodupB]) fun i hi h => ?_
    have := newIds_mem site k i hi
    simp at h; omega

/-- A call by contract. -/
theorem evCallX_wp {P : Program} {base : Nat} {X G : Nat → Prop} {τ : Nat → Gh} {st : Nat → Option E.Obj} {w : World} {ids : List Nat} {site : Nat} {ext : Bool} {ps give : List Nat} {r : V} {objs' : List (Option E.Obj)} {g : FuncId} {first caps : List V} {args : List V} {fs cps vals : Array Value} {e : Eff} {rs : List Nat} {s : Sem Next} {o : Oper} {a : Act}
    {K : Act → World → Prop} {Q : Exit → Act → World → Prop}
    (hm : Mem base X G τ st w) (hbase : base ≤ w.heap.size) (hc : Closed ids st) (hf1 : repL w G τ first fs.toList) (hf2 : repL w G τ caps cps.toList) (ha : repL w G τ args vals.toList)
    (hs : (∃ fn, P.funcs[g]? = some fn ∧ fn.name ≠ "runtime.NumGoroutine" ∧ fn.body.isSome = true) → s.run P w = .ok (.enter g (fs ++ vals ++ cps)) w)
    (hx : s.run P w = (callFunc g (fs ++ vals ++ cps)).run P w)
    (hnew : ∀ i ∈ e.new, i ∉ ids) (h : (evCallX P site ext ps give r objs' g (first ++ (args ++ caps))).run st = some (e, rs)) (hp : ∀ p ∈ e.obs, p)
    (hK : ∀ x w' G' τ', e.v.rep w' G' τ' x → Mem base X G' τ' (putSt st e.ws) w' → Ext base X G w G' w' → (∀ i ∈ ids, τ' i = τ i) → K (a.put o.dst x) w') :
    o.upon P a K Q (s.run P w) := by
  unfold evCallX at h
  · simp only at h
    obtain ⟨as, r1, r2, h1, h2, _⟩ := T.run_bind_some h
    obtain ⟨objs, r3, r4, h3, h4, _⟩ := T.run_bind_some h2
    clear h h2
    split at h4
    · rename_i r' os hback hbacks
      cases hb : nodupB ps && disjoint give ps && Nat.ble ps.length objs'.length && subset give ((idsL (first ++ (args ++ caps))).filter fun i => !ps.contains i) with
      | false => simp only [hb, cond_false, T.run, reduceCtorEq] at h4
      | true =>
        simp only [hb, cond_true, T.run, Option.some.injEq, Prod.mk.injEq] at h4
        obtain ⟨rfl, _⟩ := h4
        simp only [Bool.and_eq_true] at hb
        obtain ⟨⟨⟨b1, b2⟩, b3⟩, b4⟩ := hb
        have b3' := Nat.le_of_ble_eq_true b3
        generalize hlent : ((idsL (first ++ (args ++ caps))).filter fun i => !ps.contains i) = lent at *
        have hlps : ∀ i ∈ lent, i ∉ ps := by
          intro i hi
          rw [← hlent, List.mem_filter] at hi
          simpa using hi.2
        have hrepfull : repL w G τ (first ++ (args ++ caps)) (fs ++ vals ++ cps).toList := by
          simp only [Array.toList_append, List.append_assoc]
          exact repL_append hf1 (repL_append ha hf2)
        have hargs := passL_rep hm ps lent true h1 (fun i hi hni => by rw [← hlent, List.mem_filter]; exact ⟨hi, by simpa using hni⟩) hrepfull
        obtain ⟨hmc, hX⟩ := Mem.passed hm b1 hlps h3
        obtain ⟨hgl, hget⟩ := passObjs_get ps h3
        have via : ∀ (R : (∀ (v : Value) (w' : World), (∃ (G' : Nat → Prop) (τ' : Nat → Gh), Ext w.heap.size (fun b => ∃ id ∈ ps, (∃ o, st id = some o) ∧ (τ id).blk = some b) (giveG G τ st lent) w G' w' ∧ (∀ i, i < objs.length → τ' i = tauOf τ ps i) ∧ r.rep w' G' τ' v ∧ Mem w.heap.size (fun b => ∃ id ∈ ps, (∃ o, st id = some o) ∧ (τ id).blk = some b) G' τ' (objsAt' objs') w') → K (a.put o.dst v) w')), o.upon P a K Q (s.run P w) := by
          intro R
          cases ext with
          | false =>
            have hcon : Contract P g as objs r objs' := hp _ (by simp)
            rw [hs hcon.goes]
            show Calls P g _ w _
            refine Calls.mono (hcon.calls w _ _ _ _ hmc hX hargs) ?_
            rintro ev w' ⟨v, G', τ', rfl, h⟩
            exact R v w' ⟨G', τ', h⟩
          | true =>
            have hcon : ExtC P g as objs r objs' := hp _ (by simp)
            obtain ⟨v, w', G', τ', hrun, h⟩ := hcon.calls w _ _ _ _ hmc hX hargs
            rw [hx, hrun]
            exact R v w' ⟨G', τ', h⟩
        refine via fun v w' hpost => ?_
        obtain ⟨G', τ', hext, hτ, hrv, hm'⟩ := hpost
        -- names
        have hpsids : ∀ i ∈ ps, i ∈ ids := by
          intro i hi
          obtain ⟨j, hj⟩ := List.getElem?_of_mem hi
          have hlt : j < objs.length := by rw [hgl]; exact (List.getElem?_eq_some_iff.1 hj).1
          obtain ⟨id, o1, g1, g2, _⟩ := hget j objs[j] (by simp [hlt])
          rw [hj] at g1; cases g1
          exact (hc i o1 g2).1
        have hnewids : ∀ i ∈ newIds site (objs'.length - ps.length), i ∉ ids := fun i hi => hnew i hi
        have hnd : nodupB (ps ++ newIds site (objs'.length - ps.length)) = true := nodup_append b1 (newIds_nodup _ _) fun i hi h => hnewids i h (hpsids i hi)
        generalize hids2 : ps ++ newIds site (objs'.length - ps.length) = ids2 at *
        have hlen2 : ids2.length = objs'.length := by rw [← hids2, List.length_append, newIds_len]; omega
        obtain ⟨hosl, hosg⟩ := backObjs_get hbacks
        let τ2 : Nat → Gh := fun id => match idx (newIds site (objs'.length - ps.length)) id with
          | some j => τ' (ps.length + j)
          | none => τ id
        have hτold : ∀ i, i ∈ ids → τ2 i = τ i := by
          intro i hi
          show (match idx (newIds site (objs'.length - ps.length)) i with | some j => τ' (ps.length + j) | none => τ i) = τ i
          cases hk : idx (newIds site (objs'.length - ps.length)) i with
          | none => rfl
          | some j => exact absurd hi (hnewids i (List.mem_of_getElem? (idx_spec hk)))
        have hτ2 : ∀ (j id : Nat), ids2[j]? = some id → τ2 id = τ' j := by
          intro j id hj
          rw [← hids2] at hj
          by_cases hjl : j < ps.length
          · rw [List.getElem?_append_left hjl] at hj
            rw [hτold id (hpsids id (List.mem_of_getElem? hj)), hτ j (by omega)]
            simp [tauOf, hj]
          · rw [List.getElem?_append_right (by omega)] at hj
            show (match idx (newIds site (objs'.length - ps.length)) id with | some j => τ' (ps.length + j) | none => τ id) = τ' j
            obtain ⟨k, hk⟩ := idx_mem (List.mem_of_getElem? hj)
            have := nodupB_spec (newIds_nodup site (objs'.length - ps.length)) k (j - ps.length) id (idx_spec hk) hj
            rw [hk]
            simp only
            congr 1; omega
        let G2 : Nat → Prop := fun b => G' b ∧ ¬ ∃ id, id ∈ lent ∧ id ∉ give ∧ (∃ n rows, st id = some (.arr n rows)) ∧ (τ id).blk = some b
        have hsub : ∀ b, G2 b → G' b := fun b hb => hb.1
        -- nothing is lost, or nothing is read
        have hcase : (∀ b, G' b → G2 b) ∨ (r.flat = true ∧ ∀ p ∈ flatObjs objs', p) := by
          cases hsg : subset lent give with
          | true =>
            left
            intro b hb
            refine ⟨hb, ?_⟩
            rintro ⟨id, h1, h2, _⟩
            exact h2 (subset_spec hsg id h1)
          | false =>
            right
            simp only [hsg, cond_false] at hp
            exact ⟨hp _ (by simp), fun p hm => hp p (by simp [hm])⟩
        have hGG2 : ∀ b, G b → G2 b ∧ w'.heap[b]? = w.heap[b]? := by
          intro b hb
          obtain ⟨k1, k2⟩ := hext.keep b (.inl hb)
          refine ⟨⟨k1, ?_⟩, k2⟩
          rintro ⟨id, _, _, ⟨n, rows, hs'⟩, hb'⟩
          exact (Obj.ok_blk (hm.ok id _ hs') hb').1 hb
        have hst2 : ∀ (i : Nat) (o' : E.Obj), putSt st (zipWs ids2 os ++ kills give) i = some o' → i ∉ give ∧ ((∃ j : Nat, ids2[j]? = some i ∧ os[j]? = some (some o')) ∨ (i ∉ ids2 ∧ st i = some o')) := by
          intro i o' hi
          rw [putSt_append, putSt_kills] at hi
          by_cases hgi : i ∈ give
          · simp [hgi] at hi
          · simp only [hgi, if_false] at hi
            rw [zipWs_put ids2 os st (by rw [hlen2, hosl]) hnd i] at hi
            refine ⟨hgi, ?_⟩
            cases hk : idx ids2 i with
            | some j =>
              simp only [hk] at hi
              left
              refine ⟨j, idx_spec hk, ?_⟩
              cases hoj : os[j]? with
              | none => simp [hoj] at hi
              | some q => simp only [hoj, Option.getD_some] at hi; rw [hi]
            | none =>
              simp only [hk] at hi
              exact .inr ⟨idx_none hk, hi⟩
        have hin : ∀ (j i : Nat) (o' : E.Obj), ids2[j]? = some i → os[j]? = some (some o') → ∃ o1, objsAt' objs' j = some o1 ∧ backObj ids2 (some o1) = some (some o') := by
          intro j i o' _ ho'
          obtain ⟨p, k1, k2⟩ := hosg j (some o') ho'
          cases p with
          | none => simp [backObj] at k2
          | some o1 => exact ⟨o1, by simp [objsAt', k1], k2⟩
        have hXc : ∀ b, (∃ id ∈ ps, (∃ o, st id = some o) ∧ (τ id).blk = some b) → base ≤ b ∨ X b := by
          rintro b ⟨id, _, ⟨o1, ho1⟩, hb⟩
          exact hm.own id o1 b ho1 hb
        have hout : ∀ i o', i ∉ ids2 → st i = some o' → ∀ b, (τ i).blk = some b → b < w.heap.size ∧ ¬ (∃ id ∈ ps, (∃ o, st id = some o) ∧ (τ id).blk = some b) := by
          intro i o' hi ho' b hb
          obtain ⟨_, xs, t, fz, hh⟩ := Obj.ok_blk (hm.ok i o' ho') hb
          refine ⟨lt_of_get hh, ?_⟩
          rintro ⟨id, hid, ⟨o1, ho1⟩, hb1⟩
          have := hm.inj i id o' o1 b ho' ho1 hb hb1
          subst this
          exact hi (by rw [← hids2]; simp [hid])
        have hτ2out : ∀ i, i ∈ ids → τ2 i = τ i := hτold
        refine hK v w' G2 τ2 ?_ ?_ ?_ hτold
        · refine back_rep hτ2 hback ?_
          rcases hcase with hcase | ⟨hfl, _⟩
          · exact rep_mono (fun b hb => ⟨hcase b hb, rfl⟩) r v (fun _ _ => rfl) hrv
          · exact rep_flat hfl (fun _ _ => rfl) hrv
        · refine ⟨fun b hb => hm'.gold b hb.1, fun i o' hi => ?_, fun i o' b hi hb => ?_, fun i j o1 o2 b hi hj hb1 hb2 => ?_⟩
          · obtain ⟨hgi, hi⟩ := hst2 i o' hi
            rcases hi with ⟨j, hj1, hj2⟩ | ⟨hni, hsi⟩
            · obtain ⟨o1, k1, k2⟩ := hin j i o' hj1 hj2
              have hok := hm'.ok j o1 k1
              have hfl : (∀ b, G' b → G2 b) ∨ ∀ p ∈ flatObj (some o1), p := by
                rcases hcase with hcase | ⟨_, hfl⟩
                · exact .inl hcase
                · refine .inr (flatObjs_get hfl j (some o1) ?_)
                  simp only [objsAt'] at k1
                  split at k1
                  · rename_i q hq; rw [hq, k1]
                  · simp at k1
              cases o1 with
              | arr n rows =>
                simp only [backObj, Option.some.injEq] at k2
                subst k2
                simp only [Obj.ok, rowsOk] at hok ⊢
                rw [hτ2 j i hj1]
                obtain ⟨q1, q2, q3⟩ := hok
                refine ⟨q1, q2, ?_⟩
                rcases q3 with q3 | ⟨b, xs, t, fz, e1, e2, e3, e4, e5, e6, e7⟩
                · exact .inl q3
                · refine .inr ⟨b, xs, t, fz, e1, e2, e3, fun h => e4 h.1, e5, e6, ?_⟩
                  rcases hfl with hfl | hfl
                  · exact repRows_mono (fun b hb => ⟨hfl b hb, rfl⟩) n b rfl 0 rows e7
                  · exact repRows_flatG (hfl _ (by simp [flatObj])) e7
              | blk n rows c =>
                simp only [backObj, Option.some.injEq] at k2
                subst k2
                simp only [Obj.ok, rowsOk] at hok ⊢
                rw [hτ2 j i hj1]
                obtain ⟨q1, q2, q3⟩ := hok
                refine ⟨q1, q2, ?_⟩
                rcases q3 with q3 | ⟨b, xs, t, fz, e1, e2, e3, e4, e5, e6, e7⟩
                · exact .inl q3
                · refine .inr ⟨b, xs, t, fz, e1, e2, e3, fun h => e4 h.1, e5, e6, ?_⟩
                  rcases hfl with hfl | hfl
                  · exact repRows_mono (fun b hb => ⟨hfl b hb, rfl⟩) n b rfl 0 rows e7
                  · exact repRows_flatG (hfl _ (by simp [flatObj])) e7
              | box cells =>
                simp only [backObj] at k2
                split at k2
                · rename_i cs' hcs'
                  simp only [Option.some.injEq] at k2
                  subst k2
                  simp only [Obj.ok, rowsOk] at hok ⊢
                  rw [hτ2 j i hj1]
                  obtain ⟨b, xs, t, fz, e1, e2, e3, e4, e5⟩ := hok
                  refine ⟨b, xs, t, fz, e1, e2, fun h => e3 h.1, e4, backL_rep hτ2 hcs' ?_⟩
                  rcases hfl with hfl | hfl
                  · exact repL_mono (fun b hb => ⟨hfl b hb, rfl⟩) cells _ (fun _ _ => rfl) e5
                  · exact repL_flat (hfl _ (by simp [flatObj])) (fun _ _ => rfl) e5
                · simp at k2
            · obtain ⟨c1, c2⟩ := hc i o' hsi
              refine Obj.ok_mono hGG2 (fun b hb => ?_) (hτold i c1) (fun k hk => hτold k (c2 k hk)) (hm.ok i o' hsi)
              obtain ⟨k1, k2⟩ := hout i o' hni hsi b hb
              refine ⟨hext.block b k1 k2, fun hg2 => ?_⟩
              rcases hext.grow b hg2.1 with hgc | hx | hlt
              · rcases hgc with hg | ⟨id, hid, ⟨n, rows, hs'⟩, hb'⟩
                · exact hg
                · have := hm.inj id i _ o' b hs' hsi hb' hb
                  subst this
                  exact absurd ⟨id, hid, hgi, ⟨n, rows, hs'⟩, hb'⟩ hg2.2
              · exact absurd hx k2
              · omega
          · obtain ⟨_, hi⟩ := hst2 i o' hi
            rcases hi with ⟨j, hj1, hj2⟩ | ⟨hni, hsi⟩
            · obtain ⟨o1, k1, _⟩ := hin j i o' hj1 hj2
              rw [hτ2 j i hj1] at hb
              rcases hm'.own j o1 b k1 hb with h | h
              · exact .inl (by omega)
              · exact hXc b h
            · rw [hτold i (hc i o' hsi).1] at hb
              exact hm.own i o' b hsi hb
          · obtain ⟨_, hi⟩ := hst2 i o1 hi
            obtain ⟨_, hj⟩ := hst2 j o2 hj
            rcases hi with ⟨i', hi1, hi2⟩ | ⟨hni, hsi⟩ <;> rcases hj with ⟨j', hj1, hj2⟩ | ⟨hnj, hsj⟩
            · obtain ⟨p1, k1, _⟩ := hin i' i o1 hi1 hi2
              obtain ⟨p2, k2, _⟩ := hin j' j o2 hj1 hj2
              rw [hτ2 i' i hi1] at hb1
              rw [hτ2 j' j hj1] at hb2
              have := hm'.inj i' j' p1 p2 b k1 k2 hb1 hb2
              subst this
              rw [hi1] at hj1; exact Option.some.inj hj1
            · obtain ⟨p1, k1, _⟩ := hin i' i o1 hi1 hi2
              rw [hτ2 i' i hi1] at hb1
              rw [hτold j (hc j o2 hsj).1] at hb2
              obtain ⟨q1, q2⟩ := hout j o2 hnj hsj b hb2
              rcases hm'.own i' p1 b k1 hb1 with h | h
              · omega
              · exact absurd h q2
            · obtain ⟨p2, k2, _⟩ := hin j' j o2 hj1 hj2
              rw [hτ2 j' j hj1] at hb2
              rw [hτold i (hc i o1 hsi).1] at hb1
              obtain ⟨q1, q2⟩ := hout i o1 hni hsi b hb1
              rcases hm'.own j' p2 b k2 hb2 with h | h
              · omega
              · exact absurd h q2
            · rw [hτold i (hc i o1 hsi).1] at hb1
              rw [hτold j (hc j o2 hsj).1] at hb2
              exact hm.inj i j o1 o2 b hsi hsj hb1 hb2
        · refine ⟨hext.os, hext.tape, hext.output, hext.size, fun b hb hx => hext.block b (by omega) (fun h => ?_), hGG2, fun b hb => ?_⟩
          · rcases hXc b h with h | h
            · omega
            · exact hx h
          · rcases hext.grow b hb.1 with hgc | hx | hlt
            · rcases hgc with hg | ⟨id, _, ⟨n, rows, hs'⟩, hb'⟩
              · exact .inl hg
              · rcases hm.own id _ b hs' hb' with h | h
                · exact .inr (.inr h)
                · exact .inr (.inl h)
            · rcases hXc b hx with h | h
              · exact .inr (.inr h)
              · exact .inr (.inl h)
            · exact .inr (.inr (by omega))
    · simp [T.run] at h4

/-- A call by contract. -/
theorem evCall0_wp {P : Program} {base : Nat} {X G : Nat → Prop} {τ : Nat → Gh} {st : Nat → Option E.Obj} {w : World} {ids : List Nat} {site : Nat} {ans : List Ans} {f : V} {args : List V} {fx : Value} {vals : Array Value} {e : Eff} {rs : List Nat} {s : Sem Next} {o : Oper} {a : Act}
    {K : Act → World → Prop} {Q : Exit → Act → World → Prop}
    (hm : Mem base X G τ st w) (hbase : base ≤ w.heap.size) (hc : Closed ids st) (hf : f.rep w G τ fx) (ha : repL w G τ args vals.toList)
    (hs : ∀ g first caps, fx = .func (.func g) first caps → (∃ fn, P.funcs[g]? = some fn ∧ fn.name ≠ "runtime.NumGoroutine" ∧ fn.body.isSome = true) → s.run P w = .ok (.enter g (first ++ vals ++ caps)) w)
    (hx : ∀ g first caps, fx = .func (.func g) first caps → s.run P w = (callFunc g (first ++ vals ++ caps)).run P w)
    (hnew : ∀ i ∈ e.new, i ∉ ids) (h : (evCall0 P site ans f args).run st = some (e, rs)) (hp : ∀ p ∈ e.obs, p)
    (hK : ∀ x w' G' τ', e.v.rep w' G' τ' x → Mem base X G' τ' (putSt st e.ws) w' → Ext base X G w G' w' → (∀ i ∈ ids, τ' i = τ i) → K (a.put o.dst x) w') :
    o.upon P a K Q (s.run P w) := by
  unfold evCall0 at h
  split at h
  · simp only [V.rep] at hf
    obtain ⟨fs, cps, rfl, hf1, hf2⟩ := hf
    exact evCallX_wp hm hbase hc hf1 hf2 ha (hs _ _ _ rfl) (hx _ _ _ rfl) hnew h hp hK
  · simp only [V.rep] at hf
    obtain ⟨fs, cps, rfl, hf1, hf2⟩ := hf
    exact evCallX_wp hm hbase hc hf1 hf2 ha (hs _ _ _ rfl) (hx _ _ _ rfl) hnew h hp hK
  · simp [T.run] at h

/-- A call whose result a function of terms tells. -/
theorem evCall_wp {P : Program} {base : Nat} {X G : Nat → Prop} {τ : Nat → Gh} {st : Nat → Option E.Obj} {w : World} {ids : List Nat} {site : Nat} {ans : List Ans} {f : V} {args : List V} {fx : Value} {vals : Array Value} {e : Eff} {rs : List Nat} {s : Sem Next} {o : Oper} {a : Act}
    {K : Act → World → Prop} {Q : Exit → Act → World → Prop}
    (hm : Mem base X G τ st w) (hbase : base ≤ w.heap.size) (hc : Closed ids st) (hf : f.rep w G τ fx) (ha : repL w G τ args vals.toList)
    (hs : ∀ g first caps, fx = .func (.func g) first caps → (∃ fn, P.funcs[g]? = some fn ∧ fn.name ≠ "runtime.NumGoroutine" ∧ fn.body.isSome = true) → s.run P w = .ok (.enter g (first ++ vals ++ caps)) w)
    (hx : ∀ g first caps, fx = .func (.func g) first caps → s.run P w = (callFunc g (first ++ vals ++ caps)).run P w)
    (hnew : ∀ i ∈ e.new, i ∉ ids) (h : (evCall P site ans f args).run st = some (e, rs)) (hp : ∀ p ∈ e.obs, p)
    (hK : ∀ x w' G' τ', e.v.rep w' G' τ' x → Mem base X G' τ' (putSt st e.ws) w' → Ext base X G w G' w' → (∀ i ∈ ids, τ' i = τ i) → K (a.put o.dst x) w') :
    o.upon P a K Q (s.run P w) := by
  unfold evCall at h
  split at h
  · obtain ⟨as, r1, r2, _, h2, _⟩ := T.run_bind_some h
    split at h2
    · exact evCall0_wp hm hbase hc hf ha hs hx hnew h2 hp hK
    · simp [T.run] at h2
  · exact evCall0_wp hm hbase hc hf ha hs hx hnew h hp hK

end Go.Proofs.Ytfpdlamjlbpmkaa.E
