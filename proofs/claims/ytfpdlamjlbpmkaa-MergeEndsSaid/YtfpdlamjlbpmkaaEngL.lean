/- The engine, part L: calls. -/
import Derived.Test.YtfpdlamjlbpmkaaEngK
namespace Go.Proofs.Ytfpdlamjlbpmkaa.E
open Go
set_option linter.unusedSimpArgs false

theorem idx_cons (a : Nat) (l : List Nat) (i : Nat) : idx (a :: l) i = bif a == i then some 0 else (match idx l i with
    | some j => some (j + 1)
    | none => none) := rfl

theorem idx_spec : ∀ {l : List Nat} {i j : Nat}, idx l i = some j → l[j]? = some i
  | [], i, j, h => by simp [idx] at h
  | a :: l, i, j, h => by
    unfold idx at h
    cases hai : a == i with
    | true =>
      simp only [hai, cond_true, Option.some.injEq] at h
      subst h
      simpa using hai
    | false =>
      simp only [hai, cond_false] at h
      cases hk : idx l i with
      | none => simp [hk] at h
      | some k =>
        simp only [hk, Option.some.injEq] at h
        subst h
        simpa using idx_spec hk

theorem idx_none : ∀ {l : List Nat} {i : Nat}, idx l i = none → i ∉ l
  | [], i, _ => by simp
  | a :: l, i, h => by
    unfold idx at h
    cases hai : a == i with
    | true => simp [hai] at h
    | false =>
      simp only [hai, cond_false] at h
      cases hk : idx l i with
      | some k => simp [hk] at h
      | none =>
        have hne : a ≠ i := by simpa using hai
        simp only [List.mem_cons, not_or]
        exact ⟨fun e => hne e.symm, idx_none hk⟩

theorem idx_mem {l : List Nat} {i : Nat} (h : i ∈ l) : ∃ j, idx l i = some j := by
  cases hk : idx l i with
  | some j => exact ⟨j, rfl⟩
  | none => exact absurd h (idx_none hk)

theorem nodupB_spec : ∀ {l : List Nat}, nodupB l = true → ∀ (i j : Nat) (a : Nat), l[i]? = some a → l[j]? = some a → i = j
  | [], _, i, j, a, h, _ => by simp at h
  | b :: l, h, i, j, a, hi, hj => by
    simp only [nodupB, Bool.and_eq_true, Bool.not_eq_true'] at h
    have hb : b ∉ l := by simpa using h.1
    cases i with
    | zero => cases j with
      | zero => rfl
      | succ j => simp at hi hj; subst hi; exact absurd (List.mem_of_getElem? hj) hb
    | succ i => cases j with
      | zero => simp at hi hj; subst hj; exact absurd (List.mem_of_getElem? hi) hb
      | succ j => simp at hi hj; rw [nodupB_spec h.2 i j a hi hj]

theorem subset_spec {a b : List Nat} (h : subset a b = true) : ∀ i ∈ a, i ∈ b := by
  intro i hi
  have := List.all_eq_true.1 h i hi
  simpa using this

theorem disjoint_spec {a b : List Nat} (h : disjoint a b = true) : ∀ i ∈ a, i ∉ b := by
  intro i hi
  have := List.all_eq_true.1 h i hi
  simpa using this

theorem zipWs_put : ∀ (ids : List Nat) (os : List (Option E.Obj)) (st : Nat → Option E.Obj), ids.length = os.length → nodupB ids = true → ∀ i, putSt st (zipWs ids os) i = match idx ids i with
    | some j => (os[j]?).getD none
    | none => st i
  | [], [], st, _, _, i => by simp [zipWs, putSt, idx]
  | [], _ :: _, _, h, _, _ => by simp at h
  | _ :: _, [], _, h, _, _ => by simp at h
  | a :: ids, o :: os, st, h, hn, i => by
    simp only [nodupB, Bool.and_eq_true, Bool.not_eq_true'] at hn
    have hb : a ∉ ids := by simpa using hn.1
    simp only [zipWs, putSt]
    rw [zipWs_put ids os _ (by simpa using h) hn.2 i, idx_cons]
    cases hai : a == i with
    | true =>
      have : a = i := by simpa using hai
      subst this
      have hnone : idx ids a = none := by
        cases hk : idx ids a with
        | none => rfl
        | some k => exact absurd (List.mem_of_getElem? (idx_spec hk)) hb
      rw [hnone]
      simp
    | false =>
      have hne : a ≠ i := by simpa using hai
      have hne' : (i == a) = false := by simp; exact fun e => hne e.symm
      simp only [cond_false]
      cases hk : idx ids i with
      | none => simp [hne']
      | some k => simp

/-! ### What is passed -/

def tauOf (τ : Nat → Gh) (ids : List Nat) : Nat → Gh := fun j => match ids[j]? with
  | some id => τ id
  | none => τ j

mutual
theorem pass_rep {base : Nat} {X G : Nat → Prop} {τ : Nat → Gh} {st : Nat → Option E.Obj} {w : World} (hm : Mem base X G τ st w) (ids lent : List Nat) (lend : Bool) :
    ∀ {v v' : V} {rs : List Nat} {x : Value}, (pass ids lend v).run st = some (v', rs) → (∀ i ∈ v.ids, i ∉ ids → i ∈ lent) → v.rep w G τ x → v'.rep w (giveG G τ st lent) (tauOf τ ids) x
  | .own id, v', rs, x, h, hl, hr => by
    simp only [pass] at h
    simp only [V.rep] at hr
    cases hk : idx ids id with
    | some j =>
      simp only [hk, T.run, Option.some.injEq, Prod.mk.injEq] at h
      obtain ⟨rfl, _⟩ := h
      simp only [V.rep, tauOf, idx_spec hk]
      exact hr
    | none =>
      simp only [hk] at h
      cases lend with
      | false => simp [T.run] at h
      | true =>
        simp only [cond_true] at h
        obtain ⟨o, r, ho, h, _⟩ := run_ask h
        split at h
        · simp only [T.run, Option.some.injEq, Prod.mk.injEq] at h
          obtain ⟨rfl, _⟩ := h
          simp only [V.rep]
          rw [hr]
          exact repI_given hm (hl id (by simp [V.ids]) (idx_none hk)) ho
        · simp [T.run] at h
  | .ptr id n q o, v', rs, x, h, _, hr => by
    simp only [pass] at h
    simp only [V.rep] at hr
    cases hk : idx ids id with
    | some j =>
      simp only [hk, T.run, Option.some.injEq, Prod.mk.injEq] at h
      obtain ⟨rfl, _⟩ := h
      simp only [V.rep, tauOf, idx_spec hk]
      exact hr
    | none => simp [hk, T.run] at h
  | .vw id n a b, v', rs, x, h, _, hr => by
    simp only [pass] at h
    simp only [V.rep] at hr
    cases hk : idx ids id with
    | some j =>
      simp only [hk, T.run, Option.some.injEq, Prod.mk.injEq] at h
      obtain ⟨rfl, _⟩ := h
      simp only [V.rep, tauOf, idx_spec hk]
      exact hr
    | none => simp [hk, T.run] at h
  | .agg cs, v', rs, x, h, hl, hr => by
    simp only [pass] at h
    obtain ⟨cs', r1, r2, h1, h2, _⟩ := T.run_bind_some h
    simp only [T.run, Option.some.injEq, Prod.mk.injEq] at h2
    obtain ⟨rfl, _⟩ := h2
    simp only [V.rep] at hr ⊢
    obtain ⟨xs, e, hr⟩ := hr
    exact ⟨xs, e, passL_rep hm ids lent lend h1 (fun i hi => hl i (by simpa only [V.ids] using hi)) hr⟩
  | .clo fn f c, v', rs, x, h, hl, hr => by
    simp only [pass] at h
    obtain ⟨f', r1, r2, h1, h2, _⟩ := T.run_bind_some h
    obtain ⟨c', r3, r4, h3, h4, _⟩ := T.run_bind_some h2
    simp only [T.run, Option.some.injEq, Prod.mk.injEq] at h4
    obtain ⟨rfl, _⟩ := h4
    simp only [V.rep] at hr ⊢
    obtain ⟨xs, ys, e, hr1, hr2⟩ := hr
    exact ⟨xs, ys, e, passL_rep hm ids lent lend h1 (fun i hi => hl i (by simp only [V.ids, List.mem_append]; exact .inl hi)) hr1, passL_rep hm ids lent lend h3 (fun i hi => hl i (by simp only [V.ids, List.mem_append]; exact .inr hi)) hr2⟩
  | .tup _, _, _, _, h, _, _ => by simp [pass, T.run] at h
  | .val y, v', rs, x, h, _, hr => by
    simp only [pass, T.run, Option.some.injEq, Prod.mk.injEq] at h
    obtain ⟨rfl, _⟩ := h
    simp only [V.rep] at hr ⊢
    exact repI_mono (fun b hb => ⟨.inl hb, rfl⟩) _ _ hr
  | .nil, v', rs, x, h, _, hr => by
    simp only [pass, T.run, Option.some.injEq, Prod.mk.injEq] at h
    obtain ⟨rfl, _⟩ := h
    simp only [V.rep] at hr ⊢
    exact repI_mono (fun b hb => ⟨.inl hb, rfl⟩) _ _ hr
  | .sl n rows, v', rs, x, h, _, hr => by
    simp only [pass, T.run, Option.some.injEq, Prod.mk.injEq] at h
    obtain ⟨rfl, _⟩ := h
    simp only [V.rep] at hr ⊢
    exact repI_mono (fun b hb => ⟨.inl hb, rfl⟩) _ _ hr
  | .iptr n rows q o, v', rs, x, h, _, hr => by
    simp only [pass, T.run, Option.some.injEq, Prod.mk.injEq] at h
    obtain ⟨rfl, _⟩ := h
    simp only [V.rep] at hr ⊢
    obtain ⟨b, k, h1, h2, h3, h4⟩ := hr
    exact ⟨b, k, .inl h1, repRows_mono (fun b hb => ⟨.inl hb, rfl⟩) n b rfl k rows h2, h3, h4⟩
  | .undef, v', rs, x, h, _, _ => by
    simp only [pass, T.run, Option.some.injEq, Prod.mk.injEq] at h
    obtain ⟨rfl, _⟩ := h
    simp only [V.rep]
theorem passL_rep {base : Nat} {X G : Nat → Prop} {τ : Nat → Gh} {st : Nat → Option E.Obj} {w : World} (hm : Mem base X G τ st w) (ids lent : List Nat) (lend : Bool) :
    ∀ {cs cs' : List V} {rs : List Nat} {xs : List Value}, (passL ids lend cs).run st = some (cs', rs) → (∀ i ∈ idsL cs, i ∉ ids → i ∈ lent) → repL w G τ cs xs → repL w (giveG G τ st lent) (tauOf τ ids) cs' xs
  | [], cs', rs, xs, h, _, hr => by
    simp only [passL, T.run, Option.some.injEq, Prod.mk.injEq] at h
    obtain ⟨rfl, _⟩ := h
    cases xs with
    | nil => simp only [repL]
    | cons x xs => simp only [repL] at hr
  | c :: cs, cs', rs, xs, h, hl, hr => by
    simp only [passL] at h
    obtain ⟨c', r1, r2, h1, h2, _⟩ := T.run_bind_some h
    obtain ⟨ds, r3, r4, h3, h4, _⟩ := T.run_bind_some h2
    simp only [T.run, Option.some.injEq, Prod.mk.injEq] at h4
    obtain ⟨rfl, _⟩ := h4
    cases xs with
    | nil => simp only [repL] at hr
    | cons x xs =>
      simp only [repL] at hr ⊢
      exact ⟨pass_rep hm ids lent lend h1 (fun i hi => hl i (by simp only [idsL, List.mem_append]; exact .inl hi)) hr.1, passL_rep hm ids lent lend h3 (fun i hi => hl i (by simp only [idsL, List.mem_append]; exact .inr hi)) hr.2⟩
end

mutual
/-- Without lending every name is among those that are passed. -/
theorem pass_ids1 {st : Nat → Option E.Obj} (ids : List Nat) : ∀ {v v' : V} {rs : List Nat}, (pass ids false v).run st = some (v', rs) → ∀ i ∈ v.ids, i ∈ ids
  | .own id, v', rs, h, i, hi => by
    simp only [V.ids, List.mem_singleton] at hi
    subst hi
    simp only [pass] at h
    cases hk : idx ids i with
    | some j => exact List.mem_of_getElem? (idx_spec hk)
    | none => simp [hk, T.run] at h
  | .ptr id n r o, v', rs, h, i, hi => by
    simp only [V.ids, List.mem_singleton] at hi
    subst hi
    simp only [pass] at h
    cases hk : idx ids i with
    | some j => exact List.mem_of_getElem? (idx_spec hk)
    | none => simp [hk, T.run] at h
  | .vw id n a b, v', rs, h, i, hi => by
    simp only [V.ids, List.mem_singleton] at hi
    subst hi
    simp only [pass] at h
    cases hk : idx ids i with
    | some j => exact List.mem_of_getElem? (idx_spec hk)
    | none => simp [hk, T.run] at h
  | .agg cs, v', rs, h, i, hi => by
    simp only [pass] at h
    obtain ⟨cs', r1, r2, h1, _, _⟩ := T.run_bind_some h
    exact pass_ids2 ids h1 i (by simpa only [V.ids] using hi)
  | .tup _, v', rs, h, i, hi => by simp [pass, T.run] at h
  | .clo fn f c, v', rs, h, i, hi => by
    simp only [pass] at h
    obtain ⟨f', r1, r2, h1, h2, _⟩ := T.run_bind_some h
    obtain ⟨c', r3, r4, h3, _, _⟩ := T.run_bind_some h2
    simp only [V.ids, List.mem_append] at hi
    rcases hi with hi | hi
    · exact pass_ids2 ids h1 i hi
    · exact pass_ids2 ids h3 i hi
  | .val _, _, _, _, i, hi => by simp [V.ids] at hi
  | .nil, _, _, _, i, hi => by simp [V.ids] at hi
  | .sl _ _, _, _, _, i, hi => by simp [V.ids] at hi
  | .iptr _ _ _ _, _, _, _, i, hi => by simp [V.ids] at hi
  | .undef, _, _, _, i, hi => by simp [V.ids] at hi
theorem pass_ids2 {st : Nat → Option E.Obj} (ids : List Nat) : ∀ {cs cs' : List V} {rs : List Nat}, (passL ids false cs).run st = some (cs', rs) → ∀ i ∈ idsL cs, i ∈ ids
  | [], _, _, _, i, hi => by simp [idsL] at hi
  | c :: cs, cs', rs, h, i, hi => by
    simp only [passL] at h
    obtain ⟨c', r1, r2, h1, h2, _⟩ := T.run_bind_some h
    obtain ⟨ds, r3, r4, h3, _, _⟩ := T.run_bind_some h2
    simp only [idsL, List.mem_append] at hi
    rcases hi with hi | hi
    · exact pass_ids1 ids h1 i hi
    · exact pass_ids2 ids h3 i hi
end

theorem passObjs_get {st : Nat → Option E.Obj} (all : List Nat) : ∀ {ids : List Nat} {objs : List E.Obj} {rs : List Nat}, (passObjs all ids).run st = some (objs, rs) →
    objs.length = ids.length ∧ ∀ (j : Nat) (o' : E.Obj), objs[j]? = some o' → ∃ (id : Nat) (o : E.Obj), ids[j]? = some id ∧ st id = some o ∧ ((o.rowsB = true ∧ o' = o) ∨ ∃ cs cs' rs', o = .box cs ∧ o' = .box cs' ∧ (passL all false cs).run st = some (cs', rs'))
  | [], objs, rs, h => by
    simp only [passObjs, T.run, Option.some.injEq, Prod.mk.injEq] at h
    obtain ⟨rfl, _⟩ := h
    exact ⟨rfl, by simp⟩
  | id :: ids, objs, rs, h => by
    simp only [passObjs] at h
    obtain ⟨o, r, ho, h, _⟩ := run_ask h
    split at h
    · rename_i cells
      obtain ⟨cs', r1, r2, h1, h2, _⟩ := T.run_bind_some h
      obtain ⟨os, r3, r4, h3, h4, _⟩ := T.run_bind_some h2
      simp only [T.run, Option.some.injEq, Prod.mk.injEq] at h4
      obtain ⟨rfl, _⟩ := h4
      obtain ⟨g1, g2⟩ := passObjs_get all h3
      refine ⟨by simp [g1], fun j o' hj => ?_⟩
      cases j with
      | zero => simp at hj; subst hj; exact ⟨id, _, by simp, ho, .inr ⟨cells, cs', r1, rfl, rfl, h1⟩⟩
      | succ j => obtain ⟨i, o2, k1, k2⟩ := g2 j o' (by simpa using hj); exact ⟨i, o2, by simpa using k1, k2⟩
    · rename_i n rows
      obtain ⟨os, r3, r4, h3, h4, _⟩ := T.run_bind_some h
      simp only [T.run, Option.some.injEq, Prod.mk.injEq] at h4
      obtain ⟨rfl, _⟩ := h4
      obtain ⟨g1, g2⟩ := passObjs_get all h3
      refine ⟨by simp [g1], fun j o' hj => ?_⟩
      cases j with
      | zero => simp at hj; subst hj; exact ⟨id, _, by simp, ho, .inl ⟨rfl, rfl⟩⟩
      | succ j => obtain ⟨i, o2, k1, k2⟩ := g2 j o' (by simpa using hj); exact ⟨i, o2, by simpa using k1, k2⟩
    · rename_i n rows c
      obtain ⟨os, r3, r4, h3, h4, _⟩ := T.run_bind_some h
      simp only [T.run, Option.some.injEq, Prod.mk.injEq] at h4
      obtain ⟨rfl, _⟩ := h4
      obtain ⟨g1, g2⟩ := passObjs_get all h3
      refine ⟨by simp [g1], fun j o' hj => ?_⟩
      cases j with
      | zero => simp at hj; subst hj; exact ⟨id, _, by simp, ho, .inl ⟨rfl, rfl⟩⟩
      | succ j => obtain ⟨i, o2, k1, k2⟩ := g2 j o' (by simpa using hj); exact ⟨i, o2, by simpa using k1, k2⟩

/-- The callee's memory. -/
theorem Mem.passed {base : Nat} {X G : Nat → Prop} {τ : Nat → Gh} {st : Nat → Option E.Obj} {w : World} {ps lent : List Nat} {objs : List E.Obj} {rs : List Nat}
    (hm : Mem base X G τ st w) (hn : nodupB ps = true) (hl : ∀ i ∈ lent, i ∉ ps) (h : (passObjs ps ps).run st = some (objs, rs)) :
    Mem w.heap.size (fun b => ∃ id ∈ ps, (∃ o, st id = some o) ∧ (τ id).blk = some b) (giveG G τ st lent) (tauOf τ ps) (objsAt objs) w ∧
    ∀ b, (∃ id ∈ ps, (∃ o, st id = some o) ∧ (τ id).blk = some b) → ∃ i o, objsAt objs i = some o ∧ (tauOf τ ps i).blk = some b := by
  obtain ⟨hlen, hget⟩ := passObjs_get ps h
  have htau : ∀ j id, ps[j]? = some id → tauOf τ ps j = τ id := fun j id hj => by simp [tauOf, hj]
  refine ⟨⟨(Mem.give hm lent).gold, fun j o' hj => ?_, fun j o' b hj hb => ?_, fun i j o1 o2 b h1 h2 hb1 hb2 => ?_⟩, fun b hb => ?_⟩
  · obtain ⟨id, o, g1, g2, g3⟩ := hget j o' hj
    have hin := List.mem_of_getElem? g1
    have hok := hm.ok id o g2
    have hnG : ∀ b, (τ id).blk = some b → giveG G τ st lent b → G b := by
      intro b hb hg
      rcases hg with hg | ⟨id', hid', ⟨n, rows, hs⟩, hb'⟩
      · exact hg
      · exact absurd (hm.inj id' id _ o b hs g2 hb' hb) (fun e => hl id' hid' (e ▸ hin))
    rcases g3 with ⟨hrb, rfl⟩ | ⟨cs, cs', rs', rfl, rfl, hp⟩
    · refine Obj.ok_mono (τ := fun _ => τ id) (τ' := tauOf τ ps) (id := j) (fun b hb => ⟨.inl hb, rfl⟩) (fun b hb => ⟨rfl, hnG b hb⟩) (htau j id g1) (fun i hi => by rw [idsObj_rows hrb] at hi; simp at hi) ?_
      exact Obj.ok_name hrb rfl hok
    · simp only [Obj.ok, rowsOk] at hok ⊢
      rw [htau j id g1]
      obtain ⟨b, xs, t, fz, e1, e2, e3, e4, e5⟩ := hok
      exact ⟨b, xs, t, fz, e1, e2, fun hg => e3 (hnG b e1 hg), e4, passL_rep hm ps lent false hp (fun i hi hni => absurd (pass_ids2 ps hp i hi) hni) e5⟩
  · obtain ⟨id, o, g1, g2, _⟩ := hget j o' hj
    rw [htau j id g1] at hb
    exact .inr ⟨id, List.mem_of_getElem? g1, ⟨o, g2⟩, hb⟩
  · obtain ⟨id1, p1, g1, g2, _⟩ := hget i o1 h1
    obtain ⟨id2, p2, k1, k2, _⟩ := hget j o2 h2
    rw [htau i id1 g1] at hb1
    rw [htau j id2 k1] at hb2
    have := hm.inj id1 id2 p1 p2 b g2 k2 hb1 hb2
    subst this
    exact nodupB_spec hn i j id1 g1 k1
  · obtain ⟨id, hid, ⟨o, ho⟩, hb⟩ := hb
    obtain ⟨j, hj⟩ := List.getElem?_of_mem hid
    have hlt : j < objs.length := by rw [hlen]; exact (List.getElem?_eq_some_iff.1 hj).1
    exact ⟨j, objs[j], by simp [objsAt, hlt], by rw [htau j id hj]; exact hb⟩

end Go.Proofs.Ytfpdlamjlbpmkaa.E
