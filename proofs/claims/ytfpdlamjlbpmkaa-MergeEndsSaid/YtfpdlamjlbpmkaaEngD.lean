/- The engine, part D: what operations do is what the run says: scalars, and the words for the rest. -/
import Derived.Test.YtfpdlamjlbpmkaaEngC
namespace Go.Proofs.Ytfpdlamjlbpmkaa.E
open Go
set_option linter.unusedSimpArgs false

mutual
theorem rep_mono {w w' : World} {G G' : Nat → Prop} {τ τ' : Nat → Gh} (h : ∀ b, G b → G' b ∧ w'.heap[b]? = w.heap[b]?) : ∀ (v : V) (x : Value), (∀ i ∈ v.ids, τ' i = τ i) → v.rep w G τ x → v.rep w' G' τ' x
  | .val v, x, _, hv => by simp only [V.rep] at hv ⊢; exact repI_mono h _ x hv
  | .nil, x, _, hv => by simp only [V.rep] at hv ⊢; exact repI_mono h _ x hv
  | .sl n rows, x, _, hv => by simp only [V.rep] at hv ⊢; exact repI_mono h _ x hv
  | .undef, _, _, _ => by simp only [V.rep]
  | .own id, x, ht, hv => by simp only [V.rep] at hv ⊢; rw [hv, ht id (by simp [V.ids])]
  | .ptr id n r o, x, ht, hv => by simp only [V.rep] at hv ⊢; rw [ht id (by simp [V.ids])]; exact hv
  | .vw id n a b, x, ht, hv => by simp only [V.rep] at hv ⊢; rw [ht id (by simp [V.ids])]; exact hv
  | .iptr n rows r o, x, _, hv => by
    simp only [V.rep] at hv ⊢
    obtain ⟨b, k, hg, hr, h1, h2⟩ := hv
    exact ⟨b, k, (h b hg).1, repRows_mono h n b (h b hg).2 k rows hr, h1, h2⟩
  | .agg cs, x, ht, hv => by
    simp only [V.rep] at hv ⊢
    obtain ⟨xs, e, hr⟩ := hv
    exact ⟨xs, e, repL_mono h cs xs.toList (by simpa only [V.ids] using ht) hr⟩
  | .tup cs, x, ht, hv => by
    simp only [V.rep] at hv ⊢
    obtain ⟨xs, e, hr⟩ := hv
    exact ⟨xs, e, repL_mono h cs xs.toList (by simpa only [V.ids] using ht) hr⟩
  | .clo fn f c, x, ht, hv => by
    simp only [V.rep] at hv ⊢
    obtain ⟨xs, ys, e, h1, h2⟩ := hv
    exact ⟨xs, ys, e, repL_mono h f xs.toList (fun i hi => ht i (by simp [V.ids, hi])) h1, repL_mono h c ys.toList (fun i hi => ht i (by simp [V.ids, hi])) h2⟩
theorem repL_mono {w w' : World} {G G' : Nat → Prop} {τ τ' : Nat → Gh} (h : ∀ b, G b → G' b ∧ w'.heap[b]? = w.heap[b]?) : ∀ (cs : List V) (xs : List Value), (∀ i ∈ idsL cs, τ' i = τ i) → repL w G τ cs xs → repL w' G' τ' cs xs
  | [], [], _, _ => by simp only [repL]
  | [], _ :: _, _, hr => by simp only [repL] at hr
  | _ :: _, [], _, hr => by simp only [repL] at hr
  | c :: cs, x :: xs, ht, hr => by
    simp only [repL] at hr ⊢
    exact ⟨rep_mono h c x (fun i hi => ht i (by simp [idsL, hi])) hr.1, repL_mono h cs xs (fun i hi => ht i (by simp [idsL, hi])) hr.2⟩
end

theorem repL_length {w : World} {G : Nat → Prop} {τ : Nat → Gh} : ∀ {cs : List V} {xs : List Value}, repL w G τ cs xs → cs.length = xs.length
  | [], [], _ => rfl
  | [], _ :: _, hr => by simp only [repL] at hr
  | _ :: _, [], hr => by simp only [repL] at hr
  | c :: cs, x :: xs, hr => by simp only [repL] at hr; simp [repL_length hr.2]

theorem repL_get {w : World} {G : Nat → Prop} {τ : Nat → Gh} : ∀ {cs : List V} {xs : List Value}, repL w G τ cs xs → ∀ (i : Nat) (c : V), cs[i]? = some c → ∃ x, xs[i]? = some x ∧ c.rep w G τ x
  | [], [], _, i, c, h => by simp at h
  | [], _ :: _, hr, _, _, _ => by simp only [repL] at hr
  | _ :: _, [], hr, _, _, _ => by simp only [repL] at hr
  | c :: cs, x :: xs, hr, 0, d, h => by simp only [repL] at hr; simp at h; subst h; exact ⟨x, by simp, hr.1⟩
  | c :: cs, x :: xs, hr, i + 1, d, h => by
    simp only [repL] at hr
    obtain ⟨y, h1, h2⟩ := repL_get hr.2 i d (by simpa using h)
    exact ⟨y, by simpa using h1, h2⟩

theorem repL_append {w : World} {G : Nat → Prop} {τ : Nat → Gh} : ∀ {cs : List V} {xs : List Value} {ds : List V} {ys : List Value}, repL w G τ cs xs → repL w G τ ds ys → repL w G τ (cs ++ ds) (xs ++ ys)
  | [], [], _, _, _, h => by simpa using h
  | [], _ :: _, _, _, hr, _ => by simp only [repL] at hr
  | _ :: _, [], _, _, hr, _ => by simp only [repL] at hr
  | c :: cs, x :: xs, _, _, hr, h => by simp only [repL] at hr; simp only [List.cons_append, repL]; exact ⟨hr.1, repL_append hr.2 h⟩

theorem repL_take {w : World} {G : Nat → Prop} {τ : Nat → Gh} : ∀ {cs : List V} {xs : List Value} (n : Nat), repL w G τ cs xs → repL w G τ (cs.take n) (xs.take n)
  | _, _, 0, _ => by simp only [List.take_zero, repL]
  | [], [], _ + 1, _ => by simp only [List.take_nil, repL]
  | [], _ :: _, _ + 1, hr => by simp only [repL] at hr
  | _ :: _, [], _ + 1, hr => by simp only [repL] at hr
  | c :: cs, x :: xs, n + 1, hr => by simp only [repL] at hr; simp only [List.take_succ_cons, repL]; exact ⟨hr.1, repL_take n hr.2⟩

theorem repL_drop {w : World} {G : Nat → Prop} {τ : Nat → Gh} : ∀ {cs : List V} {xs : List Value} (n : Nat), repL w G τ cs xs → repL w G τ (cs.drop n) (xs.drop n)
  | _, _, 0, h => by simpa using h
  | [], [], _ + 1, _ => by simp only [List.drop_nil, repL]
  | [], _ :: _, _ + 1, hr => by simp only [repL] at hr
  | _ :: _, [], _ + 1, hr => by simp only [repL] at hr
  | c :: cs, x :: xs, n + 1, hr => by simp only [repL] at hr; simp only [List.drop_succ_cons]; exact repL_drop n hr.2

/-! ### Scalars -/

theorem rep_ofCell {w : World} {G : Nat → Prop} {τ : Nat → Gh} (x : Value) : (ofCell x).rep w G τ x := by
  unfold ofCell; split <;> simp only [V.rep, V.repI]

theorem repL_ofCell {w : World} {G : Nat → Prop} {τ : Nat → Gh} : ∀ l : List Value, repL w G τ (l.map ofCell) l
  | [] => by simp only [List.map_nil, repL]
  | x :: l => by simp only [List.map_cons, repL]; exact ⟨rep_ofCell x, repL_ofCell l⟩

theorem rep_ofVal1 {w : World} {G : Nat → Prop} {τ : Nat → Gh} (x : Value) : (ofVal1 x).rep w G τ x := by
  unfold ofVal1; split
  · simp only [V.rep]; exact ⟨_, rfl, repL_ofCell _⟩
  · exact rep_ofCell _

theorem repL_ofVal1 {w : World} {G : Nat → Prop} {τ : Nat → Gh} : ∀ l : List Value, repL w G τ (l.map ofVal1) l
  | [] => by simp only [List.map_nil, repL]
  | x :: l => by simp only [List.map_cons, repL]; exact ⟨rep_ofVal1 x, repL_ofVal1 l⟩

theorem rep_ofVal {w : World} {G : Nat → Prop} {τ : Nat → Gh} (x : Value) : (ofVal x).rep w G τ x := by
  unfold ofVal; split
  · simp only [V.rep]; exact ⟨_, rfl, repL_ofVal1 _⟩
  · exact rep_ofVal1 _

theorem rep_cellVal {w : World} {G : Nat → Prop} {τ : Nat → Gh} {v : V} {x y : Value} (h : cellVal v = some y) (hr : v.rep w G τ x) : x = y := by
  cases v <;> simp only [cellVal, Option.some.injEq, reduceCtorEq] at h <;> simp only [V.rep, V.repI] at hr <;> rw [hr, h]

theorem repL_cellVal {w : World} {G : Nat → Prop} {τ : Nat → Gh} : ∀ {cs : List V} {xs ys : List Value}, allSome cellVal cs = some ys → repL w G τ cs xs → xs = ys
  | [], [], ys, h, _ => by simpa [allSome] using h
  | [], _ :: _, _, _, hr => by simp only [repL] at hr
  | _ :: _, [], _, _, hr => by simp only [repL] at hr
  | c :: cs, x :: xs, ys, h, hr => by
    simp only [repL] at hr
    simp only [allSome] at h
    cases h1 : cellVal c with
    | none => simp [h1] at h
    | some b => cases h2 : allSome cellVal cs with
      | none => simp [h1, h2] at h
      | some bs => simp only [h1, h2, Option.some.injEq] at h; subst h; rw [rep_cellVal h1 hr.1, repL_cellVal h2 hr.2]

theorem rep_toVal1 {w : World} {G : Nat → Prop} {τ : Nat → Gh} {v : V} {x y : Value} (h : v.toVal1 = some y) (hr : v.rep w G τ x) : x = y := by
  unfold V.toVal1 at h
  split at h
  · rename_i cs
    simp only [V.rep] at hr
    obtain ⟨xs, rfl, hr⟩ := hr
    split at h
    · simp at h
    · rename_i zs hz
      simp only [Option.some.injEq] at h
      subst h
      rw [← repL_cellVal hz hr]
  · exact rep_cellVal h hr

theorem repL_toVal1 {w : World} {G : Nat → Prop} {τ : Nat → Gh} : ∀ {cs : List V} {xs ys : List Value}, allSome V.toVal1 cs = some ys → repL w G τ cs xs → xs = ys
  | [], [], ys, h, _ => by simpa [allSome] using h
  | [], _ :: _, _, _, hr => by simp only [repL] at hr
  | _ :: _, [], _, _, hr => by simp only [repL] at hr
  | c :: cs, x :: xs, ys, h, hr => by
    simp only [repL] at hr
    simp only [allSome] at h
    cases h1 : c.toVal1 with
    | none => simp [h1] at h
    | some b => cases h2 : allSome V.toVal1 cs with
      | none => simp [h1, h2] at h
      | some bs => simp only [h1, h2, Option.some.injEq] at h; subst h; rw [rep_toVal1 h1 hr.1, repL_toVal1 h2 hr.2]

theorem rep_toVal {w : World} {G : Nat → Prop} {τ : Nat → Gh} {v : V} {x y : Value} (h : v.toVal = some y) (hr : v.rep w G τ x) : x = y := by
  unfold V.toVal at h
  split at h
  · rename_i cs
    simp only [V.rep] at hr
    obtain ⟨xs, rfl, hr⟩ := hr
    split at h
    · simp at h
    · rename_i zs hz
      simp only [Option.some.injEq] at h
      subst h
      rw [← repL_toVal1 hz hr]
  · exact rep_toVal1 h hr

theorem still_run {α : Type} {P : Program} : ∀ {s : Sem α} {a : α}, still P s = some a → ∀ w, s.run P w = .ok a w
  | .pure a, b, h, w => by simp only [still, Option.some.injEq] at h; subst h; rfl
  | .program k, b, h, w => by simp only [still] at h; simp only [Sem.run]; exact still_run h w
  | .mark m k, b, h, w => by simp only [still] at h; simp only [Sem.run]; exact still_run h w
  | .load _ _ _, _, h, _ => by simp [still] at h
  | .store _ _ _ _, _, h, _ => by simp [still] at h
  | .new _ _, _, h, _ => by simp [still] at h
  | .shape _ _, _, h, _ => by simp [still] at h
  | .freeze _ _ _, _, h, _ => by simp [still] at h
  | .frozen _ _, _, h, _ => by simp [still] at h
  | .getObj _ _, _, h, _ => by simp [still] at h
  | .setObj _ _ _, _, h, _ => by simp [still] at h
  | .choose _ _, _, h, _ => by simp [still] at h
  | .sys _ _, _, h, _ => by simp [still] at h
  | .halt _, _, h, _ => by simp [still] at h

theorem allSome_mem {α β : Type} {f : α → Option β} : ∀ {l : List α} {r : List β}, allSome f l = some r → ∀ x ∈ l, ∃ y, f x = some y
  | [], _, _, x, hx => by simp at hx
  | a :: l, r, h, x, hx => by
    simp only [allSome] at h
    cases h1 : f a with
    | none => simp [h1] at h
    | some b => cases h2 : allSome f l with
      | none => simp [h1, h2] at h
      | some bs =>
        rcases List.mem_cons.1 hx with rfl | hx
        · exact ⟨b, h1⟩
        · exact allSome_mem h2 x hx

theorem T.run_bind {α β : Type} (st : Nat → Option Obj) : ∀ (t : T α) (f : α → T β), (t.bind f).run st = match t.run st with
    | none => none
    | some (a, rs) => match (f a).run st with
      | none => none
      | some (b, rs') => some (b, rs ++ rs')
  | .ret a, f => by simp only [T.bind, T.run]; cases (f a).run st <;> simp
  | .fail, f => by simp only [T.bind, T.run]
  | .ask id k, f => by
    simp only [T.bind, T.run]
    cases st id with
    | none => rfl
    | some o =>
      simp only []
      rw [T.run_bind st (k o) f]
      cases (k o).run st with
      | none => rfl
      | some p =>
        obtain ⟨a, rs⟩ := p
        simp only []
        cases (f a).run st with
        | none => rfl
        | some q => simp

theorem T.run_bind_some {α β : Type} {st : Nat → Option Obj} {t : T α} {f : α → T β} {b : β} {rs : List Nat} (h : (t.bind f).run st = some (b, rs)) :
    ∃ a r1 r2, t.run st = some (a, r1) ∧ (f a).run st = some (b, r2) ∧ rs = r1 ++ r2 := by
  rw [T.run_bind] at h
  cases h1 : t.run st with
  | none => simp [h1] at h
  | some p =>
    obtain ⟨a, r1⟩ := p
    cases h2 : (f a).run st with
    | none => simp [h1, h2] at h
    | some q =>
      obtain ⟨b', r2⟩ := q
      simp only [h1, h2, Option.some.injEq, Prod.mk.injEq] at h
      exact ⟨a, r1, r2, rfl, by rw [← h.1]; exact h2, h.2.symm⟩

/-- The answer hangs on what it asked for alone. -/
theorem T.run_congr {α : Type} {st st' : Nat → Option Obj} : ∀ {t : T α} {a : α} {rs : List Nat}, t.run st = some (a, rs) → (∀ i ∈ rs, st' i = st i) → t.run st' = some (a, rs)
  | .ret a, b, rs, h, _ => by simpa only [T.run] using h
  | .fail, _, _, h, _ => by simp [T.run] at h
  | .ask id k, b, rs, h, hs => by
    simp only [T.run] at h ⊢
    cases h1 : st id with
    | none => simp [h1] at h
    | some o =>
      simp only [h1] at h
      cases h2 : (k o).run st with
      | none => simp [h2] at h
      | some p =>
        obtain ⟨c, r2⟩ := p
        simp only [h2, Option.some.injEq, Prod.mk.injEq] at h
        obtain ⟨rfl, rfl⟩ := h
        rw [hs id (by simp), h1]
        simp only []
        rw [T.run_congr h2 (fun i hi => hs i (by simp [hi]))]

/-- What an operation that answers a value (or nothing) does. -/
def OpRes (P : Program) (base : Nat) (X : Nat → Prop) (ids : List Nat) (G : Nat → Prop) (τ : Nat → Gh) (st : Nat → Option Obj) (w : World) (s : Sem Next) (e : Eff) : Prop :=
  ∃ x w' G' τ', (s.run P w = .ok (.value x) w' ∨ (s.run P w = .ok .skip w' ∧ x = Go.undef)) ∧ e.v.rep w' G' τ' x ∧ Mem base X G' τ' (putSt st e.ws) w' ∧ Ext base X G w G' w' ∧ ∀ i ∈ ids, τ' i = τ i

theorem Ext.refl (base : Nat) (X G : Nat → Prop) (w : World) : Ext base X G w G w :=
  ⟨rfl, rfl, rfl, Nat.le_refl _, fun _ _ _ => rfl, fun _ h => ⟨h, rfl⟩, fun _ h => .inl h⟩

theorem Ext.trans {base : Nat} {X G G' G'' : Nat → Prop} {w w' w'' : World} (h : Ext base X G w G' w') (k : Ext base X G' w' G'' w'') : Ext base X G w G'' w'' :=
  ⟨k.os.trans h.os, k.tape.trans h.tape, k.output.trans h.output, Nat.le_trans h.size k.size, fun b hb hx => (k.block b hb hx).trans (h.block b hb hx),
   fun b hb => ⟨(k.keep b (h.keep b hb).1).1, (k.keep b (h.keep b hb).1).2.trans (h.keep b hb).2⟩,
   fun b hb => (k.grow b hb).elim (h.grow b) .inr⟩

/-- A value, and nothing else. -/
theorem OpRes.pure {P : Program} {base : Nat} {X G : Nat → Prop} {ids : List Nat} {τ : Nat → Gh} {st : Nat → Option Obj} {w : World} {s : Sem Next} {v : V} {obs : List Prop} {x : Value}
    (hm : Mem base X G τ st w) (h : s.run P w = .ok (.value x) w) (hr : v.rep w G τ x) : OpRes P base X ids G τ st w s ⟨v, [], obs, []⟩ :=
  ⟨x, w, G, τ, .inl h, hr, hm, Ext.refl _ _ _ _, fun _ _ => rfl⟩

theorem genOp_res {P : Program} {base : Nat} {X G : Nat → Prop} {ids : List Nat} {τ : Nat → Gh} {st : Nat → Option Obj} {w : World} {rd : Operand → V} {ρ : Operand → Value} {o : Oper} {e : Eff} {rs : List Nat}
    (hs : ∀ cs b, o.op ≠ .select cs b) (hrd : ∀ x ∈ o.op.operands, (rd x).rep w G τ (ρ x)) (hm : Mem base X G τ st w) (h : (genOp P rd o).run st = some (e, rs)) :
    OpRes P base X ids G τ st w (execOp ρ o) e := by
  unfold genOp at h
  split at h
  · simp [T.run] at h
  · rename_i l hl
    have heq : execOp ρ o = execOp (fun x => ((rd x).toVal).getD Go.undef) o := by
      refine execOp_congr o hs fun x hx => ?_
      obtain ⟨y, hy⟩ := allSome_mem hl x (by simpa using hx)
      rw [hy]; exact rep_toVal hy (hrd x hx)
    split at h
    · rename_i v hv
      simp only [T.run, Option.some.injEq, Prod.mk.injEq] at h
      obtain ⟨rfl, rfl⟩ := h
      rw [heq]
      exact OpRes.pure hm (still_run hv w) (rep_ofVal v)
    · simp [T.run] at h

end Go.Proofs.Ytfpdlamjlbpmkaa.E
