/- The engine, part O: one operation in a frame; what it hangs on. -/
import Derived.Test.YtfpdlamjlbpmkaaEngN
namespace Go.Proofs.Ytfpdlamjlbpmkaa.E
open Go
set_option linter.unusedSimpArgs false

theorem allSome_congr {α β : Type} {f g : α → Option β} : ∀ {l : List α}, (∀ x ∈ l, f x = g x) → allSome f l = allSome g l
  | [], _ => rfl
  | a :: l, h => by simp only [allSome, h a (by simp), allSome_congr (l := l) (fun x hx => h x (by simp [hx]))]

theorem genOp_congr {P : Program} {rd rd' : Operand → V} {o : Oper} (hs : ∀ cs b, o.op ≠ .select cs b) (h : ∀ x ∈ o.op.operands, rd x = rd' x) : genOp P rd o = genOp P rd' o := by
  unfold genOp
  rw [allSome_congr (f := fun x => (rd x).toVal) (g := fun x => (rd' x).toVal) (fun x hx => by rw [h x (by simpa using hx)])]
  rw [execOp_congr (ρ := fun x => ((rd x).toVal).getD Go.undef) (ρ' := fun x => ((rd' x).toVal).getD Go.undef) o hs (fun x hx => by simp only [h x hx])]

theorem evalOp_congr {P : Program} {rd rd' : Operand → V} {site : Nat} {ans : List Ans} {o : Oper} (h : ∀ x ∈ o.op.operands, rd x = rd' x) : evalOp P rd site ans o = evalOp P rd' site ans o := by
  have gen : (∀ cs b, o.op ≠ .select cs b) → genOp P rd o = genOp P rd' o := fun hs => genOp_congr hs h
  unfold evalOp
  cases ho : o.op with
  | move x => simp only [h x (by simp [ho, Op.operands])]
  | assign x => simp only [h x (by simp [ho, Op.operands])]
  | alloc t => rfl
  | box t x => simp only [h x (by simp [ho, Op.operands])]
  | build t ps =>
    have : (ps.toList.map fun p => (p.1, rd p.2)) = ps.toList.map fun p => (p.1, rd' p.2) := List.map_congr_left fun p hp => by rw [h p.2 (by simp only [ho, Op.operands, List.mem_toArray, List.mem_map]; exact ⟨p, hp, rfl⟩)]
    simp only [evBuild, this]
  | buildSlice t n ps =>
    have : (ps.toList.map fun p => (p.1, rd p.2)) = ps.toList.map fun p => (p.1, rd' p.2) := List.map_congr_left fun p hp => by rw [h p.2 (by simp only [ho, Op.operands, List.mem_toArray, List.mem_map]; exact ⟨p, hp, rfl⟩)]
    simp only [evBuildSlice, this]
  | load t a => simp only [h a (by simp [ho, Op.operands])]
  | store t a x => simp only [h a (by simp [ho, Op.operands]), h x (by simp [ho, Op.operands])]
  | nilCheck x => simp only [h x (by simp [ho, Op.operands])]
  | binOp op t x y yt => simp only [h x (by simp [ho, Op.operands]), h y (by simp [ho, Op.operands]), gen (fun cs b => by rw [ho]; simp)]
  | unOp op t x => exact gen (fun cs b => by rw [ho]; simp)
  | convert s d x => exact gen (fun cs b => by rw [ho]; simp)
  | pick c x y => exact gen (fun cs b => by rw [ho]; simp)
  | extract x i => simp only [h x (by simp [ho, Op.operands])]
  | field t x f => simp only [h x (by simp [ho, Op.operands])]
  | index t x i => simp only [h x (by simp [ho, Op.operands]), h i (by simp [ho, Op.operands])]
  | fieldAddr t x f => simp only [h x (by simp [ho, Op.operands])]
  | indexAddr t x i => simp only [h x (by simp [ho, Op.operands]), h i (by simp [ho, Op.operands])]
  | slice t x lo hi mx =>
    have h1 : lo.map rd = lo.map rd' := by cases lo with
      | none => rfl
      | some y => simp [h y (by simp [ho, Op.operands])]
    have h2 : hi.map rd = hi.map rd' := by cases hi with
      | none => rfl
      | some y => simp [h y (by simp [ho, Op.operands])]
    have h3 : mx.map rd = mx.map rd' := by cases mx with
      | none => rfl
      | some y => simp [h y (by simp [ho, Op.operands])]
    simp only [h x (by simp [ho, Op.operands]), h1, h2, h3]
  | makeSlice t l c => simp only [h l (by simp [ho, Op.operands]), h c (by simp [ho, Op.operands])]
  | makeFunc fn f c =>
    have h1 : f.toList.map rd = f.toList.map rd' := List.map_congr_left fun y hy => h y (by simp only [ho, Op.operands, Array.mem_append]; exact .inl (by simpa using hy))
    have h2 : c.toList.map rd = c.toList.map rd' := List.map_congr_left fun y hy => h y (by simp only [ho, Op.operands, Array.mem_append]; exact .inr (by simpa using hy))
    simp only [h1, h2]
  | call c =>
    have hargs : ∀ y ∈ c.args.toList, rd y = rd' y := fun y hy => h y (by simp only [ho, Op.operands, Call.operands, Array.mem_append]; exact .inr (by simpa using hy))
    have h1 : c.args.toList.map rd = c.args.toList.map rd' := List.map_congr_left hargs
    have hg := gen (fun cs b => by rw [ho]; simp)
    simp only
    cases hcal : c.callee with
    | value f => simp only [h1, h f (by simp [ho, Op.operands, Call.operands, hcal])]
    | invoke r m => rfl
    | builtin b =>
      cases b <;> simp only [hg]
      · split
        · rename_i x y t u hx ht
          rw [hx] at hargs
          simp only [hargs x (by simp), hargs y (by simp)]
        · rfl
      · split
        · rename_i x t hx ht
          rw [hx] at hargs
          simp only [hargs x (by simp)]
        · rfl
      · split
        · rename_i x t hx ht
          rw [hx] at hargs
          simp only [hargs x (by simp)]
        · rfl
      · split
        · rename_i x y t u hx ht
          rw [hx] at hargs
          simp only [hargs x (by simp), hargs y (by simp)]
        · rfl
      · split
        · rename_i x t hx ht
          rw [hx] at hargs
          simp only [hargs x (by simp), evLen, hg]
        · rfl
  | _ => rfl

theorem rdO_congr {env env' : Nat → V} {l : List Nat} {xs : Array Operand} (hl : ∀ t, (Operand.tmp t) ∈ xs → t ∈ l) (h : ∀ t ∈ l, env t = env' t) : ∀ x ∈ xs, rdO env x = rdO env' x := by
  intro x hx
  cases x with
  | tmp t => exact h t (hl t hx)
  | const v => rfl
  | global g => rfl
  | func f => rfl

theorem guardOf_congr {ops : Array Oper} {env env' : Nat → V} {o : Oper} (h : ∀ t ∈ looksOf ops o, env t = env' t) : guardOf ops env o = guardOf ops env' o := by
  unfold guardOf
  unfold looksOf at h
  cases hg : o.guard with
  | none => rfl
  | some p =>
    obtain ⟨j, want⟩ := p
    simp only [hg] at h ⊢
    cases hj : ops[j]? with
    | none => rfl
    | some oj =>
      simp only [hj] at h ⊢
      cases hd : oj.dst with
      | none => rfl
      | some d =>
        simp only [hd] at h ⊢
        rw [h d (by simp)]

theorem logOp_congr {P : Program} {rid : Nat} {ops : Array Oper} {sc : List (Nat × List Ans × Option Bool)} {i : Nat} {o : Oper} {env env' : Nat → V} {st st' : Nat → Option E.Obj} {l : Log}
    (h : logOp P rid ops sc i o env st = some l) (he : ∀ t ∈ looksOf ops o, env' t = env t) (hs : ∀ j ∈ l.rs, st' j = st j) : logOp P rid ops sc i o env' st' = some l := by
  unfold logOp at h ⊢
  rw [guardOf_congr (env := env') (env' := env) he]
  split at h
  · simp at h
  · exact h
  · have hev : evalOp P (rdO env') (site rid i) (ansOf i sc).1 o = evalOp P (rdO env) (site rid i) (ansOf i sc).1 o := by
      refine evalOp_congr (rdO_congr (l := looksOf ops o) (fun t ht => ?_) he)
      unfold looksOf
      rw [List.mem_append]
      left
      rw [List.mem_filterMap]
      exact ⟨.tmp t, by simpa using ht, rfl⟩
    rw [hev]
    split at h
    · simp at h
    · rename_i e rs hr
      simp only [Option.some.injEq] at h
      subst h
      simp only [T.run_congr hr hs]

theorem getD_put {a : Act} {dst : Option Nat} {x : Value} {n : Nat} (hn : a.tmps.size = n) (hd : dstOk n dst = true) (t : Nat) : (a.put dst x).tmps.getD t Go.undef = if dst = some t then x else a.tmps.getD t Go.undef := by
  cases dst with
  | none => simp [Act.put]
  | some d =>
    have hlt : d < a.tmps.size := by rw [hn]; simpa [dstOk, Nat.blt_eq] using hd
    by_cases hdt : d = t
    · subst hdt
      simp [Act.put, hlt]
    · simp [Act.put, hdt, Array.getElem?_setIfInBounds_ne hdt]

theorem putSt_some : ∀ {ws : List (Nat × Option E.Obj)} {st : Nat → Option E.Obj} {i : Nat} {o : E.Obj}, putSt st ws i = some o → (i, some o) ∈ ws ∨ st i = some o
  | [], _, _, _, h => .inr h
  | (j, p) :: ws, st, i, o, h => by
    simp only [putSt] at h
    rcases putSt_some h with h | h
    · exact .inl (by simp [h])
    · by_cases hij : i = j
      · subst hij; simp at h; subst h; exact .inl (by simp)
      · have : (i == j) = false := by simpa using hij
        simp only [this, cond_false] at h
        exact .inr h

/-- The frame behind an operation. -/
theorem St.put {base : Nat} {X G G' : Nat → Prop} {τ τ' : Nat → Gh} {σ : S} {a : Act} {w w' : World} {dst : Option Nat} {x : Value} {v : V} {ws : List (Nat × Option E.Obj)} {new : List Nat}
    (hs : St base X G τ σ a w) (hd : dstOk σ.n dst = true) (hr : v.rep w' G' τ' x) (hm : Mem base X G' τ' (putSt σ.st ws) w') (he : Ext base X G w G' w') (ht : ∀ i ∈ σ.ids, τ' i = τ i)
    (hv : ∀ i ∈ v.ids, i ∈ new ++ σ.ids) (hw : ∀ i ∈ ws.map (·.1), i ∈ new ++ σ.ids) (hwo : ∀ i o, (i, some o) ∈ ws → ∀ j ∈ idsObj o, j ∈ new ++ σ.ids) :
    St base X G' τ' ⟨σ.n, putEnv σ.env dst v, putSt σ.st ws, new ++ σ.ids⟩ (a.put dst x) w' := by
  refine ⟨hm, Nat.le_trans hs.base he.size, ?_, fun t => ?_, fun t i hi => ?_, fun i o hi => ?_, ?_⟩
  · cases dst <;> simp [Act.put, hs.size]
  · rw [getD_put hs.size hd]
    have hold : (σ.env t).rep w' G' τ' (a.tmps.getD t Go.undef) := rep_mono he.keep _ _ (fun i hi => ht i (hs.ids t i hi)) (hs.env t)
    cases dst with
    | none => simpa [putEnv] using hold
    | some d =>
      simp only [putEnv]
      by_cases hdt : t = d
      · subst hdt; simpa using hr
      · have h1 : (t == d) = false := by simpa using hdt
        have h2 : ¬ d = t := fun e => hdt e.symm
        simp only [h1, cond_false, Option.some.injEq, h2, if_false]
        exact hold
  · cases dst with
    | none => exact List.mem_append.2 (.inr (hs.ids t i hi))
    | some d =>
      simp only [putEnv] at hi
      by_cases hdt : t = d
      · subst hdt; simp only [beq_self_eq_true, cond_true] at hi; exact hv i hi
      · have h1 : (t == d) = false := by simpa using hdt
        simp only [h1, cond_false] at hi
        exact List.mem_append.2 (.inr (hs.ids t i hi))
  · rcases putSt_some hi with h | h
    · exact ⟨hw i (List.mem_map.2 ⟨_, h, rfl⟩), hwo i o h⟩
    · obtain ⟨h1, h2⟩ := hs.objs i o h
      exact ⟨List.mem_append.2 (.inr h1), fun j hj => List.mem_append.2 (.inr (h2 j hj))⟩
  · cases dst <;> simp [Act.put, hs.defers]

theorem wanted_of {ops : Array Oper} {base : Nat} {X G : Nat → Prop} {τ : Nat → Gh} {σ : S} {a : Act} {w : World} {o : Oper} {b : Bool} (hs : St base X G τ σ a w) (h : guardOf ops σ.env o = some b) : Region.wanted o (yielded ops a.tmps) = b := by
  unfold guardOf at h
  unfold Region.wanted
  cases hg : o.guard with
  | none => simpa [hg] using h
  | some p =>
    obtain ⟨j, want⟩ := p
    simp only [hg] at h ⊢
    cases hj : ops[j]? with
    | none => simp [hj] at h
    | some oj =>
      simp only [hj] at h
      cases hd : oj.dst with
      | none => simp [hd] at h
      | some d =>
        simp only [hd] at h
        have hrep := hs.env d
        split at h
        · rename_i q hq
          simp only [Option.some.injEq] at h
          rw [hq] at hrep
          simp only [V.rep, V.repI] at hrep
          have hget : a.tmps[d]? = some (.bool q) := by
            cases hx : a.tmps[d]? with
            | none => simp [hx, Go.undef] at hrep
            | some y => simp [hx] at hrep; rw [hrep]
          simp only [yielded, hj, Option.bind_some, hd, hget]
          rw [← h]
          cases q <;> cases want <;> rfl
        · rename_i q hq
          simp only [Option.some.injEq] at h
          rw [hq] at hrep
          simp only [V.rep, V.repI] at hrep
          have hy : yielded ops a.tmps j = none := by
            simp only [yielded, hj, Option.bind_some, hd]
            cases hx : a.tmps[d]? with
            | none => rfl
            | some y => simp [hx] at hrep; subst hrep; rfl
          rw [hy, ← h]
          rfl
        · simp at h

/-- One operation in a frame. -/
theorem log_wp {P : Program} {base : Nat} {X G : Nat → Prop} {τ : Nat → Gh} {σ : S} {a : Act} {w : World} {rid : Nat} {ops : Array Oper} {sc : List (Nat × List Ans × Option Bool)} {i : Nat} {o : Oper} {l : Log} {K : Act → World → Prop} {Q : Exit → Act → World → Prop}
    (hs : St base X G τ σ a w) (ho : ops[i]? = some o) (h : logOp P rid ops sc i o σ.env σ.st = some l) (hp : ∀ p ∈ l.obs, p) (hd : dstOk σ.n o.dst = true) (hn : disjoint l.new σ.ids = true) (hv : ∀ j ∈ l.vids, j ∈ l.new ++ σ.ids)
    (hK : ∀ a' w' G' τ', St base X G' τ' ⟨σ.n, putEnv σ.env o.dst l.v, putSt σ.st l.ws, l.new ++ σ.ids⟩ a' w' → Ext base X G w G' w' → (∀ i ∈ σ.ids, τ' i = τ i) → K a' w') : wpOp P ops Q i K a w := by
  unfold wpOp
  rw [ho]
  simp only
  have hv1 : ∀ j ∈ l.v.ids, j ∈ l.new ++ σ.ids := fun j hj => hv j (by simp only [Log.vids, List.mem_append]; exact .inl hj)
  have hv2 : ∀ j ∈ l.ws.map (·.1), j ∈ l.new ++ σ.ids := fun j hj => hv j (by simp only [Log.vids, List.mem_append, Log.touch]; exact .inr (.inl hj))
  have hv3 : ∀ i o, (i, some o) ∈ l.ws → ∀ j ∈ idsObj o, j ∈ l.new ++ σ.ids := fun i o hi j hj => hv j (by
    simp only [Log.vids, List.mem_append]
    exact .inr (.inr (List.mem_flatMap.2 ⟨(i, some o), hi, hj⟩)))
  unfold logOp at h
  split at h
  · simp at h
  · rename_i hg
    simp only [Option.some.injEq] at h
    subst h
    rw [wanted_of hs hg]
    simp only [Bool.false_eq_true, if_false]
    exact hK _ w G τ (St.put hs hd (by simp only [V.rep, V.repI]) hs.mem (Ext.refl _ _ _ _) (fun _ _ => rfl) hv1 hv2 hv3) (Ext.refl _ _ _ _) (fun _ _ => rfl)
  · rename_i hg
    rw [wanted_of hs hg]
    simp only [if_true]
    left
    split at h
    · simp at h
    · rename_i e rs hr
      simp only [Option.some.injEq] at h
      subst h
      obtain ⟨e0, r1, r2, h1, h2', _⟩ := T.run_bind_some hr
      obtain ⟨e1, r3, r4, h3, h2, _⟩ := T.run_bind_some h2'
      have hdec : e.ws = e0.ws ∧ e.new = e0.new ∧ (∀ p ∈ e0.obs, p) ∧ ∀ {w' : World} {G' : Nat → Prop} {τ' : Nat → Gh} {x : Value}, e0.v.rep w' G' τ' x → e.v.rep w' G' τ' x := by
        have hdec1 : e.ws = e1.ws ∧ e.new = e1.new ∧ (∀ p ∈ e1.obs, p) ∧ ∀ {w' : World} {G' : Nat → Prop} {τ' : Nat → Gh} {x : Value}, e1.v.rep w' G' τ' x → e.v.rep w' G' τ' x := by
          unfold decided at h2
          split at h2
          · simp only [T.run, Option.some.injEq, Prod.mk.injEq] at h2
            obtain ⟨rfl, _⟩ := h2
            exact ⟨rfl, rfl, hp, fun h => h⟩
          · rename_i t _
            split at h2
            · rename_i b hb
              simp only [T.run, Option.some.injEq, Prod.mk.injEq] at h2
              obtain ⟨rfl, _⟩ := h2
              have hbt : b = t := hp _ (by simp)
              refine ⟨rfl, rfl, fun p hpm => hp p (by simp [hpm]), fun h => ?_⟩
              rw [hb, hbt] at h
              exact h
            · simp [T.run] at h2
        obtain ⟨q1, q2, q3, q4⟩ := hdec1
        obtain ⟨k1, k2, k3, k4⟩ := recast_spec h3 q3
        exact ⟨q1.trans k2, q2.trans k3, k4, fun h => q4 (by rw [k1]; exact h)⟩
      obtain ⟨d1, d2, d3, d4⟩ := hdec
      refine op_wp (rs := r1) hs.mem hs.base hs.objs hs.env hs.ids (fun j hj => ?_) h1 d3 (fun x w' G' τ' g1 g2 g3 g4 => ?_)
      · exact disjoint_spec hn j (by rw [d2]; exact hj)
      · exact hK _ w' G' τ' (St.put hs hd (d4 g1) (by simp only [d1]; exact g2) g3 g4 hv1 hv2 hv3) g3 g4

end Go.Proofs.Ytfpdlamjlbpmkaa.E
