/- The engine, part R: code: what the run says of it is so. -/
import Derived.Test.YtfpdlamjlbpmkaaEngQ
namespace Go.Proofs.Ytfpdlamjlbpmkaa.E
open Go
set_option linter.unusedSimpArgs false

/-! ### Regions -/

theorem St.heap {base : Nat} {X G : Nat → Prop} {τ : Nat → Gh} {σ : S} {a : Act} {w w' : World} (h : St base X G τ σ a w) (hw : w'.heap = w.heap) : St base X G τ σ a w' :=
  ⟨h.mem.heap hw, by rw [hw]; exact h.base, h.size, fun t => rep_mono (fun b hb => ⟨hb, by rw [hw]⟩) _ _ (fun _ _ => rfl) (h.env t), h.ids, h.objs, h.defers⟩

theorem obsAll_mem : ∀ {ls : List Log}, (∀ p ∈ obsAll ls, p) → ∀ l ∈ ls, ∀ p ∈ l.obs, p
  | [], _, l, hl => by simp at hl
  | m :: ls, h, l, hl => by
    simp only [obsAll, List.mem_append] at h
    rcases List.mem_cons.1 hl with rfl | hl
    · exact fun p hp => h p (.inl hp)
    · exact obsAll_mem (fun p hp => h p (.inr hp)) l hl

theorem St.more {base : Nat} {X G : Nat → Prop} {τ : Nat → Gh} {σ : S} {a : Act} {w : World} {l : List Nat} (hs : St base X G τ σ a w) : St base X G τ (σ.more l) a w :=
  ⟨hs.mem, hs.base, hs.size, hs.env, fun t i hi => List.mem_append.2 (.inr (hs.ids t i hi)), fun i o ho => ⟨List.mem_append.2 (.inr (hs.objs i o ho).1), fun j hj => List.mem_append.2 (.inr ((hs.objs i o ho).2 j hj))⟩, hs.defers⟩

theorem runRegion_wp {P : Program} (hmix : P.follows .mixedOrders = true) {base : Nat} {X G : Nat → Prop} {τ : Nat → Gh} {rid : Nat} {ops : Array Oper} {draw : Bool} {sc : List (Nat × List Ans × Option Bool)} {σ σ' : S} {ps : List Prop} {a : Act} {w : World} {Q : Exit → Act → World → Prop}
    (h : runRegion P rid ops draw sc σ = some (σ', ps)) (hp : ∀ p ∈ ps, p) (hs : St base X G τ σ a w)
    (hQ : ∀ a' w' G' τ', St base X G' τ' σ' a' w' → Ext base X G w G' w' → (∀ i ∈ σ.ids, τ' i = τ i) → Q .normal a' w') : (Code.region rid ops draw).wp P Q a w := by
  unfold runRegion at h
  split at h
  · simp at h
  · rename_i σ2 ls hr
    cases draw with
    | false =>
      simp only [cond_false, Option.some.injEq, Prod.mk.injEq] at h
      obtain ⟨rfl, rfl⟩ := h
      exact wp_region (runOps_wp hr (obsAll_mem hp) hs fun a' w' G' τ' k1 k2 k3 => hQ a' w' G' τ' k1.more k2 k3)
    | true =>
      simp only [cond_true] at h
      cases hb : edgesBack ops && calmAt ops (aheadOf ops) ((List.range ops.size).zip (ops.toList.zip ls)) with
      | false => simp only [hb, cond_false, reduceCtorEq] at h
      | true =>
        simp only [hb, cond_true, Option.some.injEq, Prod.mk.injEq] at h
        obtain ⟨rfl, rfl⟩ := h
        simp only [Bool.and_eq_true] at hb
        obtain ⟨g1, g2, g3, g4, g5, g6⟩ := good_of_run 0 hr (by simp [List.range_eq_range'])
        simp only [List.drop_zero] at g1 g3 g4 g5
        have hls : ls.length = ops.size := by simpa using g6
        have hC : Calm P rid ops sc σ.n ((List.range ops.size).zip (ops.toList.zip ls)) σ.env σ.st σ.ids := by
          refine ⟨g1, hb.2, hb.1, fun i o ho => ?_, fun x hx => ?_⟩
          · have hi : i < ops.size := (Array.getElem?_eq_some_iff.1 ho).1
            have hil : i < ls.length := by omega
            refine ⟨ls[i], ?_⟩
            have hz : ((List.range ops.size).zip (ops.toList.zip ls))[i]? = some (i, o, ls[i]) := by
              have ho' : ops[i] = o := (Array.getElem?_eq_some_iff.1 ho).2
              simp [List.getElem?_zip_eq_some, ho', hi, hil]
            exact List.mem_of_getElem? hz
          · have h1 := (List.of_mem_zip hx).2
            have h2 := (List.of_mem_zip h1).2
            exact obsAll_mem hp _ h2
        refine wp_region_any hmix ?_
        have hfalse1 : stEnv ((List.range ops.size).zip (ops.toList.zip ls)) (fun k => (Array.replicate ops.size false).getD k false) σ.env = σ.env := by
          have : ∀ (M : List Row) (e : Nat → V), stEnv M (fun k => (Array.replicate ops.size false).getD k false) e = e := by
            intro M
            induction M with
            | nil => intro e; rfl
            | cons y M ih =>
              intro e
              have : (Array.replicate ops.size false).getD y.1 false = false := by simp [Array.getElem?_replicate]; split <;> rfl
              simp only [stEnv, List.foldl_cons, this, Bool.false_eq_true, if_false]
              exact ih e
          exact this _ _
        have hfalse2 : stSt ((List.range ops.size).zip (ops.toList.zip ls)) (fun k => (Array.replicate ops.size false).getD k false) σ.st = σ.st := by
          have : ∀ (M : List Row) (e : Nat → Option E.Obj), stSt M (fun k => (Array.replicate ops.size false).getD k false) e = e := by
            intro M
            induction M with
            | nil => intro e; rfl
            | cons y M ih =>
              intro e
              have : (Array.replicate ops.size false).getD y.1 false = false := by simp [Array.getElem?_replicate]; split <;> rfl
              simp only [stSt, List.foldl_cons, this, Bool.false_eq_true, if_false]
              exact ih e
          exact this _ _
        have hs2 : St base X G τ σ a { w with drawn := w.drawn + 1 } := hs.heap rfl
        refine any_wp (base := base) (X := X) hC ops.size _ G τ a _ ?_ (by simp) (fun k hk => ?_) ?_ fun a' w' G' τ' k1 k2 k3 => ?_
        · refine Nat.le_trans (List.length_filter_le _ _) (by simp)
        · have : (Array.replicate ops.size false).getD k false = false := by simp [Array.getElem?_replicate]; split <;> rfl
          rw [this] at hk; simp at hk
        · rw [hfalse1, hfalse2]
          exact St.ids_congr hs2 fun i hi => stIds_mem.2 (.inl hi)
        · refine hQ a' w' G' τ' ?_ (Ext.trans (Ext.drew w) k2) k3
          cases σ2 with
          | mk n2 env2 st2 ids2 =>
            simp only at g2 g3 g4 g5
            subst g2 g3 g4
            exact (St.ids_congr k1 fun i hi => (g5 i).2 hi).more

/-! ### What is kept of a frame -/

mutual
theorem renV_rep {w : World} {G : Nat → Prop} {τ τ' : Nat → Gh} {ren : List (Nat × Nat)} (ht : ∀ a b : Nat, renId ren a = some b → τ' b = τ a) : ∀ {v v' : V} {x : Value}, renV ren v = some v' → v.rep w G τ x → v'.rep w G τ' x
  | .own j, v', x, h, hr => by
    simp only [renV] at h
    split at h
    · rename_i id hid
      simp only [Option.some.injEq] at h
      subst h
      simp only [V.rep] at hr ⊢
      rw [ht j id hid]; exact hr
    · simp at h
  | .ptr j n r o, v', x, h, hr => by
    simp only [renV] at h
    split at h
    · rename_i id hid
      simp only [Option.some.injEq] at h
      subst h
      simp only [V.rep] at hr ⊢
      rw [ht j id hid]; exact hr
    · simp at h
  | .vw j n a b, v', x, h, hr => by
    simp only [renV] at h
    split at h
    · rename_i id hid
      simp only [Option.some.injEq] at h
      subst h
      simp only [V.rep] at hr ⊢
      rw [ht j id hid]; exact hr
    · simp at h
  | .agg cs, v', x, h, hr => by
    simp only [renV] at h
    split at h
    · rename_i cs' hcs
      simp only [Option.some.injEq] at h
      subst h
      simp only [V.rep] at hr ⊢
      obtain ⟨xs, e, hr⟩ := hr
      exact ⟨xs, e, renL_rep ht hcs hr⟩
    · simp at h
  | .tup cs, v', x, h, hr => by
    simp only [renV] at h
    split at h
    · rename_i cs' hcs
      simp only [Option.some.injEq] at h
      subst h
      simp only [V.rep] at hr ⊢
      obtain ⟨xs, e, hr⟩ := hr
      exact ⟨xs, e, renL_rep ht hcs hr⟩
    · simp at h
  | .clo fn f c, v', x, h, hr => by
    simp only [renV] at h
    split at h
    · rename_i f' c' hf hc
      simp only [Option.some.injEq] at h
      subst h
      simp only [V.rep] at hr ⊢
      obtain ⟨xs, ys, e, h1, h2⟩ := hr
      exact ⟨xs, ys, e, renL_rep ht hf h1, renL_rep ht hc h2⟩
    · simp at h
  | .val _, v', x, h, hr => by simp only [renV, Option.some.injEq] at h; subst h; simp only [V.rep] at hr ⊢; exact hr
  | .nil, v', x, h, hr => by simp only [renV, Option.some.injEq] at h; subst h; simp only [V.rep] at hr ⊢; exact hr
  | .sl _ _, v', x, h, hr => by simp only [renV, Option.some.injEq] at h; subst h; simp only [V.rep] at hr ⊢; exact hr
  | .iptr _ _ _ _, v', x, h, hr => by simp only [renV, Option.some.injEq] at h; subst h; simp only [V.rep] at hr ⊢; exact hr
  | .undef, v', x, h, _ => by simp only [renV, Option.some.injEq] at h; subst h; simp only [V.rep]
theorem renL_rep {w : World} {G : Nat → Prop} {τ τ' : Nat → Gh} {ren : List (Nat × Nat)} (ht : ∀ a b : Nat, renId ren a = some b → τ' b = τ a) : ∀ {cs cs' : List V} {xs : List Value}, renL ren cs = some cs' → repL w G τ cs xs → repL w G τ' cs' xs
  | [], cs', xs, h, hr => by
    simp only [renL, Option.some.injEq] at h
    subst h
    cases xs with
    | nil => simp only [repL]
    | cons => simp only [repL] at hr
  | c :: cs, cs', xs, h, hr => by
    simp only [renL] at h
    split at h
    · rename_i c' ds hc hd
      simp only [Option.some.injEq] at h
      subst h
      cases xs with
      | nil => simp only [repL] at hr
      | cons x xs =>
        simp only [repL] at hr ⊢
        exact ⟨renV_rep ht hc hr.1, renL_rep ht hd hr.2⟩
    · simp at h
end

theorem renId_mem : ∀ {ren : List (Nat × Nat)} {a b : Nat}, renId ren a = some b → (a, b) ∈ ren
  | [], a, b, h => by simp [renId] at h
  | (c, d) :: l, a, b, h => by
    simp only [renId] at h
    cases hca : a == c with
    | true =>
      simp only [hca, cond_true, Option.some.injEq] at h
      have : a = c := by simpa using hca
      subst this h
      simp
    | false =>
      simp only [hca, cond_false] at h
      exact List.mem_cons_of_mem _ (renId_mem h)

/-- The names that a nil slice got: none of them stands for anything yet. -/
def Newly (τ : Nat → Gh) (l : List (Nat × E.Obj)) : Prop := ∀ p ∈ l, τ p.1 = ⟨none, none, 0, 0⟩ ∧ ∃ n, p.2 = .arr n []

theorem renAt_rep {w : World} {G : Nat → Prop} {τ τ' : Nat → Gh} {ren : List (Nat × Nat)} (ht : ∀ a b : Nat, renId ren a = some b → τ' b = τ a) {fr : Option (Nat × Nat)} {v v' : V} {l : List (Nat × E.Obj)} {x : Value}
    (h : renAt ren fr v = some (v', l)) (hn : ∀ p ∈ l, τ' p.1 = ⟨none, none, 0, 0⟩) (hr : v.rep w G τ x) : v'.rep w G τ' x := by
  unfold renAt at h
  split at h
  · rename_i id n
    simp only [Option.some.injEq, Prod.mk.injEq] at h
    obtain ⟨rfl, rfl⟩ := h
    simp only [V.rep, V.repI] at hr ⊢
    rw [hn (id, .arr n []) (by simp), hr]
    rfl
  · split at h
    · rename_i v2 hv2
      simp only [Option.some.injEq, Prod.mk.injEq] at h
      obtain ⟨rfl, _⟩ := h
      exact renV_rep ht hv2 hr
    · simp at h

theorem renAt_new {ren : List (Nat × Nat)} {fr : Option (Nat × Nat)} {v v' : V} {l : List (Nat × E.Obj)} (h : renAt ren fr v = some (v', l)) : ∀ p ∈ l, ∃ n, p.2 = E.Obj.arr n [] := by
  unfold renAt at h
  split at h
  · simp only [Option.some.injEq, Prod.mk.injEq] at h
    obtain ⟨_, rfl⟩ := h
    intro p hp; simp at hp; subst hp; exact ⟨_, rfl⟩
  · split at h
    · simp only [Option.some.injEq, Prod.mk.injEq] at h
      obtain ⟨_, rfl⟩ := h
      simp
    · simp at h

theorem renCells_rep {w : World} {G : Nat → Prop} {τ τ' : Nat → Gh} {ren : List (Nat × Nat)} (ht : ∀ a b : Nat, renId ren a = some b → τ' b = τ a) {fr : List Fr} {b : Nat} : ∀ {cs cs' : List V} {o : Nat} {l : List (Nat × E.Obj)} {xs : List Value},
    renCells ren fr b o cs = some (cs', l) → (∀ p ∈ l, τ' p.1 = ⟨none, none, 0, 0⟩) → repL w G τ cs xs → repL w G τ' cs' xs
  | [], cs', o, l, xs, h, _, hr => by
    simp only [renCells, Option.some.injEq, Prod.mk.injEq] at h
    obtain ⟨rfl, _⟩ := h
    cases xs with
    | nil => simp only [repL]
    | cons => simp only [repL] at hr
  | c :: cs, cs', o, l, xs, h, hn, hr => by
    simp only [renCells] at h
    split at h
    · rename_i c' l1 ds l2 h1 h2
      simp only [Option.some.injEq, Prod.mk.injEq] at h
      obtain ⟨rfl, rfl⟩ := h
      cases xs with
      | nil => simp only [repL] at hr
      | cons x xs =>
        simp only [repL] at hr ⊢
        exact ⟨renAt_rep ht h1 (fun p hp => hn p (by simp [hp])) hr.1, renCells_rep ht h2 (fun p hp => hn p (by simp [hp])) hr.2⟩
    · simp at h

theorem renCells_new {ren : List (Nat × Nat)} {fr : List Fr} {b : Nat} : ∀ {cs cs' : List V} {o : Nat} {l : List (Nat × E.Obj)}, renCells ren fr b o cs = some (cs', l) → ∀ p ∈ l, ∃ n, p.2 = E.Obj.arr n []
  | [], cs', o, l, h => by
    simp only [renCells, Option.some.injEq, Prod.mk.injEq] at h
    obtain ⟨_, rfl⟩ := h
    simp
  | c :: cs, cs', o, l, h => by
    simp only [renCells] at h
    split at h
    · rename_i c' l1 ds l2 h1 h2
      simp only [Option.some.injEq, Prod.mk.injEq] at h
      obtain ⟨_, rfl⟩ := h
      intro p hp
      rcases List.mem_append.1 hp with hp | hp
      · exact renAt_new h1 p hp
      · exact renCells_new h2 p hp
    · simp at h

theorem normEnv_get {σ : S} {nm : Norm} : ∀ {ts : List Nat} {env : List (Nat × V)} {l : List (Nat × E.Obj)}, normEnv σ nm ts = some (env, l) →
    (∀ t, mkEnv env t = .undef ∨ ∃ l', renAt nm.ren (frSlot nm.fresh t) (σ.env t) = some (mkEnv env t, l') ∧ ∀ p ∈ l', p ∈ l) ∧ (∀ p ∈ l, ∃ n, p.2 = E.Obj.arr n []) ∧ ∀ t, mkEnv env t = .undef ∨ (t, mkEnv env t) ∈ env
  | [], env, l, h => by
    simp only [normEnv, Option.some.injEq, Prod.mk.injEq] at h
    obtain ⟨rfl, rfl⟩ := h
    exact ⟨fun t => .inl rfl, by simp, fun t => .inl rfl⟩
  | t :: ts, env, l, h => by
    simp only [normEnv] at h
    split at h
    · rename_i v l1 e l2 h1 h2
      simp only [Option.some.injEq, Prod.mk.injEq] at h
      obtain ⟨rfl, rfl⟩ := h
      obtain ⟨g1, g2, g3⟩ := normEnv_get h2
      refine ⟨fun u => ?_, fun p hp => ?_, fun u => ?_⟩
      · simp only [mkEnv]
        cases hu : u == t with
        | true =>
          have : u = t := by simpa using hu
          subst this
          exact .inr ⟨l1, h1, fun p hp => by simp [hp]⟩
        | false =>
          simp only [cond_false]
          rcases g1 u with g | ⟨l', g, g'⟩
          · exact .inl g
          · exact .inr ⟨l', g, fun p hp => by simp [g' p hp]⟩
      · rcases List.mem_append.1 hp with hp | hp
        · exact renAt_new h1 p hp
        · exact g2 p hp
      · simp only [mkEnv]
        cases hu : u == t with
        | true =>
          have : u = t := by simpa using hu
          subst this
          exact .inr (by simp)
        | false =>
          simp only [cond_false]
          rcases g3 u with g | g
          · exact .inl g
          · exact .inr (by simp [g])
    · simp at h

theorem normSt_get {σ : S} {nm : Norm} : ∀ {ren : List (Nat × Nat)} {st l : List (Nat × E.Obj)}, normSt σ nm ren = some (st, l) →
    st.map (·.1) = ren.map (·.2) ∧ (∀ p ∈ l, ∃ n, p.2 = E.Obj.arr n []) ∧ (∀ b o', (b, o') ∈ st → ∃ a o, (a, b) ∈ ren ∧ σ.st a = some o ∧ ((o.rowsB = true ∧ o' = o) ∨ ∃ cs cs' l', o = E.Obj.box cs ∧ o' = E.Obj.box cs' ∧ renCells nm.ren nm.fresh a 0 cs = some (cs', l') ∧ ∀ p ∈ l', p ∈ l)) ∧
      ∀ a b, (a, b) ∈ ren → ∃ o, σ.st a = some o
  | [], st, l, h => by
    simp only [normSt, Option.some.injEq, Prod.mk.injEq] at h
    obtain ⟨rfl, rfl⟩ := h
    exact ⟨rfl, by simp, by simp, by simp⟩
  | (a, b) :: ren, st, l, h => by
    simp only [normSt] at h
    split at h
    · rename_i n rows s l1 h1 h2
      simp only [Option.some.injEq, Prod.mk.injEq] at h
      obtain ⟨rfl, rfl⟩ := h
      obtain ⟨g1, g2, g3, g4⟩ := normSt_get h2
      refine ⟨by simp [g1], g2, fun b' o' hb => ?_, fun a' b' hab => ?_⟩
      · rcases List.mem_cons.1 hb with hb | hb
        · simp only [Prod.mk.injEq] at hb
          obtain ⟨rfl, rfl⟩ := hb
          exact ⟨a, _, by simp, h1, .inl ⟨rfl, rfl⟩⟩
        · obtain ⟨a', o, k1, k2, k3⟩ := g3 b' o' hb
          exact ⟨a', o, by simp [k1], k2, k3⟩
      · rcases List.mem_cons.1 hab with hab | hab
        · simp only [Prod.mk.injEq] at hab
          obtain ⟨rfl, rfl⟩ := hab
          exact ⟨_, h1⟩
        · exact g4 a' b' hab
    · rename_i n rows c s l1 h1 h2
      simp only [Option.some.injEq, Prod.mk.injEq] at h
      obtain ⟨rfl, rfl⟩ := h
      obtain ⟨g1, g2, g3, g4⟩ := normSt_get h2
      refine ⟨by simp [g1], g2, fun b' o' hb => ?_, fun a' b' hab => ?_⟩
      · rcases List.mem_cons.1 hb with hb | hb
        · simp only [Prod.mk.injEq] at hb
          obtain ⟨rfl, rfl⟩ := hb
          exact ⟨a, _, by simp, h1, .inl ⟨rfl, rfl⟩⟩
        · obtain ⟨a', o, k1, k2, k3⟩ := g3 b' o' hb
          exact ⟨a', o, by simp [k1], k2, k3⟩
      · rcases List.mem_cons.1 hab with hab | hab
        · simp only [Prod.mk.injEq] at hab
          obtain ⟨rfl, rfl⟩ := hab
          exact ⟨_, h1⟩
        · exact g4 a' b' hab
    · rename_i cs s l1 h1 h2
      split at h
      · rename_i cs' l2 h3
        simp only [Option.some.injEq, Prod.mk.injEq] at h
        obtain ⟨rfl, rfl⟩ := h
        obtain ⟨g1, g2, g3, g4⟩ := normSt_get h2
        refine ⟨by simp [g1], fun p hp => ?_, fun b' o' hb => ?_, fun a' b' hab => ?_⟩
        · rcases List.mem_append.1 hp with hp | hp
          · exact renCells_new h3 p hp
          · exact g2 p hp
        · rcases List.mem_cons.1 hb with hb | hb
          · simp only [Prod.mk.injEq] at hb
            obtain ⟨rfl, rfl⟩ := hb
            exact ⟨a, _, by simp, h1, .inr ⟨cs, cs', l2, rfl, rfl, h3, fun p hp => by simp [hp]⟩⟩
          · obtain ⟨a', o, k1, k2, k3⟩ := g3 b' o' hb
            refine ⟨a', o, by simp [k1], k2, ?_⟩
            rcases k3 with k3 | ⟨ds, ds', l', q1, q2, q3, q4⟩
            · exact .inl k3
            · exact .inr ⟨ds, ds', l', q1, q2, q3, fun p hp => by simp [q4 p hp]⟩
        · rcases List.mem_cons.1 hab with hab | hab
          · simp only [Prod.mk.injEq] at hab
            obtain ⟨rfl, rfl⟩ := hab
            exact ⟨_, h1⟩
          · exact g4 a' b' hab
      · simp at h
    · simp at h

theorem mkSt_get : ∀ {l : List (Nat × E.Obj)} {i : Nat} {o : E.Obj}, mkSt l i = some o → (i, o) ∈ l
  | [], i, o, h => by simp [mkSt] at h
  | (k, p) :: l, i, o, h => by
    simp only [mkSt] at h
    cases hik : i == k with
    | true =>
      have : i = k := by simpa using hik
      subst this
      simp only [hik, cond_true, Option.some.injEq] at h
      subst h; simp
    | false =>
      simp only [hik, cond_false] at h
      exact List.mem_cons_of_mem _ (mkSt_get h)

theorem pair_unique {α : Type} : ∀ {l : List (Nat × α)}, nodupB (l.map (·.1)) = true → ∀ {i : Nat} {x y : α}, (i, x) ∈ l → (i, y) ∈ l → x = y
  | [], _, i, x, y, h, _ => by simp at h
  | (k, z) :: l, hn, i, x, y, h1, h2 => by
    simp only [List.map_cons, nodupB, Bool.and_eq_true, Bool.not_eq_true'] at hn
    have hk : k ∉ l.map (·.1) := by simpa using hn.1
    rcases List.mem_cons.1 h1 with h1 | h1 <;> rcases List.mem_cons.1 h2 with h2 | h2
    · simp only [Prod.mk.injEq] at h1 h2; rw [h1.2, h2.2]
    · simp only [Prod.mk.injEq] at h1; rw [← h1.1] at hk; exact absurd (List.mem_map.2 ⟨_, h2, rfl⟩) hk
    · simp only [Prod.mk.injEq] at h2; rw [← h2.1] at hk; exact absurd (List.mem_map.2 ⟨_, h1, rfl⟩) hk
    · exact pair_unique hn.2 h1 h2

/-- Who is behind a name. -/
def whose (ren : List (Nat × Nat)) (b : Nat) : Option Nat := match ren with
  | [] => none
  | (a, c) :: l => if c = b then some a else whose l b

theorem whose_mem : ∀ {ren : List (Nat × Nat)} {a b : Nat}, nodupB (ren.map (·.2)) = true → (a, b) ∈ ren → whose ren b = some a
  | [], a, b, _, h => by simp at h
  | (c, d) :: l, a, b, hn, h => by
    simp only [List.map_cons, nodupB, Bool.and_eq_true, Bool.not_eq_true'] at hn
    have hd : d ∉ l.map (·.2) := by simpa using hn.1
    simp only [whose]
    rcases List.mem_cons.1 h with h | h
    · simp only [Prod.mk.injEq] at h; rw [if_pos h.2.symm, h.1]
    · have : d ≠ b := fun e => hd (e ▸ List.mem_map.2 ⟨_, h, rfl⟩)
      rw [if_neg this]; exact whose_mem hn.2 h

theorem whose_none : ∀ {ren : List (Nat × Nat)} {b : Nat}, b ∉ ren.map (·.2) → whose ren b = none
  | [], b, _ => rfl
  | (c, d) :: l, b, h => by
    simp only [List.map_cons, List.mem_cons, not_or] at h
    simp only [whose]
    rw [if_neg (fun e => h.1 e.symm)]; exact whose_none h.2

theorem nodup_left {a b : List Nat} (h : nodupB (a ++ b) = true) : nodupB a = true := by
  induction a with
  | nil => rfl
  | cons x a ih =>
    simp only [List.cons_append, nodupB, Bool.and_eq_true, Bool.not_eq_true'] at h
    simp only [nodupB, Bool.and_eq_true, Bool.not_eq_true']
    refine ⟨?_, ih h.2⟩
    have : x ∉ a ++ b := by simpa using h.1
    simp only [List.mem_append, not_or] at this
    simpa using this.1

theorem nodup_apart {a b : List Nat} (h : nodupB (a ++ b) = true) : ∀ i ∈ a, i ∉ b := by
  induction a with
  | nil => intro i hi; simp at hi
  | cons x a ih =>
    simp only [List.cons_append, nodupB, Bool.and_eq_true, Bool.not_eq_true'] at h
    intro i hi
    rcases List.mem_cons.1 hi with rfl | hi
    · have : i ∉ a ++ b := by simpa using h.1
      simp only [List.mem_append, not_or] at this
      exact this.2
    · exact ih h.2 i hi

/-- WHAT IS KEPT OF A FRAME HOLDS OF IT. -/
theorem norm_St {k : Nat} {base : Nat} {X G : Nat → Prop} {τ : Nat → Gh} {σ : S} {a : Act} {w : World} {nm : Norm} {s : SL} (hs : St base X G τ σ a w) (h : norm k σ nm = some s) :
    (∃ τ', St base X G τ' (s.toS σ.n) a w ∧ ∀ i, i < k → τ' i = τ i) ∧ ∀ i, i < k → i ∈ s.ids := by
  unfold norm at h
  split at h
  · rename_i env l1 st l2 he hst
    simp only at h
    cases hb : nodupB (st.map (·.1) ++ (l1 ++ l2).map (·.1)) && (normIds k nm.ren && nodupB (nm.ren.map (·.1))) && ((l1 ++ l2).all fun p => Nat.ble k p.1) && (env.all fun p => subset p.2.ids (st.map (·.1) ++ (l1 ++ l2).map (·.1))) && (st.all fun p => subset (idsObj p.2) (st.map (·.1) ++ (l1 ++ l2).map (·.1))) with
    | false => simp only [hb, cond_false, reduceCtorEq] at h
    | true =>
      simp only [hb, cond_true, Option.some.injEq] at h
      subst h
      simp only [Bool.and_eq_true] at hb
      obtain ⟨⟨⟨⟨b1, b2, b2'⟩, b3⟩, b4⟩, b5⟩ := hb
      obtain ⟨e1, e2, e3⟩ := normEnv_get he
      obtain ⟨s1, s2, s3, s4⟩ := normSt_get hst
      have hnr : nodupB (nm.ren.map (·.2)) = true := by rw [← s1]; exact nodup_left b1
      let τ' : Nat → Gh := fun b => match whose nm.ren b with
        | some a => τ a
        | none => if b ∈ (l1 ++ l2).map (·.1) then ⟨none, none, 0, 0⟩ else τ b
      have hren : ∀ a b : Nat, (a, b) ∈ nm.ren → τ' b = τ a := by
        intro a b hab
        show (match whose nm.ren b with | some a => τ a | none => if b ∈ (l1 ++ l2).map (·.1) then ⟨none, none, 0, 0⟩ else τ b) = τ a
        rw [whose_mem hnr hab]
      have hrenId : ∀ a b : Nat, renId nm.ren a = some b → τ' b = τ a := fun a b h => hren a b (renId_mem h)
      have hfresh : ∀ p ∈ l1 ++ l2, τ' p.1 = ⟨none, none, 0, 0⟩ := by
        intro p hp
        have hpm : p.1 ∈ (l1 ++ l2).map (·.1) := List.mem_map.2 ⟨p, hp, rfl⟩
        have hnot : p.1 ∉ nm.ren.map (·.2) := by
          rw [← s1]
          exact fun h => nodup_apart b1 p.1 h hpm
        show (match whose nm.ren p.1 with | some a => τ a | none => if p.1 ∈ (l1 ++ l2).map (fun (p : Nat × E.Obj) => p.1) then (⟨none, none, 0, 0⟩ : Gh) else τ p.1) = ⟨none, none, 0, 0⟩
        rw [whose_none hnot, if_pos hpm]
      have hnewarr : ∀ p ∈ l1 ++ l2, ∃ n, p.2 = E.Obj.arr n [] := by
        intro p hp
        rcases List.mem_append.1 hp with hp | hp
        · exact e2 p hp
        · exact s2 p hp
      -- objects
      have hobj : ∀ b o', mkSt (st ++ (l1 ++ l2)) b = some o' → ((b, o') ∈ st ∧ b ∈ st.map (·.1)) ∨ ((b, o') ∈ l1 ++ l2) := by
        intro b o' hb
        rcases List.mem_append.1 (mkSt_get hb) with h | h
        · exact .inl ⟨h, List.mem_map.2 ⟨_, h, rfl⟩⟩
        · exact .inr h
      have hnoblk : ∀ b o', (b, o') ∈ l1 ++ l2 → (τ' b).blk = none := fun b o' hb => by rw [hfresh _ hb]
      refine ⟨?_, fun i hi => List.mem_append.2 (.inr (List.mem_range.2 hi))⟩
      refine ⟨τ', ⟨⟨hs.mem.gold, fun b o' hb => ?_, fun b o' q hb hq => ?_, fun b c o1 o2 q hb hc hq1 hq2 => ?_⟩, hs.base, hs.size, fun t => ?_, fun t i hi => ?_, fun b o' hb => ?_, hs.defers⟩, fun i hi => ?_⟩
      · rcases hobj b o' hb with ⟨hbs, _⟩ | hbl
        · obtain ⟨a0, o, k1, k2, k3⟩ := s3 b o' hbs
          have hok := hs.mem.ok a0 o k2
          rcases k3 with ⟨hrb, rfl⟩ | ⟨cs, cs', l', rfl, rfl, k4, k5⟩
          · exact Obj.ok_name hrb (hren a0 b k1) hok
          · simp only [Obj.ok, rowsOk] at hok ⊢
            rw [hren a0 b k1]
            obtain ⟨q, xs, t, fz, q1, q2, q3, q4, q5⟩ := hok
            exact ⟨q, xs, t, fz, q1, q2, q3, q4, renCells_rep hrenId k4 (fun p hp => hfresh p (List.mem_append.2 (.inr (k5 p hp)))) q5⟩
        · obtain ⟨n, hn⟩ := hnewarr _ hbl
          simp only at hn
          subst hn
          simp only [Obj.ok, rowsOk]
          rw [hfresh _ hbl]
          exact ⟨rfl, Nat.le_refl _, .inl ⟨rfl, rfl, rfl⟩⟩
      · rcases hobj b o' hb with ⟨hbs, _⟩ | hbl
        · obtain ⟨a0, o, k1, k2, _⟩ := s3 b o' hbs
          rw [hren a0 b k1] at hq
          exact hs.mem.own a0 o q k2 hq
        · rw [hnoblk b o' hbl] at hq; simp at hq
      · rcases hobj b o1 hb with ⟨hbs, _⟩ | hbl <;> rcases hobj c o2 hc with ⟨hcs, _⟩ | hcl
        · obtain ⟨a1, p1, k1, k2, _⟩ := s3 b o1 hbs
          obtain ⟨a2, p2, j1, j2, _⟩ := s3 c o2 hcs
          rw [hren a1 b k1] at hq1
          rw [hren a2 c j1] at hq2
          have := hs.mem.inj a1 a2 p1 p2 q k2 j2 hq1 hq2
          subst this
          exact pair_unique b2' k1 j1
        · rw [hnoblk c o2 hcl] at hq2; simp at hq2
        · rw [hnoblk b o1 hbl] at hq1; simp at hq1
        · rw [hnoblk b o1 hbl] at hq1; simp at hq1
      · show (mkEnv env t).rep w G τ' _
        rcases e1 t with h | ⟨l', h, h'⟩
        · rw [h]; simp only [V.rep]
        · exact renAt_rep hrenId h (fun p hp => hfresh p (List.mem_append.2 (.inl (h' p hp)))) (hs.env t)
      · rcases e3 t with h | h
        · simp only [SL.toS, h, V.ids, List.not_mem_nil] at hi
        · exact List.mem_append.2 (.inl (subset_spec (List.all_eq_true.1 b4 _ h) i hi))
      · rcases hobj b o' hb with ⟨hbs, hbm⟩ | hbl
        · exact ⟨List.mem_append.2 (.inl (List.mem_append.2 (.inl hbm))), fun j hj => List.mem_append.2 (.inl (subset_spec (List.all_eq_true.1 b5 _ hbs) j hj))⟩
        · obtain ⟨n, hn⟩ := hnewarr _ hbl
          simp only at hn
          subst hn
          exact ⟨List.mem_append.2 (.inl (List.mem_append.2 (.inr (List.mem_map.2 ⟨_, hbl, rfl⟩)))), fun j hj => by simp [idsObj] at hj⟩
      · show (match whose nm.ren i with | some a => τ a | none => if i ∈ (l1 ++ l2).map (fun (p : Nat × E.Obj) => p.1) then (⟨none, none, 0, 0⟩ : Gh) else τ i) = τ i
        cases hw : whose nm.ren i with
        | some a0 =>
          have hmem : ∀ {l : List (Nat × Nat)}, whose l i = some a0 → (a0, i) ∈ l := by
            intro l
            induction l with
            | nil => intro h; simp [whose] at h
            | cons p l ih =>
              intro h
              simp only [whose] at h
              by_cases hp : p.2 = i
              · rw [if_pos hp] at h; simp only [Option.some.injEq] at h; rw [← hp, ← h]; simp
              · rw [if_neg hp] at h; exact List.mem_cons_of_mem _ (ih h)
          have hm := List.all_eq_true.1 b2 _ (hmem hw)
          have hlt : Nat.blt i k = true := by simpa [Nat.blt_eq] using hi
          simp only [hlt, cond_true] at hm
          have : a0 = i := by simpa using hm
          rw [this]
        | none =>
          simp only
          rw [if_neg]
          intro hmem
          obtain ⟨p, hp, hpi⟩ := List.mem_map.1 hmem
          have := Nat.le_of_ble_eq_true (List.all_eq_true.1 b3 p hp)
          omega
  · simp at h

end Go.Proofs.Ytfpdlamjlbpmkaa.E
