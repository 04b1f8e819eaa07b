/- The engine, part R: code: what the run says of it is so. -/
import Derived.Scope
import Derived.ProofKit
import Derived.Carry
import Derived.Test.YthhggnnfiohnpaaTrChainP1
namespace Go.Proofs.Ythhggnnfiohnpaa.E
open Go
set_option linter.unusedSimpArgs false

/-! ### Regions -/

theorem St.heap {base : Nat} {X G : Nat → Prop} {τ : Nat → Gh} {σ : S} {a : Act} {w w' : World} (h : St base X G τ σ a w) (hw : w'.heap = w.heap) : St base X G τ σ a w' :=
  ⟨h.mem.heap hw, by rw [hw]; exact h.base, h.size, fun t => rep_mono (fun b hb => ⟨hb, by rw [hw]⟩) _ _ (fun _ _ => rfl) (h.env t), h.ids, h.objs, h.defers⟩

theorem obsAll_mem : ∀ {ls : List Log}, (∀ p ∈ obsAll ls, p) → ∀ l ∈ ls, ∀ p ∈ l.obs, p
  | [], _, l, hl => by simp at hl
  | m :: ls, h, l, hl => by
    simp only [obsAll, List.mem_append] at h
    rcases List.mem_cons.1 hl with rfl | hl
    · exact fun p hp => h p (.inl hp)
    · exact obsAll_mem (fun p hp => h p (.inr hp)) l hl

theorem St.more {base : Nat} {X G : Nat → Prop} {τ : Nat → Gh} {σ : S} {a : Act} {w : World} {l : List Nat} (hs : St base X G τ σ a w) : St base X G τ (σ.more l) a w :=
  ⟨hs.mem, hs.base, hs.size, hs.env, fun t i hi => List.mem_append.2 (.inr (hs.ids t i hi)), fun i o ho => ⟨List.mem_append.2 (.inr (hs.objs i o ho).1), fun j hj => List.mem_append.2 (.inr ((hs.objs i o ho).2 j hj))⟩, hs.defers⟩

theorem initObs_claim {cl : List (Nat × Nat × V)} {st : Nat → Option E.Obj} (h : ∀ p ∈ initObs cl st, p) : ∀ c ∈ cl, cellIs (st c.1) c.2.1 c.2.2 := fun c hc => h _ (List.mem_map.2 ⟨c, hc, rfl⟩)

theorem runRegion_wp {P : Program} (hmix : P.follows .mixedOrders = true) {base : Nat} {X G : Nat → Prop} {τ : Nat → Gh} {rid : Nat} {ops : Array Oper} {draw : Bool} {sc : List (Nat × List Ans × Option Bool)} {σ σ' : S} {ps : List Prop} {a : Act} {w : World} {Q : Exit → Act → World → Prop}
    (h : runRegion P rid ops draw sc σ = some (σ', ps)) (hp : ∀ p ∈ ps, p) (hs : St base X G τ σ a w)
    (hQ : ∀ a' w' G' τ', St base X G' τ' σ' a' w' → Ext base X G w G' w' → (∀ i ∈ σ.ids, τ' i = τ i) → Q .normal a' w') : (Code.region rid ops draw).wp P Q a w := by
  unfold runRegion at h
  split at h
  · simp at h
  · rename_i σ2 ls hr
    cases draw with
    | false =>
      simp only [cond_false, Option.some.injEq, Prod.mk.injEq] at h
      obtain ⟨rfl, rfl⟩ := h
      exact wp_region (runOps_wp hr (obsAll_mem fun p hpm => hp p (List.mem_append.2 (.inr hpm))) (initObs_claim fun p hpm => hp p (List.mem_append.2 (.inl hpm))) hs fun a' w' G' τ' k1 k2 k3 => hQ a' w' G' τ' k1.more k2 k3)
    | true =>
      simp only [cond_true] at h
      cases hb : edgesBack ops && calmAt ops (aheadOf ops) ((List.range ops.size).zip (ops.toList.zip ls)) with
      | false => simp only [hb, cond_false, reduceCtorEq] at h
      | true =>
        simp only [hb, cond_true, Option.some.injEq, Prod.mk.injEq] at h
        obtain ⟨rfl, rfl⟩ := h
        simp only [Bool.and_eq_true] at hb
        obtain ⟨g1, g2, g3, g4, g5, g6⟩ := good_of_run 0 hr (by simp [List.range_eq_range'])
        simp only [List.drop_zero] at g1 g3 g4 g5
        have hls : ls.length = ops.size := by simpa using g6
        have hC : Calm P rid ops sc σ.n ((List.range ops.size).zip (ops.toList.zip ls)) σ.env σ.st σ.ids := by
          have hobs : ∀ x ∈ (List.range ops.size).zip (ops.toList.zip ls), ∀ p ∈ x.2.2.obs, p := by
            intro x hx
            have h1 := (List.of_mem_zip hx).2
            have h2 := (List.of_mem_zip h1).2
            exact obsAll_mem (fun p hpm => hp p (List.mem_append.2 (.inr hpm))) _ h2
          refine ⟨g1, hb.2, hb.1, fun i o ho => ?_, hobs, initObs_claim fun p hpm => hp p (List.mem_append.2 (.inl hpm)), fun x hx p hpm => hobs x hx p (logOp_keep (g1.at x hx).2.1 p hpm)⟩
          · have hi : i < ops.size := (Array.getElem?_eq_some_iff.1 ho).1
            have hil : i < ls.length := by omega
            refine ⟨ls[i], ?_⟩
            have hz : ((List.range ops.size).zip (ops.toList.zip ls))[i]? = some (i, o, ls[i]) := by
              have ho' : ops[i] = o := (Array.getElem?_eq_some_iff.1 ho).2
              simp [List.getElem?_zip_eq_some, ho', hi, hil]
            exact List.mem_of_getElem? hz
        refine wp_region_any hmix ?_
        have hfalse1 : stEnv ((List.range ops.size).zip (ops.toList.zip ls)) (fun k => (Array.replicate ops.size false).getD k false) σ.env = σ.env := by
          have : ∀ (M : List Row) (e : Nat → V), stEnv M (fun k => (Array.replicate ops.size false).getD k false) e = e := by
            intro M
            induction M with
            | nil => intro e; rfl
            | cons y M ih =>
              intro e
              have : (Array.replicate ops.size false).getD y.1 false = false := by simp [Array.getElem?_replicate]; split <;> rfl
              simp only [stEnv, List.foldl_cons, this, Bool.false_eq_true, if_false]
              exact ih e
          exact this _ _
        have hfalse2 : stSt ((List.range ops.size).zip (ops.toList.zip ls)) (fun k => (Array.replicate ops.size false).getD k false) σ.st = σ.st := by
          have : ∀ (M : List Row) (e : Nat → Option E.Obj), stSt M (fun k => (Array.replicate ops.size false).getD k false) e = e := by
            intro M
            induction M with
            | nil => intro e; rfl
            | cons y M ih =>
              intro e
              have : (Array.replicate ops.size false).getD y.1 false = false := by simp [Array.getElem?_replicate]; split <;> rfl
              simp only [stSt, List.foldl_cons, this, Bool.false_eq_true, if_false]
              exact ih e
          exact this _ _
        have hs2 : St base X G τ σ a { w with drawn := w.drawn + 1 } := hs.heap rfl
        refine any_wp (base := base) (X := X) hC ops.size _ G τ a _ ?_ (by simp) (fun k hk => ?_) ?_ fun a' w' G' τ' k1 k2 k3 => ?_
        · refine Nat.le_trans (List.length_filter_le _ _) (by simp)
        · have : (Array.replicate ops.size false).getD k false = false := by simp [Array.getElem?_replicate]; split <;> rfl
          rw [this] at hk; simp at hk
        · rw [hfalse1, hfalse2]
          exact St.ids_congr hs2 fun i hi => stIds_mem.2 (.inl hi)
        · refine hQ a' w' G' τ' ?_ (Ext.trans (Ext.drew w) k2) k3
          cases σ2 with
          | mk n2 env2 st2 ids2 =>
            simp only at g2 g3 g4 g5
            subst g2 g3 g4
            exact (St.ids_congr k1 fun i hi => (g5 i).2 hi).more

/-! ### What is kept of a frame -/

mutual
theorem renV_rep {w : World} {G : Nat → Prop} {τ τ' : Nat → Gh} {ren : List (Nat × Nat)} (ht : ∀ a b : Nat, renId ren a = some b → τ' b = τ a) : ∀ {v v' : V} {x : Value}, renV ren v = some v' → v.rep w G τ x → v'.rep w G τ' x
  | .own j, v', x, h, hr => by
    simp only [renV] at h
    split at h
    · rename_i id hid
      simp only [Option.some.injEq] at h
      subst h
      simp only [V.rep] at hr ⊢
      rw [ht j id hid]; exact hr
    · simp at h
  | .ptr j n r o, v', x, h, hr => by
    simp only [renV] at h
    split at h
    · rename_i id hid
      simp only [Option.some.injEq] at h
      subst h
      simp only [V.rep] at hr ⊢
      rw [ht j id hid]; exact hr
    · simp at h
  | .vw j n a b, v', x, h, hr => by
    simp only [renV] at h
    split at h
    · rename_i id hid
      simp only [Option.some.injEq] at h
      subst h
      simp only [V.rep] at hr ⊢
      rw [ht j id hid]; exact hr
    · simp at h
  | .mref j, v', x, h, hr => by
    simp only [renV] at h
    split at h
    · rename_i id hid
      simp only [Option.some.injEq] at h
      subst h
      simp only [V.rep] at hr ⊢
      rw [ht j id hid]; exact hr
    · simp at h
  | .agg cs, v', x, h, hr => by
    simp only [renV] at h
    split at h
    · rename_i cs' hcs
      simp only [Option.some.injEq] at h
      subst h
      simp only [V.rep] at hr ⊢
      obtain ⟨xs, e, hr⟩ := hr
      exact ⟨xs, e, renL_rep ht hcs hr⟩
    · simp at h
  | .tup cs, v', x, h, hr => by
    simp only [renV] at h
    split at h
    · rename_i cs' hcs
      simp only [Option.some.injEq] at h
      subst h
      simp only [V.rep] at hr ⊢
      obtain ⟨xs, e, hr⟩ := hr
      exact ⟨xs, e, renL_rep ht hcs hr⟩
    · simp at h
  | .clo fn f c, v', x, h, hr => by
    simp only [renV] at h
    split at h
    · rename_i f' c' hf hc
      simp only [Option.some.injEq] at h
      subst h
      simp only [V.rep] at hr ⊢
      obtain ⟨xs, ys, e, h1, h2⟩ := hr
      exact ⟨xs, ys, e, renL_rep ht hf h1, renL_rep ht hc h2⟩
    · simp at h
  | .val _, v', x, h, hr => by simp only [renV, Option.some.injEq] at h; subst h; simp only [V.rep] at hr ⊢; exact hr
  | .nil, v', x, h, hr => by simp only [renV, Option.some.injEq] at h; subst h; simp only [V.rep] at hr ⊢; exact hr
  | .sl _ _, v', x, h, hr => by simp only [renV, Option.some.injEq] at h; subst h; simp only [V.rep] at hr ⊢; exact hr
  | .iptr _ _ _ _, v', x, h, hr => by simp only [renV, Option.some.injEq] at h; subst h; simp only [V.rep] at hr ⊢; exact hr
  | .undef, v', x, h, _ => by simp only [renV, Option.some.injEq] at h; subst h; simp only [V.rep]
theorem renL_rep {w : World} {G : Nat → Prop} {τ τ' : Nat → Gh} {ren : List (Nat × Nat)} (ht : ∀ a b : Nat, renId ren a = some b → τ' b = τ a) : ∀ {cs cs' : List V} {xs : List Value}, renL ren cs = some cs' → repL w G τ cs xs → repL w G τ' cs' xs
  | [], cs', xs, h, hr => by
    simp only [renL, Option.some.injEq] at h
    subst h
    cases xs with
    | nil => simp only [repL]
    | cons => simp only [repL] at hr
  | c :: cs, cs', xs, h, hr => by
    simp only [renL] at h
    split at h
    · rename_i c' ds hc hd
      simp only [Option.some.injEq] at h
      subst h
      cases xs with
      | nil => simp only [repL] at hr
      | cons x xs =>
        simp only [repL] at hr ⊢
        exact ⟨renV_rep ht hc hr.1, renL_rep ht hd hr.2⟩
    · simp at h
end

theorem renId_mem : ∀ {ren : List (Nat × Nat)} {a b : Nat}, renId ren a = some b → (a, b) ∈ ren
  | [], a, b, h => by simp [renId] at h
  | (c, d) :: l, a, b, h => by
    simp only [renId] at h
    cases hca : a == c with
    | true =>
      simp only [hca, cond_true, Option.some.injEq] at h
      have : a = c := by simpa using hca
      subst this h
      simp
    | false =>
      simp only [hca, cond_false] at h
      exact List.mem_cons_of_mem _ (renId_mem h)

/-- The names that a nil slice got: none of them stands for anything yet. -/
def Newly (τ : Nat → Gh) (l : List (Nat × E.Obj)) : Prop := ∀ p ∈ l, τ p.1 = ⟨none, none, 0, 0⟩ ∧ ∃ n, p.2 = .arr n []

theorem renAt_rep {w : World} {G : Nat → Prop} {τ τ' : Nat → Gh} {ren : List (Nat × Nat)} (ht : ∀ a b : Nat, renId ren a = some b → τ' b = τ a) {fr : Option (Nat × Nat)} {v v' : V} {l : List (Nat × E.Obj)} {x : Value}
    (h : renAt ren fr v = some (v', l)) (hn : ∀ p ∈ l, τ' p.1 = ⟨none, none, 0, 0⟩) (hr : v.rep w G τ x) : v'.rep w G τ' x := by
  unfold renAt at h
  split at h
  · rename_i id n
    simp only [Option.some.injEq, Prod.mk.injEq] at h
    obtain ⟨rfl, rfl⟩ := h
    simp only [V.rep, V.repI] at hr ⊢
    rw [hn (id, .arr n []) (by simp), hr]
    rfl
  · split at h
    · rename_i v2 hv2
      simp only [Option.some.injEq, Prod.mk.injEq] at h
      obtain ⟨rfl, _⟩ := h
      exact renV_rep ht hv2 hr
    · simp at h

theorem renAt_new {ren : List (Nat × Nat)} {fr : Option (Nat × Nat)} {v v' : V} {l : List (Nat × E.Obj)} (h : renAt ren fr v = some (v', l)) : ∀ p ∈ l, ∃ n, p.2 = E.Obj.arr n [] := by
  unfold renAt at h
  split at h
  · simp only [Option.some.injEq, Prod.mk.injEq] at h
    obtain ⟨_, rfl⟩ := h
    intro p hp; simp at hp; subst hp; exact ⟨_, rfl⟩
  · split at h
    · simp only [Option.some.injEq, Prod.mk.injEq] at h
      obtain ⟨_, rfl⟩ := h
      simp
    · simp at h

theorem renCells_rep {w : World} {G : Nat → Prop} {τ τ' : Nat → Gh} {ren : List (Nat × Nat)} (ht : ∀ a b : Nat, renId ren a = some b → τ' b = τ a) {fr : List Fr} {b : Nat} : ∀ {cs cs' : List V} {o : Nat} {l : List (Nat × E.Obj)} {xs : List Value},
    renCells ren fr b o cs = some (cs', l) → (∀ p ∈ l, τ' p.1 = ⟨none, none, 0, 0⟩) → repL w G τ cs xs → repL w G τ' cs' xs
  | [], cs', o, l, xs, h, _, hr => by
    simp only [renCells, Option.some.injEq, Prod.mk.injEq] at h
    obtain ⟨rfl, _⟩ := h
    cases xs with
    | nil => simp only [repL]
    | cons => simp only [repL] at hr
  | c :: cs, cs', o, l, xs, h, hn, hr => by
    simp only [renCells] at h
    split at h
    · rename_i c' l1 ds l2 h1 h2
      simp only [Option.some.injEq, Prod.mk.injEq] at h
      obtain ⟨rfl, rfl⟩ := h
      cases xs with
      | nil => simp only [repL] at hr
      | cons x xs =>
        simp only [repL] at hr ⊢
        exact ⟨renAt_rep ht h1 (fun p hp => hn p (by simp [hp])) hr.1, renCells_rep ht h2 (fun p hp => hn p (by simp [hp])) hr.2⟩
    · simp at h

theorem renCells_new {ren : List (Nat × Nat)} {fr : List Fr} {b : Nat} : ∀ {cs cs' : List V} {o : Nat} {l : List (Nat × E.Obj)}, renCells ren fr b o cs = some (cs', l) → ∀ p ∈ l, ∃ n, p.2 = E.Obj.arr n []
  | [], cs', o, l, h => by
    simp only [renCells, Option.some.injEq, Prod.mk.injEq] at h
    obtain ⟨_, rfl⟩ := h
    simp
  | c :: cs, cs', o, l, h => by
    simp only [renCells] at h
    split at h
    · rename_i c' l1 ds l2 h1 h2
      simp only [Option.some.injEq, Prod.mk.injEq] at h
      obtain ⟨_, rfl⟩ := h
      intro p hp
      rcases List.mem_append.1 hp with hp | hp
      · exact renAt_new h1 p hp
      · exact renCells_new h2 p hp
    · simp at h

theorem normEnv_get {σ : S} {nm : Norm} : ∀ {ts : List Nat} {env : List (Nat × V)} {l : List (Nat × E.Obj)}, normEnv σ nm ts = some (env, l) →
    (∀ t, mkEnv env t = .undef ∨ ∃ l', renAt nm.ren (frSlot nm.fresh t) (σ.env t) = some (mkEnv env t, l') ∧ ∀ p ∈ l', p ∈ l) ∧ (∀ p ∈ l, ∃ n, p.2 = E.Obj.arr n []) ∧ ∀ t, mkEnv env t = .undef ∨ (t, mkEnv env t) ∈ env
  | [], env, l, h => by
    simp only [normEnv, Option.some.injEq, Prod.mk.injEq] at h
    obtain ⟨rfl, rfl⟩ := h
    exact ⟨fun t => .inl rfl, by simp, fun t => .inl rfl⟩
  | t :: ts, env, l, h => by
    simp only [normEnv] at h
    split at h
    · rename_i v l1 e l2 h1 h2
      simp only [Option.some.injEq, Prod.mk.injEq] at h
      obtain ⟨rfl, rfl⟩ := h
      obtain ⟨g1, g2, g3⟩ := normEnv_get h2
      refine ⟨fun u => ?_, fun p hp => ?_, fun u => ?_⟩
      · simp only [mkEnv]
        cases hu : u == t with
        | true =>
          have : u = t := by simpa using hu
          subst this
          exact .inr ⟨l1, h1, fun p hp => by simp [hp]⟩
        | false =>
          simp only [cond_false]
          rcases g1 u with g | ⟨l', g, g'⟩
          · exact .inl g
          · exact .inr ⟨l', g, fun p hp => by simp [g' p hp]⟩
      · rcases List.mem_append.1 hp with hp | hp
        · exact renAt_new h1 p hp
        · exact g2 p hp
      · simp only [mkEnv]
        cases hu : u == t with
        | true =>
          have : u = t := by simpa using hu
          subst this
          exact .inr (by simp)
        | false =>
          simp only [cond_false]
          rcases g3 u with g | g
          · exact .inl g
          · exact .inr (by simp [g])
    · simp at h

theorem normSt_get {σ : S} {nm : Norm} : ∀ {ren : List (Nat × Nat)} {st l : List (Nat × E.Obj)}, normSt σ nm ren = some (st, l) →
    st.map (·.1) = ren.map (·.2) ∧ (∀ p ∈ l, ∃ n, p.2 = E.Obj.arr n []) ∧ (∀ b o', (b, o') ∈ st → ∃ a o, (a, b) ∈ ren ∧ σ.st a = some o ∧ ((o.rowsB = true ∧ o' = o) ∨ ∃ cs cs' l', o = E.Obj.box cs ∧ o' = E.Obj.box cs' ∧ renCells nm.ren nm.fresh a 0 cs = some (cs', l') ∧ ∀ p ∈ l', p ∈ l)) ∧
      ∀ a b, (a, b) ∈ ren → ∃ o, σ.st a = some o
  | [], st, l, h => by
    simp only [normSt, Option.some.injEq, Prod.mk.injEq] at h
    obtain ⟨rfl, rfl⟩ := h
    exact ⟨rfl, by simp, by simp, by simp⟩
  | (a, b) :: ren, st, l, h => by
    simp only [normSt] at h
    split at h
    · rename_i n rows s l1 h1 h2
      simp only [Option.some.injEq, Prod.mk.injEq] at h
      obtain ⟨rfl, rfl⟩ := h
      obtain ⟨g1, g2, g3, g4⟩ := normSt_get h2
      refine ⟨by simp [g1], g2, fun b' o' hb => ?_, fun a' b' hab => ?_⟩
      · rcases List.mem_cons.1 hb with hb | hb
        · simp only [Prod.mk.injEq] at hb
          obtain ⟨rfl, rfl⟩ := hb
          exact ⟨a, _, by simp, h1, .inl ⟨rfl, rfl⟩⟩
        · obtain ⟨a', o, k1, k2, k3⟩ := g3 b' o' hb
          exact ⟨a', o, by simp [k1], k2, k3⟩
      · rcases List.mem_cons.1 hab with hab | hab
        · simp only [Prod.mk.injEq] at hab
          obtain ⟨rfl, rfl⟩ := hab
          exact ⟨_, h1⟩
        · exact g4 a' b' hab
    · rename_i n rows c s l1 h1 h2
      simp only [Option.some.injEq, Prod.mk.injEq] at h
      obtain ⟨rfl, rfl⟩ := h
      obtain ⟨g1, g2, g3, g4⟩ := normSt_get h2
      refine ⟨by simp [g1], g2, fun b' o' hb => ?_, fun a' b' hab => ?_⟩
      · rcases List.mem_cons.1 hb with hb | hb
        · simp only [Prod.mk.injEq] at hb
          obtain ⟨rfl, rfl⟩ := hb
          exact ⟨a, _, by simp, h1, .inl ⟨rfl, rfl⟩⟩
        · obtain ⟨a', o, k1, k2, k3⟩ := g3 b' o' hb
          exact ⟨a', o, by simp [k1], k2, k3⟩
      · rcases List.mem_cons.1 hab with hab | hab
        · simp only [Prod.mk.injEq] at hab
          obtain ⟨rfl, rfl⟩ := hab
          exact ⟨_, h1⟩
        · exact g4 a' b' hab
    · rename_i k es s l1 h1 h2
      simp only [Option.some.injEq, Prod.mk.injEq] at h
      obtain ⟨rfl, rfl⟩ := h
      obtain ⟨g1, g2, g3, g4⟩ := normSt_get h2
      refine ⟨by simp [g1], g2, fun b' o' hb => ?_, fun a' b' hab => ?_⟩
      · rcases List.mem_cons.1 hb with hb | hb
        · simp only [Prod.mk.injEq] at hb
          obtain ⟨rfl, rfl⟩ := hb
          exact ⟨a, _, by simp, h1, .inl ⟨rfl, rfl⟩⟩
        · obtain ⟨a', o, k1, k2, k3⟩ := g3 b' o' hb
          exact ⟨a', o, by simp [k1], k2, k3⟩
      · rcases List.mem_cons.1 hab with hab | hab
        · simp only [Prod.mk.injEq] at hab
          obtain ⟨rfl, rfl⟩ := hab
          exact ⟨_, h1⟩
        · exact g4 a' b' hab
    · rename_i k s l1 h1 h2
      simp only [Option.some.injEq, Prod.mk.injEq] at h
      obtain ⟨rfl, rfl⟩ := h
      obtain ⟨g1, g2, g3, g4⟩ := normSt_get h2
      refine ⟨by simp [g1], g2, fun b' o' hb => ?_, fun a' b' hab => ?_⟩
      · rcases List.mem_cons.1 hb with hb | hb
        · simp only [Prod.mk.injEq] at hb
          obtain ⟨rfl, rfl⟩ := hb
          exact ⟨a, _, by simp, h1, .inl ⟨rfl, rfl⟩⟩
        · obtain ⟨a', o, k1, k2, k3⟩ := g3 b' o' hb
          exact ⟨a', o, by simp [k1], k2, k3⟩
      · rcases List.mem_cons.1 hab with hab | hab
        · simp only [Prod.mk.injEq] at hab
          obtain ⟨rfl, rfl⟩ := hab
          exact ⟨_, h1⟩
        · exact g4 a' b' hab
    · rename_i cs s l1 h1 h2
      split at h
      · rename_i cs' l2 h3
        simp only [Option.some.injEq, Prod.mk.injEq] at h
        obtain ⟨rfl, rfl⟩ := h
        obtain ⟨g1, g2, g3, g4⟩ := normSt_get h2
        refine ⟨by simp [g1], fun p hp => ?_, fun b' o' hb => ?_, fun a' b' hab => ?_⟩
        · rcases List.mem_append.1 hp with hp | hp
          · exact renCells_new h3 p hp
          · exact g2 p hp
        · rcases List.mem_cons.1 hb with hb | hb
          · simp only [Prod.mk.injEq] at hb
            obtain ⟨rfl, rfl⟩ := hb
            exact ⟨a, _, by simp, h1, .inr ⟨cs, cs', l2, rfl, rfl, h3, fun p hp => by simp [hp]⟩⟩
          · obtain ⟨a', o, k1, k2, k3⟩ := g3 b' o' hb
            refine ⟨a', o, by simp [k1], k2, ?_⟩
            rcases k3 with k3 | ⟨ds, ds', l', q1, q2, q3, q4⟩
            · exact .inl k3
            · exact .inr ⟨ds, ds', l', q1, q2, q3, fun p hp => by simp [q4 p hp]⟩
        · rcases List.mem_cons.1 hab with hab | hab
          · simp only [Prod.mk.injEq] at hab
            obtain ⟨rfl, rfl⟩ := hab
            exact ⟨_, h1⟩
          · exact g4 a' b' hab
      · simp at h
    · simp at h

theorem mkSt_get : ∀ {l : List (Nat × E.Obj)} {i : Nat} {o : E.Obj}, mkSt l i = some o → (i, o) ∈ l
  | [], i, o, h => by simp [mkSt] at h
  | (k, p) :: l, i, o, h => by
    simp only [mkSt] at h
    cases hik : i == k with
    | true =>
      have : i = k := by simpa using hik
      subst this
      simp only [hik, cond_true, Option.some.injEq] at h
      subst h; simp
    | false =>
      simp only [hik, cond_false] at h
      exact List.mem_cons_of_mem _ (mkSt_get h)

theorem pair_unique {α : Type} : ∀ {l : List (Nat × α)}, nodupB (l.map (·.1)) = true → ∀ {i : Nat} {x y : α}, (i, x) ∈ l → (i, y) ∈ l → x = y
  | [], _, i, x, y, h, _ => by simp at h
  | (k, z) :: l, hn, i, x, y, h1, h2 => by
    simp only [List.map_cons, nodupB, Bool.and_eq_true, Bool.not_eq_true'] at hn
    have hk : k ∉ l.map (·.1) := by simpa using hn.1
    rcases List.mem_cons.1 h1 with h1 | h1 <;> rcases List.mem_cons.1 h2 with h2 | h2
    · simp only [Prod.mk.injEq] at h1 h2; rw [h1.2, h2.2]
    · simp only [Prod.mk.injEq] at h1; rw [← h1.1] at hk; exact absurd (List.mem_map.2 ⟨_, h2, rfl⟩) hk
    · simp only [Prod.mk.injEq] at h2; rw [← h2.1] at hk; exact absurd (List.mem_map.2 ⟨_, h1, rfl⟩) hk
    · exact pair_unique hn.2 h1 h2

/-- Who is behind a name. -/
def whose (ren : List (Nat × Nat)) (b : Nat) : Option Nat := match ren with
  | [] => none
  | (a, c) :: l => if c = b then some a else whose l b

theorem whose_mem : ∀ {ren : List (Nat × Nat)} {a b : Nat}, nodupB (ren.map (·.2)) = true → (a, b) ∈ ren → whose ren b = some a
  | [], a, b, _, h => by simp at h
  | (c, d) :: l, a, b, hn, h => by
    simp only [List.map_cons, nodupB, Bool.and_eq_true, Bool.not_eq_true'] at hn
    have hd : d ∉ l.map (·.2) := by simpa using hn.1
    simp only [whose]
    rcases List.mem_cons.1 h with h | h
    · simp only [Prod.mk.injEq] at h; rw [if_pos h.2.symm, h.1]
    · have : d ≠ b := fun e => hd (e ▸ List.mem_map.2 ⟨_, h, rfl⟩)
      rw [if_neg this]; exact whose_mem hn.2 h

theorem whose_none : ∀ {ren : List (Nat × Nat)} {b : Nat}, b ∉ ren.map (·.2) → whose ren b = none
  | [], b, _ => rfl
  | (c, d) :: l, b, h => by
    simp only [List.map_cons, List.mem_cons, not_or] at h
    simp only [whose]
    rw [if_neg (fun e => h.1 e.symm)]; exact whose_none h.2

theorem nodup_left {a b : List Nat} (h : nodupB (a ++ b) = true) : nodupB a = true := by
  induction a with
  | nil => rfl
  | cons x a ih =>
    simp only [List.cons_append, nodupB, Bool.and_eq_true, Bool.not_eq_true'] at h
    simp only [nodupB, Bool.and_eq_true, Bool.not_eq_true']
    refine ⟨?_, ih h.2⟩
    have : x ∉ a ++ b := by simpa using h.1
    simp only [List.mem_append, not_or] at this
    simpa using this.1

theorem nodup_apart {a b : List Nat} (h : nodupB (a ++ b) = true) : ∀ i ∈ a, i ∉ b := by
  induction a with
  | nil => intro i hi; simp at hi
  | cons x a ih =>
    simp only [List.cons_append, nodupB, Bool.and_eq_true, Bool.not_eq_true'] at h
    intro i hi
    rcases List.mem_cons.1 hi with rfl | hi
    · have : i ∉ a ++ b := by simpa using h.1
      simp only [List.mem_append, not_or] at this
      exact this.2
    · exact ih h.2 i hi

/-- WHAT IS KEPT OF A FRAME HOLDS OF IT. -/
theorem norm_St {k : Nat} {base : Nat} {X G : Nat → Prop} {τ : Nat → Gh} {σ : S} {a : Act} {w : World} {nm : Norm} {s : SL} (hs : St base X G τ σ a w) (h : norm k σ nm = some s) :
    (∃ τ', St base X G τ' (s.toS σ.n) a w ∧ ∀ i, i < k → τ' i = τ i) ∧ ∀ i, i < k → i ∈ s.ids := by
  unfold norm at h
  split at h
  · rename_i env l1 st l2 he hst
    simp only at h
    cases hb : nodupB (st.map (·.1) ++ (l1 ++ l2).map (·.1)) && (normIds k nm.ren && nodupB (nm.ren.map (·.1))) && ((l1 ++ l2).all fun p => Nat.ble k p.1) && (env.all fun p => subset p.2.ids (st.map (·.1) ++ (l1 ++ l2).map (·.1))) && (st.all fun p => subset (idsObj p.2) (st.map (·.1) ++ (l1 ++ l2).map (·.1))) with
    | false => simp only [hb, cond_false, reduceCtorEq] at h
    | true =>
      simp only [hb, cond_true, Option.some.injEq] at h
      subst h
      simp only [Bool.and_eq_true] at hb
      obtain ⟨⟨⟨⟨b1, b2, b2'⟩, b3⟩, b4⟩, b5⟩ := hb
      obtain ⟨e1, e2, e3⟩ := normEnv_get he
      obtain ⟨s1, s2, s3, s4⟩ := normSt_get hst
      have hnr : nodupB (nm.ren.map (·.2)) = true := by rw [← s1]; exact nodup_left b1
      let τ' : Nat → Gh := fun b => match whose nm.ren b with
        | some a => τ a
        | none => if b ∈ (l1 ++ l2).map (·.1) then ⟨none, none, 0, 0⟩ else τ b
      have hren : ∀ a b : Nat, (a, b) ∈ nm.ren → τ' b = τ a := by
        intro a b hab
        show (match whose nm.ren b with | some a => τ a | none => if b ∈ (l1 ++ l2).map (·.1) then ⟨none, none, 0, 0⟩ else τ b) = τ a
        rw [whose_mem hnr hab]
      have hrenId : ∀ a b : Nat, renId nm.ren a = some b → τ' b = τ a := fun a b h => hren a b (renId_mem h)
      have hfresh : ∀ p ∈ l1 ++ l2, τ' p.1 = ⟨none, none, 0, 0⟩ := by
        intro p hp
        have hpm : p.1 ∈ (l1 ++ l2).map (·.1) := List.mem_map.2 ⟨p, hp, rfl⟩
        have hnot : p.1 ∉ nm.ren.map (·.2) := by
          rw [← s1]
          exact fun h => nodup_apart b1 p.1 h hpm
        show (match whose nm.ren p.1 with | some a => τ a | none => if p.1 ∈ (l1 ++ l2).map (fun (p : Nat × E.Obj) => p.1) then (⟨none, none, 0, 0⟩ : Gh) else τ p.1) = ⟨none, none, 0, 0⟩
        rw [whose_none hnot, if_pos hpm]
      have hnewarr : ∀ p ∈ l1 ++ l2, ∃ n, p.2 = E.Obj.arr n [] := by
        intro p hp
        rcases List.mem_append.1 hp with hp | hp
        · exact e2 p hp
        · exact s2 p hp
      -- objects
      have hobj : ∀ b o', mkSt (st ++ (l1 ++ l2)) b = some o' → ((b, o') ∈ st ∧ b ∈ st.map (·.1)) ∨ ((b, o') ∈ l1 ++ l2) := by
        intro b o' hb
        rcases List.mem_append.1 (mkSt_get hb) with h | h
        · exact .inl ⟨h, List.mem_map.2 ⟨_, h, rfl⟩⟩
        · exact .inr h
      have hnoblk : ∀ b o', (b, o') ∈ l1 ++ l2 → (τ' b).blk = none := fun b o' hb => by rw [hfresh _ hb]
      refine ⟨?_, fun i hi => List.mem_append.2 (.inr (List.mem_range.2 hi))⟩
      have hnest : ∃ ζ, SubAt base X G τ' (mkSt (st ++ (l1 ++ l2))) w ζ := by
        have key : ∀ b o', mkSt (st ++ (l1 ++ l2)) b = some o' → o'.plain = false → ∃ a0, (a0, b) ∈ nm.ren ∧ σ.st a0 = some o' ∧ idsObj o' = [] := by
          intro b o' hb hp
          rcases hobj b o' hb with ⟨hbs, _⟩ | hbl
          · obtain ⟨a0, o, k1, k2, k3⟩ := s3 b o' hbs
            rcases k3 with ⟨hrb, rfl⟩ | ⟨cs, cs', l', _, e2, _⟩
            · exact ⟨a0, k1, k2, idsObj_rows hrb⟩
            · rw [plain_of_box e2] at hp; cases hp
          · obtain ⟨n, hn⟩ := hnewarr _ hbl
            simp only at hn
            rw [hn] at hp; cases hp
        refine Sub.step (fun b => (whose nm.ren b).getD 0) hs.mem.sub (fun b hb => ⟨hb, rfl⟩) (Nat.le_refl _) (fun _ _ h => h) (fun b o' hb hp => ?_) (fun b c o1 o2 hb hc hp1 hp2 he => ?_) (fun b _ hg _ _ => ⟨rfl, hg⟩) (fun b o' q hb hq => ?_)
        · obtain ⟨a0, k1, k2, k3⟩ := key b o' hb hp
          have hw : (whose nm.ren b).getD 0 = a0 := by rw [whose_mem hnr k1]; rfl
          exact ⟨by rw [hw]; exact k2, by rw [hw]; exact hren a0 b k1, fun i hi => (by rw [k3] at hi; simp at hi), fun _ _ => rfl⟩
        · obtain ⟨a1, k1, _⟩ := key b o1 hb hp1
          obtain ⟨a2, j1, _⟩ := key c o2 hc hp2
          rw [whose_mem hnr k1, whose_mem hnr j1] at he
          have : a1 = a2 := he
          subst this
          exact pair_unique b2' k1 j1
        · rcases hobj b o' hb with ⟨hbs, _⟩ | hbl
          · obtain ⟨a0, o, k1, k2, _⟩ := s3 b o' hbs
            rw [hren a0 b k1] at hq
            exact .inr ⟨a0, o, k2, hq⟩
          · rw [hnoblk b o' hbl] at hq; simp at hq
      refine ⟨τ', ⟨⟨hs.mem.gold, fun b o' hb => ?_, fun b o' q hb hq => ?_, fun b c o1 o2 q hb hc hq1 hq2 => ?_, hnest⟩, hs.base, hs.size, fun t => ?_, fun t i hi => ?_, fun b o' hb => ?_, hs.defers⟩, fun i hi => ?_⟩
      · rcases hobj b o' hb with ⟨hbs, _⟩ | hbl
        · obtain ⟨a0, o, k1, k2, k3⟩ := s3 b o' hbs
          have hok := hs.mem.ok a0 o k2
          rcases k3 with ⟨hrb, rfl⟩ | ⟨cs, cs', l', rfl, rfl, k4, k5⟩
          · exact Obj.ok_name hrb (hren a0 b k1) hok
          · simp only [Obj.ok, rowsOk] at hok ⊢
            rw [hren a0 b k1]
            obtain ⟨q, xs, t, fz, q1, q2, q3, q4, q5⟩ := hok
            exact ⟨q, xs, t, fz, q1, q2, q3, q4, renCells_rep hrenId k4 (fun p hp => hfresh p (List.mem_append.2 (.inr (k5 p hp)))) q5⟩
        · obtain ⟨n, hn⟩ := hnewarr _ hbl
          simp only at hn
          subst hn
          simp only [Obj.ok, rowsOk]
          rw [hfresh _ hbl]
          exact ⟨rfl, Nat.le_refl _, .inl ⟨rfl, rfl, rfl⟩⟩
      · rcases hobj b o' hb with ⟨hbs, _⟩ | hbl
        · obtain ⟨a0, o, k1, k2, _⟩ := s3 b o' hbs
          rw [hren a0 b k1] at hq
          exact hs.mem.own a0 o q k2 hq
        · rw [hnoblk b o' hbl] at hq; simp at hq
      · rcases hobj b o1 hb with ⟨hbs, _⟩ | hbl <;> rcases hobj c o2 hc with ⟨hcs, _⟩ | hcl
        · obtain ⟨a1, p1, k1, k2, _⟩ := s3 b o1 hbs
          obtain ⟨a2, p2, j1, j2, _⟩ := s3 c o2 hcs
          rw [hren a1 b k1] at hq1
          rw [hren a2 c j1] at hq2
          have := hs.mem.inj a1 a2 p1 p2 q k2 j2 hq1 hq2
          subst this
          exact pair_unique b2' k1 j1
        · rw [hnoblk c o2 hcl] at hq2; simp at hq2
        · rw [hnoblk b o1 hbl] at hq1; simp at hq1
        · rw [hnoblk b o1 hbl] at hq1; simp at hq1
      · show (mkEnv env t).rep w G τ' _
        rcases e1 t with h | ⟨l', h, h'⟩
        · rw [h]; simp only [V.rep]
        · exact renAt_rep hrenId h (fun p hp => hfresh p (List.mem_append.2 (.inl (h' p hp)))) (hs.env t)
      · rcases e3 t with h | h
        · simp only [SL.toS, h, V.ids, List.not_mem_nil] at hi
        · exact List.mem_append.2 (.inl (subset_spec (List.all_eq_true.1 b4 _ h) i hi))
      · rcases hobj b o' hb with ⟨hbs, hbm⟩ | hbl
        · exact ⟨List.mem_append.2 (.inl (List.mem_append.2 (.inl hbm))), fun j hj => List.mem_append.2 (.inl (subset_spec (List.all_eq_true.1 b5 _ hbs) j hj))⟩
        · obtain ⟨n, hn⟩ := hnewarr _ hbl
          simp only at hn
          subst hn
          exact ⟨List.mem_append.2 (.inl (List.mem_append.2 (.inr (List.mem_map.2 ⟨_, hbl, rfl⟩)))), fun j hj => by simp [idsObj] at hj⟩
      · show (match whose nm.ren i with | some a => τ a | none => if i ∈ (l1 ++ l2).map (fun (p : Nat × E.Obj) => p.1) then (⟨none, none, 0, 0⟩ : Gh) else τ i) = τ i
        cases hw : whose nm.ren i with
        | some a0 =>
          have hmem : ∀ {l : List (Nat × Nat)}, whose l i = some a0 → (a0, i) ∈ l := by
            intro l
            induction l with
            | nil => intro h; simp [whose] at h
            | cons p l ih =>
              intro h
              simp only [whose] at h
              by_cases hp : p.2 = i
              · rw [if_pos hp] at h; simp only [Option.some.injEq] at h; rw [← hp, ← h]; simp
              · rw [if_neg hp] at h; exact List.mem_cons_of_mem _ (ih h)
          have hm := List.all_eq_true.1 b2 _ (hmem hw)
          have hlt : Nat.blt i k = true := by simpa [Nat.blt_eq] using hi
          simp only [hlt, cond_true] at hm
          have : a0 = i := by simpa using hm
          rw [this]
        | none =>
          simp only
          rw [if_neg]
          intro hmem
          obtain ⟨p, hp, hpi⟩ := List.mem_map.1 hmem
          have := Nat.le_of_ble_eq_true (List.all_eq_true.1 b3 p hp)
          omega
  · simp at h

end Go.Proofs.Ythhggnnfiohnpaa.E

/- The engine, part Y (between R and S): two frames that are made one. -/
namespace Go.Proofs.Ythhggnnfiohnpaa.E
open Go
set_option linter.unusedSimpArgs false

mutual
theorem mergeV_rep {w : World} {G : Nat → Prop} {τ : Nat → Gh} {B : Bool} : ∀ {u v : V} {x : Value}, (bif B then u else v).rep w G τ x → (mergeV B u v).rep w G τ x
  | u, v, x, h => by
    unfold mergeV
    split
    · rename_i k m k' m'
      cases hk : decide (k = k') with
      | false => simp only [cond_false, V.rep]
      | true =>
        have : k = k' := of_decide_eq_true hk
        subst this
        cases B <;> simpa only [cond_true, cond_false] using h
    · cases B <;> simpa only [cond_true, cond_false] using h
    · cases B <;> simpa only [cond_true, cond_false] using h
    · cases B <;> simpa only [cond_true, cond_false] using h
    · rename_i cs cs'
      split
      · rename_i l hl
        have h' : ∃ xs, x = .agg xs ∧ repL w G τ (bif B then cs else cs') xs.toList := by cases B <;> simpa only [cond_true, cond_false, V.rep] using h
        obtain ⟨xs, e, hr⟩ := h'
        simp only [V.rep]
        exact ⟨xs, e, mergeL_rep hl hr⟩
      · simp only [V.rep]
    · cases B <;> simpa only [cond_true, cond_false] using h
    · rename_i n rows n' rows'
      cases hk : n == n' with
      | false => simp only [cond_false, V.rep]
      | true =>
        have : n = n' := by simpa using hk
        subst this
        cases B <;> simpa only [cond_true, cond_false] using h
    · rename_i n rows
      cases B with
      | true =>
        simp only [cond_true, V.rep, V.repI] at h ⊢
        subst h
        exact ⟨none, 0, rfl, Nat.le_refl _, .inl trivial⟩
      | false => simpa only [cond_true, cond_false] using h
    · rename_i n rows
      cases B with
      | false =>
        simp only [cond_false, V.rep, V.repI] at h ⊢
        subst h
        exact ⟨none, 0, rfl, Nat.le_refl _, .inl trivial⟩
      | true => simpa only [cond_true, cond_false] using h
    · rename_i i j
      cases hk : i == j with
      | false => simp only [cond_false, V.rep]
      | true =>
        have : i = j := by simpa using hk
        subst this
        cases B <;> simpa only [cond_true, cond_false] using h
    · rename_i i n r o i' n' r' o'
      cases hk : i == i' && (n == n' && o == o') with
      | false => simp only [cond_false, V.rep]
      | true =>
        simp only [Bool.and_eq_true, beq_iff_eq] at hk
        obtain ⟨rfl, rfl, rfl⟩ := hk
        cases B <;> simpa only [cond_true, cond_false] using h
    · rename_i g f c g' f' c'
      cases hk : g == g' with
      | false => simp only [cond_false, V.rep]
      | true =>
        have : g = g' := by simpa using hk
        subst this
        simp only [cond_true]
        split
        · rename_i f2 c2 hf hc
          have h' : ∃ xs ys, x = .func (.func g) xs ys ∧ repL w G τ (bif B then f else f') xs.toList ∧ repL w G τ (bif B then c else c') ys.toList := by cases B <;> simpa only [cond_true, cond_false, V.rep] using h
          obtain ⟨xs, ys, e, h1, h2⟩ := h'
          simp only [V.rep]
          exact ⟨xs, ys, e, mergeL_rep hf h1, mergeL_rep hc h2⟩
        · simp only [V.rep]
    · simp only [V.rep]
theorem mergeL_rep {w : World} {G : Nat → Prop} {τ : Nat → Gh} {B : Bool} : ∀ {us vs l : List V} {xs : List Value}, mergeL B us vs = some l → repL w G τ (bif B then us else vs) xs → repL w G τ l xs
  | [], [], l, xs, h, hr => by
    simp only [mergeL, Option.some.injEq] at h
    subst h
    cases B <;> simpa only [cond_true, cond_false] using hr
  | [], _ :: _, l, xs, h, _ => by simp [mergeL] at h
  | _ :: _, [], l, xs, h, _ => by simp [mergeL] at h
  | u :: us, v :: vs, l, xs, h, hr => by
    simp only [mergeL] at h
    split at h
    · rename_i l' hl
      simp only [Option.some.injEq] at h
      subst h
      cases xs with
      | nil => cases B <;> simp [repL] at hr
      | cons x xs =>
        have hr' : (bif B then u else v).rep w G τ x ∧ repL w G τ (bif B then us else vs) xs := by cases B <;> simpa only [cond_true, cond_false, repL] using hr
        simp only [repL]
        exact ⟨mergeV_rep hr'.1, mergeL_rep hl hr'.2⟩
    · simp at h
end

mutual
theorem mergeV_ids {B : Bool} : ∀ {u v : V}, ∀ i ∈ (mergeV B u v).ids, i ∈ (bif B then u else v).ids
  | u, v, i, hi => by
    unfold mergeV at hi
    split at hi
    · rename_i k m k' m'
      cases hk : decide (k = k') <;> simp [hk, V.ids] at hi
    · simp [V.ids] at hi
    · simp [V.ids] at hi
    · simp [V.ids] at hi
    · rename_i cs cs'
      split at hi
      · rename_i l hl
        simp only [V.ids] at hi
        have := mergeL_ids hl i hi
        cases B <;> simpa only [cond_true, cond_false, V.ids] using this
      · simp [V.ids] at hi
    · simp [V.ids] at hi
    · rename_i n rows n' rows'
      cases hk : n == n' <;> simp only [hk, cond_true, cond_false, V.ids] at hi <;> simp at hi
    · simp [V.ids] at hi
    · simp [V.ids] at hi
    · rename_i a b
      cases hk : a == b with
      | false => simp only [hk, cond_false, V.ids] at hi; simp at hi
      | true =>
        have : a = b := by simpa using hk
        subst this
        simp only [hk, cond_true] at hi
        cases B <;> simpa only [cond_true, cond_false] using hi
    · rename_i a n r o a' n' r' o'
      cases hk : a == a' && (n == n' && o == o') with
      | false => simp only [hk, cond_false, V.ids] at hi; simp at hi
      | true =>
        simp only [hk, cond_true, V.ids] at hi
        simp only [Bool.and_eq_true, beq_iff_eq] at hk
        obtain ⟨rfl, rfl, rfl⟩ := hk
        cases B <;> simpa only [cond_true, cond_false, V.ids] using hi
    · rename_i g f c g' f' c'
      cases hk : g == g' with
      | false => simp only [hk, cond_false, V.ids] at hi; simp at hi
      | true =>
        simp only [hk, cond_true] at hi
        split at hi
        · rename_i f2 c2 hf hc
          simp only [V.ids, List.mem_append] at hi
          rcases hi with hi | hi
          · have := mergeL_ids hf i hi
            cases B <;> (simp only [cond_true, cond_false, V.ids, List.mem_append] at this ⊢; exact .inl this)
          · have := mergeL_ids hc i hi
            cases B <;> (simp only [cond_true, cond_false, V.ids, List.mem_append] at this ⊢; exact .inr this)
        · simp [V.ids] at hi
    · simp [V.ids] at hi
theorem mergeL_ids {B : Bool} : ∀ {us vs l : List V}, mergeL B us vs = some l → ∀ i ∈ idsL l, i ∈ idsL (bif B then us else vs)
  | [], [], l, h, i, hi => by
    simp only [mergeL, Option.some.injEq] at h
    subst h
    simp [idsL] at hi
  | [], _ :: _, l, h, _, _ => by simp [mergeL] at h
  | _ :: _, [], l, h, _, _ => by simp [mergeL] at h
  | u :: us, v :: vs, l, h, i, hi => by
    simp only [mergeL] at h
    split at h
    · rename_i l' hl
      simp only [Option.some.injEq] at h
      subst h
      simp only [idsL, List.mem_append] at hi
      rcases hi with hi | hi
      · have := mergeV_ids i hi
        cases B <;> (simp only [cond_true, cond_false, idsL, List.mem_append] at this ⊢; exact .inl this)
      · have := mergeL_ids hl i hi
        cases B <;> (simp only [cond_true, cond_false, idsL, List.mem_append] at this ⊢; exact .inr this)
    · simp at h
end

theorem mergeO_ok {w : World} {G : Nat → Prop} {τ : Nat → Gh} {B : Bool} {id : Nat} {o1 o2 : Option E.Obj} {o : E.Obj} (h : mergeO B o1 o2 = some o) :
    ∃ p, (bif B then o1 else o2) = some p ∧ (∀ i ∈ idsObj o, i ∈ idsObj p) ∧ (p.ok w G τ id → o.ok w G τ id) := by
  unfold mergeO at h
  split at h
  · rename_i cs ds
    split at h
    · rename_i l hl
      simp only [Option.some.injEq] at h
      subst h
      refine ⟨.box (bif B then cs else ds), by cases B <;> rfl, fun i hi => mergeL_ids hl i hi, fun hok => ?_⟩
      simp only [Obj.ok, rowsOk] at hok ⊢
      obtain ⟨b, xs, t, fz, e1, e2, e3, e4, e5⟩ := hok
      exact ⟨b, xs, t, fz, e1, e2, e3, e4, mergeL_rep hl e5⟩
    · simp at h
  · rename_i n rows n' rows'
    cases hk : n == n' with
    | false => simp only [hk, cond_false, reduceCtorEq] at h
    | true =>
      have : n = n' := by simpa using hk
      subst this
      simp only [hk, cond_true, Option.some.injEq] at h
      subst h
      exact ⟨.arr n (bif B then rows else rows'), by cases B <;> rfl, fun i hi => by simp [idsObj] at hi, fun hok => hok⟩
  · simp at h

/-- What a run did not touch. -/
def Kept (D : List Nat) (σ σ' : S) : Prop := (∀ t, t ∉ D → σ'.env t = σ.env t) ∧ ∃ pre, σ'.ids = pre ++ σ.ids ∧ ∀ i, i ∉ pre → σ'.st i = σ.st i

theorem Kept.refl (D : List Nat) (σ : S) : Kept D σ σ := ⟨fun _ _ => rfl, [], rfl, fun _ _ => rfl⟩

theorem Kept.trans {D D' : List Nat} {σ σ1 σ2 : S} (h : Kept D σ σ1) (h' : Kept D' σ1 σ2) : Kept (D ++ D') σ σ2 := by
  obtain ⟨a1, p1, b1, c1⟩ := h
  obtain ⟨a2, p2, b2, c2⟩ := h'
  refine ⟨fun t ht => ?_, p2 ++ p1, by rw [b2, b1, List.append_assoc], fun i hi => ?_⟩
  · simp only [List.mem_append, not_or] at ht
    rw [a2 t ht.2, a1 t ht.1]
  · simp only [List.mem_append, not_or] at hi
    rw [c2 i hi.1, c1 i hi.2]

theorem Kept.mono {D D' : List Nat} {σ σ' : S} (h : Kept D σ σ') (hd : ∀ t ∈ D, t ∈ D') : Kept D' σ σ' :=
  ⟨fun t ht => h.1 t fun hm => ht (hd t hm), h.2⟩

theorem freshIds_of {σ σ1 : S} {pre : List Nat} (h : σ1.ids = pre ++ σ.ids) : freshIds σ σ1 = pre := by
  unfold freshIds
  rw [h, List.length_append]
  have : pre.length + σ.ids.length - σ.ids.length = pre.length := by omega
  rw [this, List.take_left']
  rfl

theorem Kept.merge {B : Bool} {σ σ1 σ2 : S} {D : List Nat} : Kept D σ (mergeS B σ D σ1 σ2) := by
  refine ⟨fun t ht => ?_, freshIds σ σ1 ++ freshIds σ σ2, rfl, fun i hi => ?_⟩
  · have : D.contains t = false := by simpa using ht
    simp only [mergeS, this, cond_false]
  · have : (freshIds σ σ1 ++ freshIds σ σ2).contains i = false := by simpa using hi
    simp only [mergeS, this, cond_false]

theorem St.merge {B : Bool} {base : Nat} {X G : Nat → Prop} {τ : Nat → Gh} {σ σ1 σ2 : S} {D : List Nat} {a : Act} {w : World} (h1 : Kept D σ σ1) (h2 : Kept D σ σ2) (n1 : σ1.n = σ.n) (n2 : σ2.n = σ.n)
    (hs : St base X G τ (bif B then σ1 else σ2) a w) : St base X G τ (mergeS B σ D σ1 σ2) a w := by
  obtain ⟨a1, p1, b1, c1⟩ := h1
  obtain ⟨a2, p2, b2, c2⟩ := h2
  have hpre : freshIds σ σ1 ++ freshIds σ σ2 = p1 ++ p2 := by rw [freshIds_of b1, freshIds_of b2]
  have henv : ∀ t, (bif B then σ1 else σ2).env t = bif B then σ1.env t else σ2.env t := fun t => by cases B <;> rfl
  have hst : ∀ t, (bif B then σ1 else σ2).st t = bif B then σ1.st t else σ2.st t := fun t => by cases B <;> rfl
  have hids : ∀ i, i ∈ (bif B then σ1 else σ2).ids → i ∈ (mergeS B σ D σ1 σ2).ids := by
    intro i hi
    show i ∈ (freshIds σ σ1 ++ freshIds σ σ2) ++ σ.ids
    rw [hpre]
    cases B with
    | true =>
      have hi : i ∈ σ1.ids := hi
      rw [b1] at hi
      simp only [List.mem_append] at hi ⊢
      rcases hi with hi | hi
      · exact .inl (.inl hi)
      · exact .inr hi
    | false =>
      have hi : i ∈ σ2.ids := hi
      rw [b2] at hi
      simp only [List.mem_append] at hi ⊢
      rcases hi with hi | hi
      · exact .inl (.inr hi)
      · exact .inr hi
  have hobj : ∀ i o, (mergeS B σ D σ1 σ2).st i = some o → ∃ p, (bif B then σ1 else σ2).st i = some p ∧ (∀ j ∈ idsObj o, j ∈ idsObj p) ∧ (p.ok w G τ i → o.ok w G τ i) := by
    intro i o ho
    simp only [mergeS, hpre] at ho
    cases hc : (p1 ++ p2).contains i with
    | true =>
      simp only [hc, cond_true] at ho
      rw [hst]
      exact mergeO_ok ho
    | false =>
      simp only [hc, cond_false] at ho
      have hni : i ∉ p1 ++ p2 := by simpa using hc
      simp only [List.mem_append, not_or] at hni
      refine ⟨o, ?_, fun _ h => h, fun h => h⟩
      rw [hst, c1 i hni.1, c2 i hni.2]
      cases B <;> exact ho
  have hnest : ∀ i o, (mergeS B σ D σ1 σ2).st i = some o → o.plain = false → (bif B then σ1 else σ2).st i = some o := by
    intro i o ho hp
    simp only [mergeS, hpre] at ho
    cases hc : (p1 ++ p2).contains i with
    | true =>
      simp only [hc, cond_true] at ho
      exfalso
      unfold mergeO at ho
      split at ho
      · split at ho
        · simp only [Option.some.injEq] at ho; subst ho; cases hp
        · simp at ho
      · rename_i n rows n' rows' _ _
        cases hn : n == n' with
        | true => simp only [hn, cond_true, Option.some.injEq] at ho; subst ho; cases hp
        | false => simp [hn] at ho
      · simp at ho
    | false =>
      simp only [hc, cond_false] at ho
      have hni : i ∉ p1 ++ p2 := by simpa using hc
      simp only [List.mem_append, not_or] at hni
      rw [hst, c1 i hni.1, c2 i hni.2]
      cases B <;> exact ho
  have hsub : ∃ ζ, SubAt base X G τ (mergeS B σ D σ1 σ2).st w ζ :=
    Sub.step (fun i => i) hs.mem.sub (fun b hb => ⟨hb, rfl⟩) (Nat.le_refl _) (fun _ _ h => h) (fun i o ho hp => ⟨hnest i o ho hp, rfl, fun _ _ => rfl, fun _ _ => rfl⟩) (fun i j _ _ _ _ _ _ h => h) (fun b _ hg _ _ => ⟨rfl, hg⟩)
      (fun i o b ho hb => by
        obtain ⟨p, k1, _, _⟩ := hobj i o ho
        exact .inr ⟨i, p, k1, hb⟩)
  refine ⟨⟨hs.mem.gold, fun i o ho => ?_, fun i o b ho hb => ?_, fun i j o p b hi hj h1 h2 => ?_, hsub⟩, hs.base, ?_, fun t => ?_, fun t i hi => ?_, fun i o ho => ?_, hs.defers⟩
  · obtain ⟨p, k1, _, k3⟩ := hobj i o ho
    exact k3 (hs.mem.ok i p k1)
  · obtain ⟨p, k1, _, _⟩ := hobj i o ho
    exact hs.mem.own i p b k1 hb
  · obtain ⟨p1, k1, _, _⟩ := hobj i o hi
    obtain ⟨p2, k2, _, _⟩ := hobj j p hj
    exact hs.mem.inj i j p1 p2 b k1 k2 h1 h2
  · rw [hs.size]
    show (bif B then σ1 else σ2).n = σ.n
    cases B
    · exact n2
    · exact n1
  · have := hs.env t
    rw [henv] at this
    cases hc : D.contains t with
    | true =>
      simp only [mergeS, hc, cond_true]
      exact mergeV_rep this
    | false =>
      simp only [mergeS, hc, cond_false]
      have ht : t ∉ D := by simpa using hc
      rw [a1 t ht, a2 t ht] at this
      cases B <;> exact this
  · have hi2 : i ∈ (bif B then σ1 else σ2).ids := by
      refine hs.ids t i ?_
      rw [henv]
      cases hc : D.contains t with
      | true =>
        simp only [mergeS, hc, cond_true] at hi
        exact mergeV_ids i hi
      | false =>
        simp only [mergeS, hc, cond_false] at hi
        have ht : t ∉ D := by simpa using hc
        rw [a1 t ht, a2 t ht]
        cases B <;> exact hi
    exact hids i hi2
  · obtain ⟨p, k1, k2, _⟩ := hobj i o ho
    obtain ⟨g1, g2⟩ := hs.objs i p k1
    exact ⟨hids i g1, fun j hj => hids j (g2 j (k2 j hj))⟩

theorem allP_spec : ∀ {ps : List Prop}, allP ps → ∀ p ∈ ps, p
  | [], _, p, hp => by simp at hp
  | [q], h, p, hp => by rw [List.mem_singleton] at hp; rw [hp]; exact h
  | q :: r :: l, h, p, hp => by
    obtain ⟨h1, h2⟩ := h
    rcases List.mem_cons.1 hp with rfl | hp
    · exact h1
    · exact allP_spec h2 p hp

theorem orP_true {B : Bool} {ps qs : List Prop} (h : ∀ p ∈ orP B ps qs, p) (hb : B = true) : ∀ p ∈ ps, p := by
  cases ps with
  | nil => simp
  | cons a l => exact allP_spec (h (B = true → allP (a :: l)) (by simp [orP]) hb)

theorem orP_false {B : Bool} {ps qs : List Prop} (h : ∀ p ∈ orP B ps qs, p) (hb : B = false) : ∀ p ∈ qs, p := by
  cases qs with
  | nil => simp
  | cons a l => exact allP_spec (h (B = false → allP (a :: l)) (by simp [orP]) hb)

end Go.Proofs.Ythhggnnfiohnpaa.E

/- The engine, part S: code, loops, functions. -/
namespace Go.Proofs.Ythhggnnfiohnpaa.E
open Go
set_option linter.unusedSimpArgs false

/-! ### Loops -/

theorem wp_of_loopWp {P : Program} {c : Code} {Q : Exit → Act → World → Prop} {a : Act} {w : World} (h : loopWp P c Q a w) : (Code.loop c).wp P Q a w :=
  fun b k cs => let ⟨e, a', w', q, r⟩ := h b k cs; ⟨e, a', w', q, .of_steps (.one step_loop) r⟩

theorem loopWp_step {P : Program} {c : Code} {Q : Exit → Act → World → Prop} {a : Act} {w : World} (h : c.wp P (Exit.then (loopWp P c Q) Q) a w) : loopWp P c Q a w := by
  intro b k cs
  obtain ⟨e, a₁, w₁, hq, harr⟩ := h b (.inLoop c :: k) cs
  cases e with
  | normal =>
    obtain ⟨e₂, a₂, w₂, hq₂, harr₂⟩ := hq b k cs
    exact ⟨e₂, a₂, w₂, hq₂, .of_steps (Steps.trans harr (.one step_inLoop)) harr₂⟩
  | exit id => exact ⟨_, a₁, w₁, hq, .pass (x := .inLoop c) rfl (fun _ _ => .inl (by simp)) harr⟩
  | goto l => exact ⟨_, a₁, w₁, hq, .pass (x := .inLoop c) rfl (fun _ _ => .inl (by simp)) harr⟩
  | ret => exact ⟨_, a₁, w₁, hq, .pass (x := .inLoop c) rfl (fun _ _ => .inl (by simp)) harr⟩
  | panic ch => exact ⟨_, a₁, w₁, hq, .pass (x := .inLoop c) rfl (fun _ _ => .inl (by simp)) harr⟩
  | outgrown => exact ⟨_, a₁, w₁, hq, .pass (x := .inLoop c) rfl (fun _ _ => .inl (by simp)) harr⟩

theorem loopWp_mono {P : Program} {c : Code} {Q Q' : Exit → Act → World → Prop} {a : Act} {w : World} (h : loopWp P c Q a w) (hq : ∀ e a w, Q e a w → Q' e a w) : loopWp P c Q' a w :=
  fun b k cs => let ⟨e, a', w', q, r⟩ := h b k cs; ⟨e, a', w', hq _ _ _ q, r⟩

/-- Where a run ends. -/
def Post (base : Nat) (X G : Nat → Prop) (τ : Nat → Gh) (w : World) (k : Nat) (σ' : S) (e : Ex) : Exit → Act → World → Prop :=
  fun e' a' w' => e' = e.at ∧ ∃ G' τ', St base X G' τ' σ' a' w' ∧ Ext base X G w G' w' ∧ ∀ i, i < k → τ' i = τ i

theorem Post.after {base : Nat} {X G G1 : Nat → Prop} {τ τ1 : Nat → Gh} {w w1 : World} {k : Nat} {σ' : S} {e : Ex} (he : Ext base X G w G1 w1) (ht : ∀ i, i < k → τ1 i = τ i) : ∀ e' a' w', Post base X G1 τ1 w1 k σ' e e' a' w' → Post base X G τ w k σ' e e' a' w' := by
  rintro e' a' w' ⟨h1, G', τ', h2, h3, h4⟩
  exact ⟨h1, G', τ', h2, he.trans h3, fun i hi => (h4 i hi).trans (ht i hi)⟩

theorem putSt_kept : ∀ {ws : List (Nat × Option E.Obj)} {st : Nat → Option E.Obj} {i : Nat}, i ∉ ws.map (·.1) → putSt st ws i = st i
  | [], _, _, _ => rfl
  | (j, o) :: ws, st, i, h => by
    simp only [List.map_cons, List.mem_cons, not_or] at h
    simp only [putSt]
    rw [putSt_kept h.2]
    have : (i == j) = false := by simpa using h.1
    simp [this]

theorem runOps_keeps {P : Program} {rid : Nat} {ops : Array Oper} {sc : List (Nat × List Ans × Option Bool)} : ∀ {is : List Nat} {σ σ' : S} {ls : List Log}, runOps P rid ops sc is σ = some (σ', ls) →
      σ'.n = σ.n ∧ (∀ t, t ∉ dstsOps ops → σ'.env t = σ.env t) ∧ ∃ pre, σ'.ids = pre ++ σ.ids ∧ ∀ i, i ∉ touchedAll ls → σ'.st i = σ.st i
  | [], σ, σ', ls, h => by
    simp only [runOps, Option.some.injEq, Prod.mk.injEq] at h
    obtain ⟨rfl, _⟩ := h
    exact ⟨rfl, fun _ _ => rfl, [], rfl, fun _ _ => rfl⟩
  | i :: is, σ, σ', ls, h => by
    obtain ⟨o, l, ls', h1, _, _, _, _, _, h7, h8⟩ := runOps_cons h
    obtain ⟨g1, g2, pre, g3, g4⟩ := runOps_keeps h8
    refine ⟨g1, fun t ht => ?_, pre ++ l.new, by rw [g3, List.append_assoc], fun j hj => ?_⟩
    · rw [g2 t ht]
      show putEnv σ.env o.dst l.v t = σ.env t
      cases hd : o.dst with
      | none => rfl
      | some d =>
        have : (t == d) = false := by
          simp only [beq_eq_false_iff_ne]
          rintro rfl
          refine ht (List.mem_filterMap.2 ⟨o, ?_, hd⟩)
          exact Array.mem_toList_iff.2 (Array.mem_of_getElem? h1)
        simp [putEnv, this]
    · subst h7
      simp only [touchedAll, List.mem_append, not_or] at hj
      rw [g4 j hj.2]
      exact putSt_kept hj.1

theorem runRegion_keeps {P : Program} {rid : Nat} {ops : Array Oper} {draw : Bool} {sc : List (Nat × List Ans × Option Bool)} {σ σ' : S} {ps : List Prop} (h : runRegion P rid ops draw sc σ = some (σ', ps)) : σ'.n = σ.n ∧ Kept (dstsOps ops) σ σ' := by
  have key : ∀ {σ2 : S} {ls : List Log}, runOps P rid ops sc (List.range ops.size) σ = some (σ2, ls) → (σ2.more (touchedAll ls)).n = σ.n ∧ Kept (dstsOps ops) σ (σ2.more (touchedAll ls)) := by
    intro σ2 ls hr
    obtain ⟨g1, g2, pre, g3, g4⟩ := runOps_keeps hr
    exact ⟨g1, g2, touchedAll ls ++ pre, by simp only [S.more, g3, List.append_assoc], fun i hi => g4 i fun hm => hi (List.mem_append.2 (.inl hm))⟩
  unfold runRegion at h
  split at h
  · simp at h
  · rename_i σ2 ls hr
    cases draw with
    | false =>
      simp only [cond_false, Option.some.injEq, Prod.mk.injEq] at h
      obtain ⟨rfl, rfl⟩ := h
      exact key hr
    | true =>
      simp only [cond_true] at h
      cases hb : edgesBack ops && calmAt ops (aheadOf ops) ((List.range ops.size).zip (ops.toList.zip ls)) with
      | false => simp only [hb, cond_false, reduceCtorEq] at h
      | true =>
        simp only [hb, cond_true, Option.some.injEq, Prod.mk.injEq] at h
        obtain ⟨rfl, rfl⟩ := h
        exact key hr

theorem runFk_keeps {P : Program} {rid : Nat} {ops : Array Oper} {draw : Bool} {au : List (Nat × List Ans × Option Bool)} : ∀ {fk : Fk} {σ σ' : S} {ps : List Prop}, runFk P rid ops draw au fk σ = some (σ', ps) → σ'.n = σ.n ∧ Kept (dstsOps ops) σ σ'
  | .leaf as, σ, σ', ps, h => runRegion_keeps h
  | .node B l r, σ, σ', ps, h => by
    simp only [runFk] at h
    split at h
    · simp only [Option.some.injEq, Prod.mk.injEq] at h
      obtain ⟨rfl, rfl⟩ := h
      exact ⟨rfl, Kept.merge⟩
    · simp at h

theorem plain_tab {sc sc' : List It} (h : sc.all It.plain = true) : (sc ++ tabTail sc').all It.plain = true := by
  simp [h, tabTail, It.plain]

theorem mergeR_spec {B : Bool} {σ σ' : S} {D : List Nat} {rest sc' : List It} {r1 r2 : Res} {e : Ex} {ps : List Prop} (h : mergeR B σ D rest r1 r2 = some (e, σ', sc', ps)) :
    ∃ σ1 σ2 s1 s2 ps1 ps2, r1 = some (e, σ1, s1, ps1) ∧ r2 = some (e, σ2, s2, ps2) ∧ σ' = mergeS B σ D σ1 σ2 ∧ sc' = rest ∧ ps = orP B ps1 ps2 := by
  unfold mergeR at h
  split at h
  · rename_i e1 σ1 s1 qs1 e2 σ2 s2 qs2
    cases hb0 : doneSc s1 && doneSc s2 && e1.same e2 with
    | false => simp only [hb0, cond_false, reduceCtorEq] at h
    | true =>
      simp only [hb0, cond_true, Option.some.injEq, Prod.mk.injEq] at h
      obtain ⟨rfl, rfl, rfl, rfl⟩ := h
      have hb : e1.same e2 = true := by simp only [Bool.and_eq_true] at hb0; exact hb0.2
      have : e2 = e1 := by
        unfold Ex.same at hb
        split at hb
        · rfl
        · rename_i i j; rw [show i = j by simpa using hb]
        · rfl
        · simp at hb
      subst this
      exact ⟨σ1, σ2, s1, s2, qs1, qs2, rfl, rfl, rfl, rfl, rfl⟩
  · simp at h

theorem inBlk_spec {id : Nat} {r : Res} {e : Ex} {σ : S} {sc : List It} {ps : List Prop} (h : inBlk id r = some (e, σ, sc, ps)) : ∃ e0, r = some (e0, σ, sc, ps) ∧ ((e0 = .exit id ∧ e = .normal) ∨ (e0 ≠ .exit id ∧ e = e0)) := by
  unfold inBlk at h
  split at h
  · rename_i id' σ' sc' ps'
    cases hb : id' == id with
    | true =>
      simp only [hb, cond_true, Option.some.injEq, Prod.mk.injEq] at h
      obtain ⟨rfl, rfl, rfl, rfl⟩ := h
      have : id' = id := by simpa using hb
      subst this
      exact ⟨_, rfl, .inl ⟨rfl, rfl⟩⟩
    | false =>
      simp only [hb, cond_false, Option.some.injEq, Prod.mk.injEq] at h
      obtain ⟨rfl, rfl, rfl, rfl⟩ := h
      have : id' ≠ id := by simpa using hb
      exact ⟨_, rfl, .inr ⟨fun h => this (by cases h; rfl), rfl⟩⟩
  · rename_i hne
    refine ⟨e, h, .inr ⟨?_, rfl⟩⟩
    rintro rfl
    exact hne _ _ _ _ h

theorem iter_keeps {D : List Nat} {f : List It → S → Res} (hf : ∀ sc σ e σ' sc' ps, f sc σ = some (e, σ', sc', ps) → sc.all It.plain = true → sc'.all It.plain = true ∧ σ'.n = σ.n ∧ Kept D σ σ') :
    ∀ (m : Nat) (sc : List It) (σ : S) (e : Ex) (σ' : S) (sc' : List It) (ps : List Prop), iter f m sc σ = some (e, σ', sc', ps) → sc.all It.plain = true → sc'.all It.plain = true ∧ σ'.n = σ.n ∧ Kept D σ σ'
  | 0, _, _, _, _, _, _, h, _ => by simp [iter] at h
  | m + 1, sc, σ, e, σ', sc', ps, h, hp => by
    simp only [iter] at h
    split at h
    · simp at h
    · rename_i σ1 sc1 ps1 h1
      split at h
      · simp at h
      · rename_i e2 σ2 sc2 qs h2
        simp only [Option.some.injEq, Prod.mk.injEq] at h
        obtain ⟨rfl, rfl, rfl, rfl⟩ := h
        obtain ⟨g1, g2, g3⟩ := hf _ _ _ _ _ _ h1 hp
        obtain ⟨k1, k2, k3⟩ := iter_keeps hf m sc1 σ1 e2 σ2 sc2 qs h2 g1
        exact ⟨k1, k2.trans g2, (g3.trans k3).mono fun t ht => by simpa using ht⟩
    · rename_i e1 σ1 sc1 ps1 hne h1
      simp only [Option.some.injEq, Prod.mk.injEq] at h
      obtain ⟨rfl, rfl, rfl, rfl⟩ := h
      exact hf _ _ _ _ _ _ h1 hp

theorem tailAt_plain {P : Program} {k : Nat} {b : Code} {sc : List It} {σ : S} (h : sc.all It.plain = true) : tailAt P k b sc σ = none := by
  unfold tailAt
  split
  · simp [It.plain] at h
  · rfl

theorem runC_keeps {P : Program} {k : Nat} : ∀ (c : Code) (sc : List It) (σ : S) (e : Ex) (σ' : S) (sc' : List It) (ps : List Prop), runC P k c sc σ = some (e, σ', sc', ps) → sc.all It.plain = true → sc'.all It.plain = true ∧ σ'.n = σ.n ∧ Kept (dstsC c) σ σ'
  | .skip, sc, σ, e, σ', sc', ps, h, hp => by
    simp only [runC, Option.some.injEq, Prod.mk.injEq] at h
    obtain ⟨rfl, rfl, rfl, rfl⟩ := h
    exact ⟨hp, rfl, Kept.refl _ _⟩
  | .exit id, sc, σ, e, σ', sc', ps, h, hp => by
    simp only [runC, Option.some.injEq, Prod.mk.injEq] at h
    obtain ⟨rfl, rfl, rfl, rfl⟩ := h
    exact ⟨hp, rfl, Kept.refl _ _⟩
  | .ret, sc, σ, e, σ', sc', ps, h, hp => by
    simp only [runC, Option.some.injEq, Prod.mk.injEq] at h
    obtain ⟨rfl, rfl, rfl, rfl⟩ := h
    exact ⟨hp, rfl, Kept.refl _ _⟩
  | .region rid ops draw, sc, σ, e, σ', sc', ps, h, hp => by
    have key : ∀ as rest, rest.all It.plain = true → (match runRegion P rid ops draw as σ with
      | some (σ', ps) => some (Ex.normal, σ', rest, ps)
      | none => (none : Res)) = some (e, σ', sc', ps) → sc'.all It.plain = true ∧ σ'.n = σ.n ∧ Kept (dstsC (.region rid ops draw)) σ σ' := by
      intro as rest hrest h
      split at h
      · rename_i σ2 ps2 h2
        simp only [Option.some.injEq, Prod.mk.injEq] at h
        obtain ⟨rfl, rfl, rfl, rfl⟩ := h
        exact ⟨hrest, runRegion_keeps h2⟩
      · simp at h
    unfold runC at h
    split at h
    · rename_i id' as rest
      have hrest : rest.all It.plain = true := by simp only [List.all_cons, Bool.and_eq_true] at hp; exact hp.2
      cases hb : id' == rid with
      | true => simp only [hb, cond_true] at h; exact key _ _ hrest h
      | false => simp only [hb, cond_false] at h; exact key _ _ hp h
    · rename_i id' fk rest
      have hrest : rest.all It.plain = true := by simp only [List.all_cons, Bool.and_eq_true] at hp; exact hp.2
      cases hb : id' == rid with
      | true =>
        simp only [hb, cond_true] at h
        split at h
        · rename_i σ2 ps2 h2
          simp only [Option.some.injEq, Prod.mk.injEq] at h
          obtain ⟨rfl, rfl, rfl, rfl⟩ := h
          exact ⟨hrest, runFk_keeps h2⟩
        · simp at h
      | false => simp only [hb, cond_false] at h; exact key _ _ hp h
    · exact key _ _ hp h
  | .seq x y, sc, σ, e, σ', sc', ps, h, hp => by
    simp only [runC] at h
    split at h
    · simp at h
    · rename_i σ1 sc1 ps1 h1
      rw [tailAt_plain (runC_keeps x _ _ _ _ _ _ h1 hp).1] at h
      dsimp only at h
      split at h
      · simp at h
      · rename_i e2 σ2 sc2 qs h2
        simp only [Option.some.injEq, Prod.mk.injEq] at h
        obtain ⟨rfl, rfl, rfl, rfl⟩ := h
        obtain ⟨g1, g2, g3⟩ := runC_keeps x _ _ _ _ _ _ h1 hp
        obtain ⟨k1, k2, k3⟩ := runC_keeps y _ _ _ _ _ _ h2 g1
        exact ⟨k1, k2.trans g2, g3.trans k3⟩
    · rename_i e1 σ1 sc1 ps1 hne h1
      simp only [Option.some.injEq, Prod.mk.injEq] at h
      obtain ⟨rfl, rfl, rfl, rfl⟩ := h
      obtain ⟨g1, g2, g3⟩ := runC_keeps x _ _ _ _ _ _ h1 hp
      exact ⟨g1, g2, g3.mono fun t ht => List.mem_append.2 (.inl ht)⟩
  | .cond c x y, sc, σ, e, σ', sc', ps, h, hp => by
    have key : (match rdO σ.env c with
      | .val (.bool true) => runC P k x sc σ
      | .val (.bool false) => runC P k y sc σ
      | _ => none) = some (e, σ', sc', ps) → sc'.all It.plain = true ∧ σ'.n = σ.n ∧ Kept (dstsC (.cond c x y)) σ σ' := by
      intro h
      split at h
      · obtain ⟨g1, g2, g3⟩ := runC_keeps x _ _ _ _ _ _ h hp
        exact ⟨g1, g2, g3.mono fun t ht => List.mem_append.2 (.inl ht)⟩
      · obtain ⟨g1, g2, g3⟩ := runC_keeps y _ _ _ _ _ _ h hp
        exact ⟨g1, g2, g3.mono fun t ht => List.mem_append.2 (.inr ht)⟩
      · simp at h
    unfold runC at h
    split at h
    · simp [It.plain] at hp
    · rename_i t sc1 sc2 rest
      cases hct : isTmp t c with
      | false => simp only [hct, cond_false] at h; exact key h
      | true =>
      simp only [hct, cond_true] at h
      simp only [List.all_cons, Bool.and_eq_true] at hp
      split at h
      · rename_i B hB
        cases hb : sc1.all It.plain && sc2.all It.plain with
        | false => simp only [hb, cond_false, reduceCtorEq] at h
        | true =>
          simp only [hb, cond_true] at h
          obtain ⟨σ1, σ2, s1, s2, ps1, ps2, _, _, rfl, rfl, _⟩ := mergeR_spec h
          exact ⟨hp.2, rfl, Kept.merge⟩
      · simp at h
    · exact key h
  | .block id body, sc, σ, e, σ', sc', ps, h, hp => by
    have key : inBlk id (runC P k body sc σ) = some (e, σ', sc', ps) → sc'.all It.plain = true ∧ σ'.n = σ.n ∧ Kept (dstsC (.block id body)) σ σ' := by
      intro h
      obtain ⟨e0, h0, _⟩ := inBlk_spec h
      exact runC_keeps body _ _ _ _ _ _ h0 hp
    unfold runC at h
    split at h
    · rename_i id' B sc1 sc2 rest
      have hrest : rest.all It.plain = true := by simp only [List.all_cons, Bool.and_eq_true] at hp; exact hp.2
      cases hb : id' == id with
      | false => simp only [hb, cond_false] at h; exact key h
      | true =>
        simp only [hb, cond_true] at h
        cases hb2 : sc1.all It.plain && sc2.all It.plain with
        | false => simp only [hb2, cond_false, reduceCtorEq] at h
        | true =>
          simp only [hb2, cond_true] at h
          obtain ⟨σ1, σ2, s1, s2, ps1, ps2, _, _, rfl, rfl, _⟩ := mergeR_spec h
          exact ⟨hrest, rfl, Kept.merge⟩
    · exact key h
  | .scope body, sc, σ, e, σ', sc', ps, h, hp => by
    simp only [runC] at h
    exact runC_keeps body _ _ _ _ _ _ h hp
  | .loop body, sc, σ, e, σ', sc', ps, h, hp => by
    unfold runC at h
    split at h
    · simp [It.plain] at hp
    · rename_i m rest
      have hrest : rest.all It.plain = true := by simp only [List.all_cons, Bool.and_eq_true] at hp; exact hp.2
      exact iter_keeps (fun sc σ e σ' sc' ps h hp => runC_keeps body sc σ e σ' sc' ps h hp) m rest σ e σ' sc' ps h hrest
    · simp at h
  | .label _, sc, σ, e, σ', sc', ps, h, _ => by simp [runC] at h
  | .goto _, sc, σ, e, σ', sc', ps, h, _ => by simp [runC] at h

/-- What a piece's run says, for every frame. -/
def Says (P : Program) (k : Nat) (c : Code) (σ : S) (e : Ex) (σ' : S) : Prop :=
  σ'.n = σ.n ∧ (∀ i, i < k → i ∈ σ'.ids) ∧ ∀ base X G τ a w, St base X G τ σ a w → c.wp P (Post base X G τ w k σ' e) a w

theorem region_says {P : Program} (hmix : P.follows .mixedOrders = true) {k : Nat} {rid : Nat} {ops : Array Oper} {draw : Bool} {sc : List (Nat × List Ans × Option Bool)} {σ σ' : S} {ps : List Prop} (hk : ∀ i, i < k → i ∈ σ.ids)
    (h : runRegion P rid ops draw sc σ = some (σ', ps)) (hp : ∀ p ∈ ps, p) : Says P k (.region rid ops draw) σ .normal σ' := by
  obtain ⟨h1, _, pre, h2, _⟩ := runRegion_keeps h
  exact ⟨h1, fun i hi => by rw [h2]; exact List.mem_append.2 (.inr (hk i hi)), fun base X G τ a w hs => runRegion_wp hmix h hp hs fun a' w' G' τ' k1 k2 k3 => ⟨rfl, G', τ', k1, k2, fun i hi => k3 i (hk i hi)⟩⟩

theorem iter_says {P : Program} {k : Nat} {body : Code} {f : List It → S → Res} (hf : ∀ sc σ e σ' sc' ps, f sc σ = some (e, σ', sc', ps) → (∀ p ∈ ps, p) → (∀ i, i < k → i ∈ σ.ids) → Says P k body σ e σ') :
    ∀ (m : Nat) (sc : List It) (σ : S) (e : Ex) (σ' : S) (sc' : List It) (ps : List Prop), iter f m sc σ = some (e, σ', sc', ps) → (∀ p ∈ ps, p) → (∀ i, i < k → i ∈ σ.ids) →
      σ'.n = σ.n ∧ (∀ i, i < k → i ∈ σ'.ids) ∧ ∀ base X G τ a w, St base X G τ σ a w → loopWp P body (Post base X G τ w k σ' e) a w
  | 0, _, _, _, _, _, _, h, _, _ => by simp [iter] at h
  | m + 1, sc, σ, e, σ', sc', ps, h, hp, hk => by
    simp only [iter] at h
    split at h
    · simp at h
    · rename_i σ1 sc1 ps1 h1
      split at h
      · simp at h
      · rename_i e2 σ2 sc2 qs h2
        simp only [Option.some.injEq, Prod.mk.injEq] at h
        obtain ⟨rfl, rfl, rfl, rfl⟩ := h
        obtain ⟨g1, g2, g3⟩ := hf _ _ _ _ _ _ h1 (fun p hm => hp p (List.mem_append.2 (.inl hm))) hk
        obtain ⟨k1, k2, k3⟩ := iter_says hf m sc1 σ1 e2 σ2 sc2 qs h2 (fun p hm => hp p (List.mem_append.2 (.inr hm))) g2
        refine ⟨k1.trans g1, k2, fun base X G τ a w hs => loopWp_step (wp_mono (g3 base X G τ a w hs) ?_)⟩
        rintro e' a' w' ⟨rfl, G', τ', q1, q2, q3⟩
        exact loopWp_mono (k3 base X G' τ' a' w' q1) (Post.after q2 q3)
    · rename_i e1 σ1 sc1 ps1 hne h1
      simp only [Option.some.injEq, Prod.mk.injEq] at h
      obtain ⟨rfl, rfl, rfl, rfl⟩ := h
      obtain ⟨g1, g2, g3⟩ := hf _ _ _ _ _ _ h1 hp hk
      refine ⟨g1, g2, fun base X G τ a w hs => loopWp_step (wp_mono (g3 base X G τ a w hs) ?_)⟩
      rintro e' a' w' ⟨rfl, hrest⟩
      cases e1 with
      | normal => exact (hne rfl).elim
      | exit id => exact ⟨rfl, hrest⟩
      | ret => exact ⟨rfl, hrest⟩

theorem Says.merge {P : Program} {k : Nat} {c : Code} {B : Bool} {σ σ1 σ2 : S} {D : List Nat} {e : Ex} (hk : ∀ i, i < k → i ∈ σ.ids) (k1 : Kept D σ σ1) (k2 : Kept D σ σ2) (h1 : B = true → Says P k c σ e σ1) (h2 : B = false → Says P k c σ e σ2)
    (n1 : σ1.n = σ.n) (n2 : σ2.n = σ.n) : Says P k c σ e (mergeS B σ D σ1 σ2) := by
  refine ⟨rfl, fun i hi => List.mem_append.2 (.inr (hk i hi)), fun base X G τ a w hs => ?_⟩
  have h : c.wp P (Post base X G τ w k (bif B then σ1 else σ2) e) a w := by
    cases B with
    | true => exact (h1 rfl).2.2 base X G τ a w hs
    | false => exact (h2 rfl).2.2 base X G τ a w hs
  refine wp_mono h ?_
  rintro e' a' w' ⟨rfl, G', τ', q1, q2, q3⟩
  exact ⟨rfl, G', τ', St.merge k1 k2 n1 n2 q1, q2, q3⟩

theorem runFk_says {P : Program} (hmix : P.follows .mixedOrders = true) {k : Nat} {rid : Nat} {ops : Array Oper} {draw : Bool} {au : List (Nat × List Ans × Option Bool)} : ∀ {fk : Fk} {σ σ' : S} {ps : List Prop}, (∀ i, i < k → i ∈ σ.ids) → runFk P rid ops draw au fk σ = some (σ', ps) → (∀ p ∈ ps, p) → Says P k (.region rid ops draw) σ .normal σ'
  | .leaf as, σ, σ', ps, hk, h, hp => region_says hmix hk h hp
  | .node B l r, σ, σ', ps, hk, h, hp => by
    simp only [runFk] at h
    split at h
    · rename_i σ1 ps1 σ2 ps2 h1 h2
      simp only [Option.some.injEq, Prod.mk.injEq] at h
      obtain ⟨rfl, rfl⟩ := h
      obtain ⟨n1, k1⟩ := runFk_keeps h1
      obtain ⟨n2, k2⟩ := runFk_keeps h2
      exact Says.merge hk k1 k2 (fun hb => runFk_says hmix hk h1 (orP_true hp hb)) (fun hb => runFk_says hmix hk h2 (orP_false hp hb)) n1 n2
    · simp at h

theorem toS_range {k n : Nat} {s : SL} (h : subset (List.range k) s.ids = true) : ∀ i, i < k → i ∈ (s.toS n).ids := fun i hi => subset_spec h i (List.mem_range.2 hi)

theorem tailAt_says {P : Program} {k : Nat} {b : Code} {sc : List It} {σ : S} {e : Ex} {σ' : S} {sc' : List It} {ps : List Prop} (h : tailAt P k b sc σ = some (some (e, σ', sc', ps))) (hp : ∀ p ∈ ps, p) : Says P k b σ e σ' := by
  unfold tailAt at h
  split at h
  · rename_i id nm e2 s2 rest
    cases hb : firstReg b == id with
    | false => simp only [hb, cond_false, reduceCtorEq] at h
    | true =>
      simp only [hb, cond_true, Option.some.injEq] at h
      split at h
      · rename_i s0 hn
        cases hb : subset (List.range k) s2.ids with
        | false => simp only [hb, cond_false, reduceCtorEq] at h
        | true =>
          simp only [hb, cond_true, Option.some.injEq, Prod.mk.injEq] at h
          obtain ⟨rfl, rfl, rfl, rfl⟩ := h
          refine ⟨rfl, toS_range hb, fun base X G τ a w hs => ?_⟩
          obtain ⟨⟨τ1, q1, q2⟩, q3⟩ := norm_St hs hn
          have hc : CodeC P k σ.n b s0 e2 s2 := hp _ (by simp)
          refine wp_mono (hc base X G τ1 a w q1) ?_
          rintro e' a' w' ⟨rfl, G', τ', r1, r2, r3⟩
          exact ⟨rfl, G', τ', r1, r2, fun i hi => (r3 i hi).trans (q2 i hi)⟩
      · simp at h
  · simp at h

theorem runC_says {P : Program} (hmix : P.follows .mixedOrders = true) {k : Nat} : ∀ (c : Code) (sc : List It) (σ : S) (e : Ex) (σ' : S) (sc' : List It) (ps : List Prop), runC P k c sc σ = some (e, σ', sc', ps) → (∀ p ∈ ps, p) → (∀ i, i < k → i ∈ σ.ids) → Says P k c σ e σ'
  | .skip, sc, σ, e, σ', sc', ps, h, _, hk => by
    simp only [runC, Option.some.injEq, Prod.mk.injEq] at h
    obtain ⟨rfl, rfl, rfl, rfl⟩ := h
    exact ⟨rfl, hk, fun base X G τ a w hs => wp_skip ⟨rfl, G, τ, hs, Ext.refl _ _ _ _, fun _ _ => rfl⟩⟩
  | .exit id, sc, σ, e, σ', sc', ps, h, _, hk => by
    simp only [runC, Option.some.injEq, Prod.mk.injEq] at h
    obtain ⟨rfl, rfl, rfl, rfl⟩ := h
    exact ⟨rfl, hk, fun base X G τ a w hs => wp_exit ⟨rfl, G, τ, hs, Ext.refl _ _ _ _, fun _ _ => rfl⟩⟩
  | .ret, sc, σ, e, σ', sc', ps, h, _, hk => by
    simp only [runC, Option.some.injEq, Prod.mk.injEq] at h
    obtain ⟨rfl, rfl, rfl, rfl⟩ := h
    exact ⟨rfl, hk, fun base X G τ a w hs => wp_ret ⟨rfl, G, τ, hs, Ext.refl _ _ _ _, fun _ _ => rfl⟩⟩
  | .region rid ops draw, sc, σ, e, σ', sc', ps, h, hp, hk => by
    have key : ∀ as rest, (match runRegion P rid ops draw as σ with
      | some (σ', ps) => some (Ex.normal, σ', rest, ps)
      | none => (none : Res)) = some (e, σ', sc', ps) → Says P k (.region rid ops draw) σ e σ' := by
      intro as rest h
      split at h
      · rename_i σ2 ps2 h2
        simp only [Option.some.injEq, Prod.mk.injEq] at h
        obtain ⟨rfl, rfl, rfl, rfl⟩ := h
        exact region_says hmix hk h2 hp
      · simp at h
    unfold runC at h
    split at h
    · rename_i id' as rest
      cases hb : id' == rid with
      | true => simp only [hb, cond_true] at h; exact key _ _ h
      | false => simp only [hb, cond_false] at h; exact key _ _ h
    · rename_i id' fk rest
      cases hb : id' == rid with
      | true =>
        simp only [hb, cond_true] at h
        split at h
        · rename_i σ2 ps2 h2
          simp only [Option.some.injEq, Prod.mk.injEq] at h
          obtain ⟨rfl, rfl, rfl, rfl⟩ := h
          exact runFk_says hmix hk h2 hp
        · simp at h
      | false => simp only [hb, cond_false] at h; exact key _ _ h
    · exact key _ _ h
  | .seq x y, sc, σ, e, σ', sc', ps, h, hp, hk => by
    simp only [runC] at h
    split at h
    · simp at h
    · rename_i σ1 sc1 ps1 h1
      split at h
      · simp at h
      · rename_i e2 σ2 sc2 qs h2
        simp only [Option.some.injEq, Prod.mk.injEq] at h
        obtain ⟨rfl, rfl, rfl, rfl⟩ := h
        obtain ⟨g1, g2, g3⟩ := runC_says hmix x _ _ _ _ _ _ h1 (fun p hm => hp p (List.mem_append.2 (.inl hm))) hk
        obtain ⟨k1, k2, k3⟩ := tailAt_says h2 (fun p hm => hp p (List.mem_append.2 (.inr hm)))
        refine ⟨k1.trans g1, k2, fun base X G τ a w hs => wp_seq (wp_mono (g3 base X G τ a w hs) ?_)⟩
        rintro e' a' w' ⟨rfl, G', τ', q1, q2, q3⟩
        exact wp_mono (k3 base X G' τ' a' w' q1) (Post.after q2 q3)
      split at h
      · simp at h
      · rename_i e2 σ2 sc2 qs h2
        simp only [Option.some.injEq, Prod.mk.injEq] at h
        obtain ⟨rfl, rfl, rfl, rfl⟩ := h
        obtain ⟨g1, g2, g3⟩ := runC_says hmix x _ _ _ _ _ _ h1 (fun p hm => hp p (List.mem_append.2 (.inl hm))) hk
        obtain ⟨k1, k2, k3⟩ := runC_says hmix y _ _ _ _ _ _ h2 (fun p hm => hp p (List.mem_append.2 (.inr hm))) g2
        refine ⟨k1.trans g1, k2, fun base X G τ a w hs => wp_seq (wp_mono (g3 base X G τ a w hs) ?_)⟩
        rintro e' a' w' ⟨rfl, G', τ', q1, q2, q3⟩
        exact wp_mono (k3 base X G' τ' a' w' q1) (Post.after q2 q3)
    · rename_i e1 σ1 sc1 ps1 hne h1
      simp only [Option.some.injEq, Prod.mk.injEq] at h
      obtain ⟨rfl, rfl, rfl, rfl⟩ := h
      obtain ⟨g1, g2, g3⟩ := runC_says hmix x _ _ _ _ _ _ h1 hp hk
      refine ⟨g1, g2, fun base X G τ a w hs => wp_seq (wp_mono (g3 base X G τ a w hs) ?_)⟩
      rintro e' a' w' ⟨rfl, hrest⟩
      cases e1 with
      | normal => exact (hne rfl).elim
      | exit id => exact ⟨rfl, hrest⟩
      | ret => exact ⟨rfl, hrest⟩
  | .cond c x y, sc, σ, e, σ', sc', ps, h, hp, hk => by
    have key : (match rdO σ.env c with
      | .val (.bool true) => runC P k x sc σ
      | .val (.bool false) => runC P k y sc σ
      | _ => none) = some (e, σ', sc', ps) → Says P k (.cond c x y) σ e σ' := by
      intro h
      split at h
      · rename_i hc
        obtain ⟨g1, g2, g3⟩ := runC_says hmix x _ _ _ _ _ _ h hp hk
        refine ⟨g1, g2, fun base X G τ a w hs => wp_cond_true ?_ (g3 base X G τ a w hs)⟩
        have := rd_rep hs.env c
        rw [hc] at this; simp only [V.rep] at this
        exact this
      · rename_i hc
        obtain ⟨g1, g2, g3⟩ := runC_says hmix y _ _ _ _ _ _ h hp hk
        refine ⟨g1, g2, fun base X G τ a w hs => wp_cond_false ?_ (g3 base X G τ a w hs)⟩
        have := rd_rep hs.env c
        rw [hc] at this; simp only [V.rep] at this
        exact this
      · simp at h
    unfold runC at h
    split at h
    · rename_i nm e2 s2 rest
      split at h
      · rename_i s0 hn
        cases hb : subset (List.range k) s2.ids with
        | false => simp only [hb, cond_false, reduceCtorEq] at h
        | true =>
          simp only [hb, cond_true, Option.some.injEq, Prod.mk.injEq] at h
          obtain ⟨rfl, rfl, rfl, rfl⟩ := h
          refine ⟨rfl, toS_range hb, fun base X G τ a w hs => ?_⟩
          obtain ⟨⟨τ1, q1, q2⟩, q3⟩ := norm_St hs hn
          have hc : CodeC P k σ.n (.cond c x y) s0 e2 s2 := hp _ (by simp)
          refine wp_mono (hc base X G τ1 a w q1) ?_
          rintro e' a' w' ⟨rfl, G', τ', r1, r2, r3⟩
          exact ⟨rfl, G', τ', r1, r2, fun i hi => (r3 i hi).trans (q2 i hi)⟩
      · simp at h
    · rename_i t sc1 sc2 rest
      cases hct : isTmp t c with
      | false => simp only [hct, cond_false] at h; exact key h
      | true =>
      simp only [hct, cond_true] at h
      split at h
      · rename_i B hB
        cases hb : sc1.all It.plain && sc2.all It.plain with
        | false => simp only [hb, cond_false, reduceCtorEq] at h
        | true =>
          simp only [hb, cond_true] at h
          simp only [Bool.and_eq_true] at hb
          obtain ⟨σ1, σ2, s1, s2, ps1, ps2, h1, h2, rfl, rfl, rfl⟩ := mergeR_spec h
          obtain ⟨_, n1, k1⟩ := runC_keeps x _ _ _ _ _ _ h1 (plain_tab hb.1)
          obtain ⟨_, n2, k2⟩ := runC_keeps y _ _ _ _ _ _ h2 (plain_tab hb.2)
          refine Says.merge hk (k1.mono fun t ht => List.mem_append.2 (.inl ht)) (k2.mono fun t ht => List.mem_append.2 (.inr ht)) (fun hbt => ?_) (fun hbf => ?_) n1 n2
          · obtain ⟨g1, g2, g3⟩ := runC_says hmix x _ _ _ _ _ _ h1 (orP_true hp hbt) hk
            refine ⟨g1, g2, fun base X G τ a w hs => wp_cond_true ?_ (g3 base X G τ a w hs)⟩
            have := rd_rep hs.env c
            rw [hB, hbt] at this; simp only [V.rep] at this
            exact this
          · obtain ⟨g1, g2, g3⟩ := runC_says hmix y _ _ _ _ _ _ h2 (orP_false hp hbf) hk
            refine ⟨g1, g2, fun base X G τ a w hs => wp_cond_false ?_ (g3 base X G τ a w hs)⟩
            have := rd_rep hs.env c
            rw [hB, hbf] at this; simp only [V.rep] at this
            exact this
      · simp at h
    · exact key h
  | .block id body, sc, σ, e, σ', sc', ps, h, hp, hk => by
    have key : ∀ {sc sc' : List It} {σ' : S} {e : Ex} {ps : List Prop}, inBlk id (runC P k body sc σ) = some (e, σ', sc', ps) → (∀ p ∈ ps, p) → Says P k (.block id body) σ e σ' := by
      intro sc sc' σ' e ps h hp
      obtain ⟨e0, h0, hcase⟩ := inBlk_spec h
      obtain ⟨g1, g2, g3⟩ := runC_says hmix body _ _ _ _ _ _ h0 hp hk
      refine ⟨g1, g2, fun base X G τ a w hs => wp_block (wp_mono (g3 base X G τ a w hs) ?_)⟩
      rintro e' a' w' ⟨rfl, hrest⟩
      rcases hcase with ⟨rfl, rfl⟩ | ⟨hne, rfl⟩
      · show Exit.inBlock id _ (.exit id) a' w'
        simp only [Exit.inBlock, if_true]
        exact ⟨rfl, hrest⟩
      · cases e with
        | normal => exact ⟨rfl, hrest⟩
        | exit id' =>
          have hb' : ¬ id' = id := fun h => hne (by rw [h])
          show Exit.inBlock id _ (.exit id') a' w'
          simp only [Exit.inBlock, hb', if_false]
          exact ⟨rfl, hrest⟩
        | ret => exact ⟨rfl, hrest⟩
    unfold runC at h
    split at h
    · rename_i id' B sc1 sc2 rest
      cases hb : id' == id with
      | false => simp only [hb, cond_false] at h; exact key h hp
      | true =>
        simp only [hb, cond_true] at h
        cases hb2 : sc1.all It.plain && sc2.all It.plain with
        | false => simp only [hb2, cond_false, reduceCtorEq] at h
        | true =>
          simp only [hb2, cond_true] at h
          simp only [Bool.and_eq_true] at hb2
          obtain ⟨σ1, σ2, s1, s2, ps1, ps2, h1, h2, rfl, rfl, rfl⟩ := mergeR_spec h
          obtain ⟨e1, h01, _⟩ := inBlk_spec h1
          obtain ⟨e2, h02, _⟩ := inBlk_spec h2
          obtain ⟨_, n1, k1⟩ := runC_keeps body _ _ _ _ _ _ h01 (plain_tab hb2.1)
          obtain ⟨_, n2, k2⟩ := runC_keeps body _ _ _ _ _ _ h02 (plain_tab hb2.2)
          exact Says.merge hk k1 k2 (fun hbt => key h1 (orP_true hp hbt)) (fun hbf => key h2 (orP_false hp hbf)) n1 n2
    · exact key h hp
  | .scope body, sc, σ, e, σ', sc', ps, h, hp, hk => by
    simp only [runC] at h
    obtain ⟨g1, g2, g3⟩ := runC_says hmix body _ _ _ _ _ _ h hp hk
    refine ⟨g1, g2, fun base X G τ a w hs => wp_scope_straight (wp_mono (g3 base X G τ a w hs) ?_)⟩
    rintro e' a' w' ⟨rfl, hrest⟩
    cases e with
    | normal => exact ⟨rfl, hrest⟩
    | exit id' => exact ⟨rfl, hrest⟩
    | ret => exact ⟨rfl, hrest⟩
  | .loop body, sc, σ, e, σ', sc', ps, h, hp, hk => by
    unfold runC at h
    split at h
    · rename_i nm e2 s2 rest
      split at h
      · rename_i s0 hn
        cases hb : subset (List.range k) s2.ids with
        | false => simp only [hb, cond_false, reduceCtorEq] at h
        | true =>
          simp only [hb, cond_true, Option.some.injEq, Prod.mk.injEq] at h
          obtain ⟨rfl, rfl, rfl, rfl⟩ := h
          refine ⟨rfl, toS_range hb, fun base X G τ a w hs => ?_⟩
          obtain ⟨⟨τ1, q1, q2⟩, q3⟩ := norm_St hs hn
          have hc : LoopC P k σ.n body s0 e2 s2 := hp _ (by simp)
          refine wp_of_loopWp (loopWp_mono (hc base X G τ1 a w q1) ?_)
          rintro e' a' w' ⟨rfl, G', τ', r1, r2, r3⟩
          exact ⟨rfl, G', τ', r1, r2, fun i hi => (r3 i hi).trans (q2 i hi)⟩
      · simp at h
    · rename_i m rest
      obtain ⟨g1, g2, g3⟩ := iter_says (fun sc σ e σ' sc' ps h hp hk => runC_says hmix body sc σ e σ' sc' ps h hp hk) m rest σ e σ' sc' ps h hp hk
      exact ⟨g1, g2, fun base X G τ a w hs => wp_of_loopWp (g3 base X G τ a w hs)⟩
    · simp at h
  | .label _, sc, σ, e, σ', sc', ps, h, _, _ => by simp [runC] at h
  | .goto _, sc, σ, e, σ', sc', ps, h, _, _ => by simp [runC] at h

end Go.Proofs.Ythhggnnfiohnpaa.E

/- The engine, part T: a function's contract, from its run. -/
namespace Go.Proofs.Ythhggnnfiohnpaa.E
open Go
set_option linter.unusedSimpArgs false

theorem repL_fixAll {P : Program} {w : World} {G : Nat → Prop} {τ : Nat → Gh} : ∀ {ts : List TypeId} {vs : List V} {xs : List Value}, repL w G τ vs xs → repL w G τ (fixAll P ts vs) xs
  | [], vs, xs, h => by simpa only [fixAll] using h
  | t :: ts, [], xs, h => by simpa only [fixAll] using h
  | t :: ts, v :: vs, [], h => by simp only [repL] at h
  | t :: ts, v :: vs, x :: xs, h => by
    simp only [repL] at h
    simp only [fixAll, repL]
    exact ⟨rep_fixV h.1, repL_fixAll h.2⟩

/-- The result of one result variable. -/
def resultSem (tmps : Array Value) : ResultVar → Sem Value
  | .tmp t => pure (tmps.getD t Go.undef)
  | .cell a t => do loadVar t (← asAddr (tmps.getD a Go.undef))

theorem resultOf_run {P : Program} {base : Nat} {X G : Nat → Prop} {τ : Nat → Gh} {σ : S} {a : Act} {w : World} (hs : St base X G τ σ a w) {r : ResultVar} {v : V} (h : resultOf P σ r = some v) :
    ∃ x, (resultSem a.tmps r).run P w = .ok x w ∧ v.rep w G τ x := by
  cases r with
  | tmp t =>
    simp only [resultOf, Option.some.injEq] at h
    subst h
    exact ⟨_, by simp [resultSem, Sem.run_pure], hs.env t⟩
  | cell t ty =>
    simp only [resultOf] at h
    split at h
    · rename_i id n off he
      split at h
      · rename_i cells hst
        have hr := hs.env t
        rw [he] at hr
        simp only [V.rep] at hr
        obtain ⟨b, hb, hv⟩ := hr
        have hok := hs.mem.ok id _ hst
        simp only [Obj.ok, rowsOk] at hok
        obtain ⟨b', xs, ty', fz, e1, e2, _, _, e5⟩ := hok
        rw [hb] at e1
        cases e1
        obtain ⟨x, hx, hrep⟩ := takeCells_load (o := 0) (b := b) e5 (fun i x hi => by rw [Nat.zero_add, cell_of_heap e2]; simpa using hi) h
        refine ⟨x, ?_, hrep⟩
        simp only [resultSem, Sem.run_bind, hv, asAddr, Nat.zero_mul]
        rw [Nat.zero_add] at hx ⊢
        simpa [Sem.run_pure] using hx
      · simp at h
    · simp at h

theorem results_list {P : Program} {base : Nat} {X G : Nat → Prop} {τ : Nat → Gh} {σ : S} {a : Act} {w : World} (hs : St base X G τ σ a w) : ∀ {l : List ResultVar} {vs : List V}, allSome (resultOf P σ) l = some vs →
    ∃ xs, (l.mapM (resultSem a.tmps)).run P w = .ok xs w ∧ repL w G τ vs xs
  | [], vs, h => by
    simp only [allSome, Option.some.injEq] at h
    subst h
    exact ⟨[], by simp [Sem.run_pure], by simp only [repL]⟩
  | r :: l, vs, h => by
    simp only [allSome] at h
    cases h1 : resultOf P σ r with
    | none => simp [h1] at h
    | some v =>
      cases h2 : allSome (resultOf P σ) l with
      | none => simp [h1, h2] at h
      | some vs' =>
        simp only [h1, h2, Option.some.injEq] at h
        subst h
        obtain ⟨x, hx, hr⟩ := resultOf_run hs h1
        obtain ⟨xs, hxs, hrs⟩ := results_list hs h2
        refine ⟨x :: xs, ?_, by simp only [repL]; exact ⟨hr, hrs⟩⟩
        simp [List.mapM_cons, Sem.run_bind, hx, hxs, Sem.run_pure]

theorem results_run {P : Program} {base : Nat} {X G : Nat → Prop} {τ : Nat → Gh} {σ : S} {a : Act} {w : World} (hs : St base X G τ σ a w) {fn : Func} {vs : List V} (h : allSome (resultOf P σ) fn.results.toList = some vs) :
    ∃ xs : List Value, repL w G τ vs xs ∧ (results fn a.tmps).run P w = .ok (if h : xs.length = 1 then xs[0] else .tuple xs.toArray) w := by
  obtain ⟨xs, hx, hr⟩ := results_list hs h
  refine ⟨xs, hr, ?_⟩
  have e : results fn a.tmps = (do
      let vs ← fn.results.mapM (resultSem a.tmps)
      pure (if h : vs.size = 1 then vs[0] else .tuple vs)) := by
    unfold results
    congr 1
  rw [e, Array.mapM_eq_mapM_toList]
  simp only [Sem.run_bind, map_eq_pure_bind, hx, Sem.run_pure, Result.andThen_ok]
  simp

theorem finObjs_get {st : Nat → Option E.Obj} (names : List Nat) : ∀ {l : List Nat} {os : List (Option E.Obj)}, finObjs st names l = some os →
    os.length = l.length ∧ ∀ (j : Nat) (o' : E.Obj), os[j]? = some (some o') → ∃ (id : Nat) (o : E.Obj), l[j]? = some id ∧ st id = some o ∧ ((o.rowsB = true ∧ o' = o) ∨ ∃ cs cs' rs', o = .box cs ∧ o' = .box cs' ∧ (passL names false cs).run st = some (cs', rs'))
  | [], os, h => by
    simp only [finObjs, Option.some.injEq] at h
    subst h
    exact ⟨rfl, by simp⟩
  | id :: l, os, h => by
    simp only [finObjs] at h
    split at h
    · simp at h
    · rename_i os2 h2
      obtain ⟨g1, g2⟩ := finObjs_get names h2
      split at h
      · simp only [Option.some.injEq] at h
        subst h
        refine ⟨by simp [g1], fun j o' hj => ?_⟩
        cases j with
        | zero => simp at hj
        | succ j => obtain ⟨i, o2, k⟩ := g2 j o' (by simpa using hj); exact ⟨i, o2, by simpa using k⟩
      · rename_i n rows hst
        simp only [Option.some.injEq] at h
        subst h
        refine ⟨by simp [g1], fun j o' hj => ?_⟩
        cases j with
        | zero => simp at hj; subst hj; exact ⟨id, _, by simp, hst, .inl ⟨rfl, rfl⟩⟩
        | succ j => obtain ⟨i, o2, k⟩ := g2 j o' (by simpa using hj); exact ⟨i, o2, by simpa using k⟩
      · rename_i n rows c hst
        simp only [Option.some.injEq] at h
        subst h
        refine ⟨by simp [g1], fun j o' hj => ?_⟩
        cases j with
        | zero => simp at hj; subst hj; exact ⟨id, _, by simp, hst, .inl ⟨rfl, rfl⟩⟩
        | succ j => obtain ⟨i, o2, k⟩ := g2 j o' (by simpa using hj); exact ⟨i, o2, by simpa using k⟩
      · rename_i k es hst
        simp only [Option.some.injEq] at h
        subst h
        refine ⟨by simp [g1], fun j o' hj => ?_⟩
        cases j with
        | zero => simp at hj; subst hj; exact ⟨id, _, by simp, hst, .inl ⟨rfl, rfl⟩⟩
        | succ j => obtain ⟨i, o2, k⟩ := g2 j o' (by simpa using hj); exact ⟨i, o2, by simpa using k⟩
      · rename_i k hst
        simp only [Option.some.injEq] at h
        subst h
        refine ⟨by simp [g1], fun j o' hj => ?_⟩
        cases j with
        | zero => simp at hj; subst hj; exact ⟨id, _, by simp, hst, .inl ⟨rfl, rfl⟩⟩
        | succ j => obtain ⟨i, o2, k⟩ := g2 j o' (by simpa using hj); exact ⟨i, o2, by simpa using k⟩
      · simp at h
      · rename_i cells hst
        split at h
        · rename_i cs rs hp
          simp only [Option.some.injEq] at h
          subst h
          refine ⟨by simp [g1], fun j o' hj => ?_⟩
          cases j with
          | zero => simp at hj; subst hj; exact ⟨id, _, by simp, hst, .inr ⟨cells, cs, rs, rfl, rfl, hp⟩⟩
          | succ j => obtain ⟨i, o2, k⟩ := g2 j o' (by simpa using hj); exact ⟨i, o2, by simpa using k⟩
        · simp at h

/-- What is given away at the end. -/
theorem Mem.given {base : Nat} {X G : Nat → Prop} {τ : Nat → Gh} {st : Nat → Option E.Obj} {w : World} {names lent : List Nat} {os : List (Option E.Obj)}
    (hm : Mem base X G τ st w) (hn : nodupB names = true) (hl : ∀ i ∈ lent, i ∉ names) (h : finObjs st names names = some os) :
    Mem base X (giveG G τ st lent) (tauOf τ names) (objsAt' os) w := by
  obtain ⟨hlen, hget0⟩ := finObjs_get names h
  have hget : ∀ (j : Nat) (o' : E.Obj), objsAt' os j = some o' → ∃ (id : Nat) (o : E.Obj), names[j]? = some id ∧ st id = some o ∧ ((o.rowsB = true ∧ o' = o) ∨ ∃ cs cs' rs', o = .box cs ∧ o' = .box cs' ∧ (passL names false cs).run st = some (cs', rs')) := by
    intro j o' hj
    refine hget0 j o' ?_
    simp only [objsAt'] at hj
    split at hj
    · rename_i q hq; rw [hq, hj]
    · simp at hj
  have htau : ∀ j id, names[j]? = some id → tauOf τ names j = τ id := fun j id hj => by simp [tauOf, hj]
  have hnest : ∀ (j : Nat) (o' : E.Obj), objsAt' os j = some o' → o'.plain = false → ∃ id, names[j]? = some id ∧ st id = some o' ∧ idsObj o' = [] := by
    intro j o' hj hp
    obtain ⟨id, o, g1, g2, g3⟩ := hget j o' hj
    rcases g3 with ⟨hrb, rfl⟩ | ⟨cs, cs', rs', _, e2, _⟩
    · exact ⟨id, g1, g2, idsObj_rows hrb⟩
    · rw [plain_of_box e2] at hp; cases hp
  refine ⟨(Mem.give hm lent).gold, fun j o' hj => ?_, fun j o' b hj hb => ?_, fun i j o1 o2 b h1 h2 hb1 hb2 => ?_,
    Sub.step (fun j => names.getD j 0) hm.sub (fun b hb => ⟨.inl hb, rfl⟩) (Nat.le_refl _) (fun _ _ h => h) (fun j o' hj hp => ?_) (fun i j o1 o2 h1 h2 hp1 hp2 he => ?_) (fun b _ hg _ hj => ⟨rfl, fun hgg => ?_⟩) (fun j o' b hj hb => ?_)⟩
  rotate_left 3
  · obtain ⟨id, g1, g2, g3⟩ := hnest j o' hj hp
    have hd : names.getD j 0 = id := by simp [List.getD_eq_getElem?_getD, g1]
    exact ⟨by rw [hd]; exact g2, by rw [hd]; exact htau j id g1, fun i hi => (by rw [g3] at hi; simp at hi), fun _ _ => rfl⟩
  · obtain ⟨id1, g1, _⟩ := hnest i o1 h1 hp1
    obtain ⟨id2, k1, _⟩ := hnest j o2 h2 hp2
    have hd1 : names.getD i 0 = id1 := by simp [List.getD_eq_getElem?_getD, g1]
    have hd2 : names.getD j 0 = id2 := by simp [List.getD_eq_getElem?_getD, k1]
    have he' : names.getD i 0 = names.getD j 0 := he
    rw [hd1, hd2] at he'
    subst he'
    exact nodupB_spec hn i j id1 g1 k1
  · rcases hgg with hgg | ⟨id, _, ⟨n, rows, h⟩, hb⟩
    · exact hg hgg
    · exact hj id _ h hb
  · obtain ⟨id, o, g1, g2, _⟩ := hget j o' hj
    rw [htau j id g1] at hb
    exact .inr ⟨id, o, g2, hb⟩
  · obtain ⟨id, o, g1, g2, g3⟩ := hget j o' hj
    have hin := List.mem_of_getElem? g1
    have hok := hm.ok id o g2
    have hnG : ∀ b, (τ id).blk = some b → giveG G τ st lent b → G b := by
      intro b hb hg
      rcases hg with hg | ⟨id', hid', ⟨n, rows, hs⟩, hb'⟩
      · exact hg
      · exact absurd (hm.inj id' id _ o b hs g2 hb' hb) (fun e => hl id' hid' (e ▸ hin))
    rcases g3 with ⟨hrb, rfl⟩ | ⟨cs, cs', rs', rfl, rfl, hp⟩
    · refine Obj.ok_mono (τ := fun _ => τ id) (τ' := tauOf τ names) (id := j) (fun b hb => ⟨.inl hb, rfl⟩) (fun b hb => ⟨rfl, hnG b hb⟩) (htau j id g1) (fun i hi => by rw [idsObj_rows hrb] at hi; simp at hi) ?_
      exact Obj.ok_name hrb rfl hok
    · simp only [Obj.ok, rowsOk] at hok ⊢
      rw [htau j id g1]
      obtain ⟨b, xs, t, fz, e1, e2, e3, e4, e5⟩ := hok
      exact ⟨b, xs, t, fz, e1, e2, fun hg => e3 (hnG b e1 hg), e4, passL_rep hm names lent false hp (fun i hi hni => absurd (pass_ids2 names hp i hi) hni) e5⟩
  · obtain ⟨id, o, g1, g2, _⟩ := hget j o' hj
    rw [htau j id g1] at hb
    exact hm.own id o b g2 hb
  · obtain ⟨id1, p1, g1, g2, _⟩ := hget i o1 h1
    obtain ⟨id2, p2, k1, k2, _⟩ := hget j o2 h2
    rw [htau i id1 g1] at hb1
    rw [htau j id2 k1] at hb2
    have := hm.inj id1 id2 p1 p2 b g2 k2 hb1 hb2
    subst this
    exact nodupB_spec hn i j id1 g1 k1

theorem passTop_rep {base : Nat} {X G : Nat → Prop} {τ : Nat → Gh} {st : Nat → Option E.Obj} {w : World} (hm : Mem base X G τ st w) (ids lent : List Nat) {v v' : V} {rs : List Nat} {x : Value}
    (h : (passTop ids v).run st = some (v', rs)) (hl : ∀ i ∈ v.ids, i ∉ ids → i ∈ lent) (hr : v.rep w G τ x) : v'.rep w (giveG G τ st lent) (tauOf τ ids) x := by
  unfold passTop at h
  split at h
  · rename_i vs
    obtain ⟨cs', r1, r2, h1, h2, _⟩ := T.run_bind_some h
    simp only [T.run, Option.some.injEq, Prod.mk.injEq] at h2
    obtain ⟨rfl, _⟩ := h2
    simp only [V.rep] at hr ⊢
    obtain ⟨xs, e, hr⟩ := hr
    exact ⟨xs, e, passL_rep hm ids lent true h1 (fun i hi => hl i (by simpa only [V.ids] using hi)) hr⟩
  · exact pass_rep hm ids lent true h hl hr

theorem idsL_get : ∀ {args : List V} {t : Nat} {a : V} {i : Nat}, args[t]? = some a → i ∈ a.ids → i ∈ idsL args
  | [], t, a, i, h, _ => by simp at h
  | c :: cs, t, a, i, h, hi => by
    simp only [idsL, List.mem_append]
    cases t with
    | zero => simp at h; subst h; exact .inl hi
    | succ t => exact .inr (idsL_get (by simpa using h) hi)

/-- THE VERIFIER IS SOUND. -/
theorem vc {P : Program} (hmix : P.follows .mixedOrders = true) {f : FuncId} {args : List V} {objs : List E.Obj} {sc : List It} {exports : List Nat} {r : V} {objs' : List (Option E.Obj)} {ps : List Prop}
    (h : runF P f args objs sc exports = some (r, objs', ps)) (hp : ∀ p ∈ ps, p) : Contract P f args objs r objs' := by
  unfold runF at h
  split at h
  · rename_i fn hfn
    split at h
    · rename_i c hc
      simp only at h
      cases hb : subset (idsL args) (List.range objs.length) && (objs.all fun o => subset (idsObj o) (List.range objs.length)) && (fn.name != "runtime.NumGoroutine") with
      | false => simp only [hb, cond_false, reduceCtorEq] at h
      | true =>
        simp only [hb, cond_true] at h
        simp only [Bool.and_eq_true] at hb
        obtain ⟨⟨b1, b2⟩, b3⟩ := hb
        split at h
        · rename_i e σ rest ps2 hrun
          have hdone : doneSc rest = true := by
            cases hd : doneSc rest with
            | true => rfl
            | false => simp [hd] at h
          simp only [hdone, Bool.true_and] at h
          have hex : e = .normal ∨ e = .ret := by
            cases e with
            | normal => exact .inl rfl
            | ret => exact .inr rfl
            | exit id => simp at h
          have h : (match allSome (resultOf P σ) fn.results.toList with
              | some vs => (match (passTop (List.range objs.length ++ exports) (match fixAll P fn.resultTypes.toList vs with
                  | [v] => v
                  | vs => .tup vs)).run σ.st, finObjs σ.st (List.range objs.length ++ exports) (List.range objs.length ++ exports) with
                | some (v, _), some os => bif nodupB (List.range objs.length ++ exports) then some (v, os, ps2) else none
                | _, _ => none)
              | none => none) = some (r, objs', ps) := by
            rcases hex with rfl | rfl
            · exact h
            · exact h
          split at h
          · rename_i vs hvs
            split at h
            · rename_i v rs os hv hos
              cases hn : nodupB (List.range objs.length ++ exports) with
              | false => simp only [hn, cond_false, reduceCtorEq] at h
              | true =>
                simp only [hn, cond_true, Option.some.injEq, Prod.mk.injEq] at h
                obtain ⟨rfl, rfl, rfl⟩ := h
                obtain ⟨_, _, hsays⟩ := runC_says hmix c _ _ _ _ _ _ hrun hp (fun i hi => List.mem_range.2 hi)
                refine ⟨⟨fn, hfn, by simpa using b3, by simp [hc]⟩, fun w G X τ vals hm hX ha => calls_of_wp hfn hc ?_⟩
                have hlen := repL_length ha
                have hsize : vals.size = args.length := by rw [hlen]; simp
                have hst0 : St w.heap.size X G τ ⟨max args.length fn.ntmps, fun t => args.getD t .undef, objsAt objs, List.range objs.length⟩
                    { tmps := vals ++ Array.replicate (fn.ntmps - vals.size) Go.undef, defers := [] } w := by
                  refine ⟨hm, Nat.le_refl _, ?_, fun t => ?_, fun t i hi => ?_, fun i o ho => ?_, rfl⟩
                  · simp [hsize]; omega
                  · show (args.getD t .undef).rep w G τ _
                    rw [List.getD_eq_getElem?_getD]
                    cases ht : args[t]? with
                    | none => simp only [Option.getD_none, V.rep]
                    | some a =>
                      obtain ⟨x, hx, hr⟩ := repL_get ha t a ht
                      have : (vals ++ Array.replicate (fn.ntmps - vals.size) Go.undef).getD t Go.undef = x := by
                        have hlt : t < vals.size := by
                          rw [hsize]; exact (List.getElem?_eq_some_iff.1 ht).1
                        have hx' : vals[t]? = some x := by simpa using hx
                        rw [Array.getD_eq_getD_getElem?, Array.getElem?_append_left hlt, hx']
                        rfl
                      rw [this]
                      simpa using hr
                  · have hi : i ∈ (args.getD t .undef).ids := hi
                    rw [List.getD_eq_getElem?_getD] at hi
                    cases ht : args[t]? with
                    | none => simp [ht, V.ids] at hi
                    | some a =>
                      simp only [ht, Option.getD_some] at hi
                      refine subset_spec b1 i ?_
                      exact idsL_get ht hi
                  · have ho' : objs[i]? = some o := ho
                    refine ⟨List.mem_range.2 (List.getElem?_eq_some_iff.1 ho').1, ?_⟩
                    exact subset_spec (List.all_eq_true.1 b2 o (List.mem_of_getElem? ho'))
                refine wp_mono (hsays _ _ _ _ _ _ hst0) ?_
                rintro e' a' w' ⟨rfl, G', τ', hs', hext, hτ⟩
                obtain ⟨xs, hxs, hres⟩ := results_run hs' hvs
                have hfx := repL_fixAll (P := P) (ts := fn.resultTypes.toList) hxs
                let names := List.range objs.length ++ exports
                let rv : V := match fixAll P fn.resultTypes.toList vs with
                  | [v] => v
                  | vs => .tup vs
                have hrv : rv.rep w' G' τ' (if h : xs.length = 1 then xs[0] else .tuple xs.toArray) := by
                  have hl := repL_length hfx
                  show V.rep w' G' τ' (match fixAll P fn.resultTypes.toList vs with
                    | [v] => v
                    | vs => .tup vs) _
                  generalize fixAll P fn.resultTypes.toList vs = vs2 at hfx hl ⊢
                  split
                  · rename_i v1
                    match xs, hfx with
                    | [x], hfx => simp only [repL] at hfx; exact hfx.1
                    | [], hfx => simp [repL] at hfx
                    | _ :: _ :: _, hfx => simp [repL] at hfx
                  · rename_i hne
                    have : ¬ xs.length = 1 := by
                      intro h1
                      match vs2, hl with
                      | [v1], _ => exact hne v1 rfl
                      | [], hl => simp at hl; omega
                      | _ :: _ :: _, hl => simp at hl; omega
                    rw [dif_neg this]
                    simp only [V.rep]
                    exact ⟨xs.toArray, rfl, by simpa using hfx⟩
                let lent := rv.ids.filter fun i => !names.contains i
                have hlent : ∀ i ∈ lent, i ∉ names := by
                  intro i hi
                  have := (List.mem_filter.1 hi).2
                  simpa using this
                have hfinal := passTop_rep hs'.mem names lent hv (fun i hi hni => List.mem_filter.2 ⟨hi, by simpa using hni⟩) hrv
                have hmem := Mem.given hs'.mem hn hlent hos
                have hpost : bodyPost P fn (fun e w'_1 => ∃ v_1 G' τ', e = .returned v_1 ∧ Ext w.heap.size X G w G' w'_1 ∧ (∀ i, i < objs.length → τ' i = τ i) ∧ v.rep w'_1 G' τ' v_1 ∧ Mem w.heap.size X G' τ' (objsAt' os) w'_1) .normal a' w' := by
                  refine ⟨hs'.defers, _, hres, _, giveG G' τ' σ.st lent, tauOf τ' names, rfl, ?_, fun i hi => ?_, hfinal, hmem⟩
                  · refine ⟨hext.os, hext.tape, hext.output, hext.size, hext.block, fun b hb => ⟨.inl (hext.keep b hb).1, (hext.keep b hb).2⟩, fun b hb => ?_⟩
                    rcases hb with hb | ⟨id, _, ⟨n, rows, hs⟩, hb⟩
                    · exact hext.grow b hb
                    · rcases hs'.mem.own id _ b hs hb with h | h
                      · exact .inr (.inr h)
                      · exact .inr (.inl h)
                  · have : names[i]? = some i := by
                      show (List.range objs.length ++ exports)[i]? = some i
                      rw [List.getElem?_append_left (by simpa using hi)]
                      simp [hi]
                    simp only [tauOf, this]
                    exact hτ i hi
                rcases hex with rfl | rfl
                · exact hpost
                · exact hpost
            · simp at h
          · simp at h
        · simp at h
    · simp at h
  · simp at h

end Go.Proofs.Ythhggnnfiohnpaa.E

/- The engine, part U: loops by their rounds. -/
namespace Go.Proofs.Ythhggnnfiohnpaa.E
open Go
set_option linter.unusedSimpArgs false

theorem runTo_says {P : Program} (hmix : P.follows .mixedOrders = true) {k n : Nat} {c : Code} {sc : List It} {s s' : SL} {nm : Norm} {e : Ex} {ps : List Prop} (h : runTo P k n c sc s nm = some (e, s', ps)) (hp : ∀ p ∈ ps, p) : CodeC P k n c s e s' := by
  unfold runTo at h
  cases hb : subset (List.range k) s.ids with
  | false => simp only [hb, cond_false, reduceCtorEq] at h
  | true =>
    simp only [hb, cond_true] at h
    split at h
    · rename_i e2 σ rest ps2 hrun
      cases hd : doneSc rest with
      | false => simp only [hd, cond_false, reduceCtorEq] at h
      | true =>
      simp only [hd, cond_true] at h
      split at h
      · rename_i s2 hn
        simp only [Option.some.injEq, Prod.mk.injEq] at h
        obtain ⟨rfl, rfl, rfl⟩ := h
        obtain ⟨g1, g2, g3⟩ := runC_says hmix c _ _ _ _ _ _ hrun hp (toS_range hb)
        intro base X G τ a w hs
        refine wp_mono (g3 base X G τ a w hs) ?_
        rintro e' a' w' ⟨rfl, G', τ', q1, q2, q3⟩
        obtain ⟨⟨τ1, r1, r2⟩, _⟩ := norm_St q1 hn
        refine ⟨rfl, G', τ1, ?_, q2, fun i hi => (r2 i hi).trans (q3 i hi)⟩
        have : σ.n = n := g1
        rw [this] at r1
        exact r1
      · simp at h
    · simp at h

/-- A round that leaves the loop. -/
theorem LoopC.last {P : Program} {k n : Nat} {c : Code} {s s' : SL} {e : Ex} (h : CodeC P k n c s e s') (he : e ≠ .normal) : LoopC P k n c s e s' := by
  intro base X G τ a w hs
  refine loopWp_step (wp_mono (h base X G τ a w hs) ?_)
  rintro e' a' w' ⟨rfl, hrest⟩
  cases e with
  | normal => exact (he rfl).elim
  | exit id => exact ⟨rfl, hrest⟩
  | ret => exact ⟨rfl, hrest⟩

/-- A round behind which the loop goes on. -/
theorem LoopC.next {P : Program} {k n : Nat} {c : Code} {s s1 s' : SL} {e : Ex} (h : CodeC P k n c s .normal s1) (hr : LoopC P k n c s1 e s') : LoopC P k n c s e s' := by
  intro base X G τ a w hs
  refine loopWp_step (wp_mono (h base X G τ a w hs) ?_)
  rintro e' a' w' ⟨rfl, G', τ', q1, q2, q3⟩
  refine loopWp_mono (hr base X G' τ' a' w' q1) ?_
  rintro e' a' w' ⟨rfl, G2, τ2, r1, r2, r3⟩
  exact ⟨rfl, G2, τ2, r1, q2.trans r2, fun i hi => (r3 i hi).trans (q3 i hi)⟩

end Go.Proofs.Ythhggnnfiohnpaa.E

/- The engine, part W: what is handed in, as terms. -/
namespace Go.Proofs.Ythhggnnfiohnpaa.E
open Go
set_option linter.unusedSimpArgs false

def catFields (T : TypeId → List V → Prop) : List Field → List V → Prop
  | [], vs => vs = []
  | f :: fs, vs => ∃ a b, vs = a ++ b ∧ T f.type a ∧ catFields T fs b

def catN (T : List V → Prop) : Nat → List V → Prop
  | 0, vs => vs = []
  | n + 1, vs => ∃ a b, vs = a ++ b ∧ T a ∧ catN T n b

mutual
/-- How many values and letters a reading holds. -/
def bulk {H : Type} : DataW H → Nat
  | .lit (.string bytes) => bytes.length + 1
  | .lit _ => 1
  | .nil => 1
  | .ptr d => bulk d + 1
  | .slice elems spare => bulkAll elems + bulkAll spare + 1
  | .agg parts => bulkAll parts + 1
  | .iface _ d => bulk d + 1
  | .map entries => bulkEntries entries + 1
  | .held _ => 1
def bulkAll {H : Type} : List (DataW H) → Nat
  | [] => 0
  | d :: r => bulk d + bulkAll r
def bulkEntries {H : Type} : List (Lit × DataW H) → Nat
  | [] => 0
  | x :: r => bulkEntry x + bulkEntries r
def bulkEntry {H : Type} : Lit × DataW H → Nat
  | (.string bytes, d) => bytes.length + bulk d + 1
  | (_, d) => bulk d + 1
end

/-- No slice, and no text, of a reading is longer than B. -/
def SzOk {H : Type} (B : Nat) (d : DataW H) : Prop := maxLen ≤ B ∨ bulk d ≤ B

theorem bulk_one {H : Type} (d : DataW H) : 1 ≤ bulk d := by
  cases d with
  | lit l => cases l <;> simp [bulk]
  | _ => simp [bulk]
theorem bulkAll_len {H : Type} : ∀ l : List (DataW H), l.length ≤ bulkAll l
  | [] => Nat.zero_le _
  | d :: r => by have := bulk_one d; have := bulkAll_len r; simp only [bulkAll, List.length_cons]; omega
theorem bulkAll_mem {H : Type} {d : DataW H} : ∀ {l : List (DataW H)}, d ∈ l → bulk d ≤ bulkAll l
  | x :: r, h => by
    simp only [bulkAll]
    rcases List.mem_cons.1 h with rfl | h
    · omega
    · have := bulkAll_mem h; omega
theorem SzOk.all {H : Type} {B : Nat} {xs : List (DataW H × List MemPlace)} {d : DataW H} (h : SzOk B d) (hd : bulkAll (xs.map (·.1)) ≤ bulk d) : ∀ y ∈ xs, SzOk B y.1 := by
  intro y hy
  rcases h with h | h
  · exact .inl h
  · exact .inr (Nat.le_trans (bulkAll_mem (List.mem_map_of_mem hy)) (Nat.le_trans hd h))

mutual
/-- No slice, and no text, of a term is longer than B. -/
def V.bnd (B : Nat) : V → Prop
  | .sl _ rows => rows.length ≤ B ∧ bndRs B rows
  | .val x => match x with
    | .string s => s.size ≤ B
    | .int k n => (Lit.int k n).wf = true
    | _ => True
  | .agg cs => bndL B cs
  | _ => True
def bndRs (B : Nat) : List (List V) → Prop
  | [] => True
  | r :: rs => bndL B r ∧ bndRs B rs
def bndL (B : Nat) : List V → Prop
  | [] => True
  | c :: cs => c.bnd B ∧ bndL B cs
end
mutual
/-- How many values and letters a term holds. -/
def V.sz : V → Nat
  | .sl _ rows => szRs rows + 1
  | .val x => match x with
    | .string s => s.size + 1
    | _ => 1
  | .agg cs => szL cs
  | _ => 1
def szRs : List (List V) → Nat
  | [] => 0
  | r :: rs => szL r + szRs rs
def szL : List V → Nat
  | [] => 0
  | c :: cs => c.sz + szL cs
end
theorem szL_append : ∀ (xs ys : List V), szL (xs ++ ys) = szL xs + szL ys
  | [], ys => by simp [szL]
  | x :: xs, ys => by rw [List.cons_append, szL, szL, szL_append xs ys]; omega
theorem bndRs_mem {B : Nat} : ∀ {rs : List (List V)}, bndRs B rs → ∀ r ∈ rs, bndL B r
  | r :: rs, h, x, hx => by
    simp only [bndRs] at h
    rcases List.mem_cons.1 hx with rfl | hx
    · exact h.1
    · exact bndRs_mem h.2 x hx
theorem bndRs_of {B : Nat} : ∀ {rs : List (List V)}, (∀ r ∈ rs, bndL B r) → bndRs B rs
  | [], _ => by simp only [bndRs]
  | r :: rs, h => by simp only [bndRs]; exact ⟨h r (by simp), bndRs_of fun x hx => h x (by simp [hx])⟩
theorem bndL_append {B : Nat} : ∀ {as bs : List V}, bndL B as → bndL B bs → bndL B (as ++ bs)
  | [], _, _, h => by simpa using h
  | a :: as, bs, h, k => by simp only [bndL] at h; simp only [List.cons_append, bndL]; exact ⟨h.1, bndL_append h.2 k⟩

/-- The cells of a value of a type, as terms. -/
def Typed (P : Program) (B : Nat) : Nat → TypeId → List V → Prop
  | 0, _, _ => False
  | d + 1, t, vs => match P.underlying t with
    | some .bool => ∃ b, vs = [.val (.bool b)]
    | some (.int k) => ∃ n, vs = [.val (.int k n)] ∧ (Lit.int k n).wf = true
    | some .string => ∃ s, vs = [.val (.string s)] ∧ s.size ≤ B
    | some (.slice e) => ∃ rows, vs = [.sl (P.cellsOf e) rows] ∧ rows.length ≤ B ∧ ∀ r ∈ rows, Typed P B d e r
    | some (.struct fs) => catFields (Typed P B d) fs.toList vs
    | some (.array n e) => catN (Typed P B d e) n vs
    | _ => False

def tiles (P : Program) : Nat → List Field → Nat → Bool
  | o, [], n => o == n
  | o, f :: fs, n => f.offset == o && tiles P (o + P.cellsOf f.type) fs n

theorem bnd_fields {B : Nat} {T : TypeId → List V → Prop} (h : ∀ t vs, T t vs → bndL B vs) : ∀ {fs : List Field} {vs : List V}, catFields T fs vs → bndL B vs
  | [], vs, hv => by simp only [catFields] at hv; subst hv; simp only [bndL]
  | f :: fs, vs, hv => by
    simp only [catFields] at hv
    obtain ⟨a, b, rfl, h1, h2⟩ := hv
    exact bndL_append (h _ _ h1) (bnd_fields h h2)
theorem bnd_elems {B : Nat} {T : List V → Prop} (h : ∀ vs, T vs → bndL B vs) : ∀ {n : Nat} {vs : List V}, catN T n vs → bndL B vs
  | 0, vs, hv => by simp only [catN] at hv; subst hv; simp only [bndL]
  | n + 1, vs, hv => by
    simp only [catN] at hv
    obtain ⟨a, b, rfl, h1, h2⟩ := hv
    exact bndL_append (h _ h1) (bnd_elems h h2)
theorem typed_bnd {P : Program} {B : Nat} : ∀ (d : Nat) (t : TypeId) (vs : List V), Typed P B d t vs → bndL B vs
  | 0, _, _, h => by simp only [Typed] at h
  | d + 1, t, vs, h => by
    simp only [Typed] at h
    split at h
    · obtain ⟨b, rfl⟩ := h; simp [bndL, V.bnd]
    · obtain ⟨n, rfl, hw⟩ := h; simp only [bndL, V.bnd, and_true]; exact hw
    · obtain ⟨s, rfl, hs⟩ := h; simp [bndL, V.bnd, hs]
    · obtain ⟨rows, rfl, h1, h2⟩ := h
      simp only [bndL, V.bnd, and_true]
      exact ⟨h1, bndRs_of fun r hr => typed_bnd d _ r (h2 r hr)⟩
    · exact bnd_fields (fun t vs => typed_bnd d t vs) h
    · exact bnd_elems (fun vs => typed_bnd d _ vs) h
    · exact h.elim

/-- Types whose values are read so. -/
def readable (P : Program) : Nat → TypeId → Bool
  | 0, _ => false
  | d + 1, t => match P.underlying t with
    | some .bool => true
    | some (.int _) => true
    | some .string => true
    | some (.slice e) => Nat.ble 1 (P.cellsOf e) && readable P d e
    | some (.struct fs) => tiles P 0 fs.toList (P.cellsOf t) && fs.toList.all fun f => readable P d f.type
    | some (.array n e) => n * P.cellsOf e == P.cellsOf t && readable P d e
    | _ => false

theorem repCells_at {w : World} {G : Nat → Prop} {b : Nat} : ∀ {cs : List V} {xs : List Value} {o : Nat}, repIL w G cs xs → (∀ i x, xs[i]? = some x → w.cell? ⟨b, o + i, none⟩ = some x) → repCells w G b o cs
  | [], [], _, _, _ => by simp only [repCells]
  | [], _ :: _, _, hr, _ => by simp only [repIL] at hr
  | _ :: _, [], _, hr, _ => by simp only [repIL] at hr
  | c :: cs, x :: xs, o, hr, h => by
    simp only [repIL] at hr
    simp only [repCells]
    refine ⟨⟨x, by simpa using h 0 x (by simp), hr.1.2, hr.1.1⟩, repCells_at hr.2 fun i y hy => ?_⟩
    have := h (i + 1) y (by simpa using hy)
    rwa [show o + (i + 1) = o + 1 + i by omega] at this

section
variable {H : Type} {enc : TypeId × Value → H} {P : Program} {w : World}

/-- Every block that is there. -/
def Old (w : World) : Nat → Prop := fun b => b < w.heap.size

theorem cell_old {a : Addr} {x : Value} (h : w.cell? a = some x) : a.spot = none ∧ a.block < w.heap.size := by
  unfold World.cell? at h
  split at h
  · rename_i hb
    refine ⟨?_, lt_of_get hb⟩
    cases hs : a.spot with
    | none => rfl
    | some s => simp [hs] at h
  · simp at h

theorem mapM_len {α β : Type} {f : α → Option β} : ∀ {l : List α} {ys : List β}, l.mapM f = some ys → ys.length = l.length
  | [], ys, h => by simp at h; subst h; rfl
  | a :: l, ys, h => by
    rw [List.mapM_cons] at h
    cases h1 : f a with
    | none => simp [h1] at h
    | some x =>
      cases h2 : l.mapM f with
      | none => simp [h1, h2] at h
      | some xs =>
        obtain rfl : x :: xs = ys := by simpa [h1, h2] using h
        simp [mapM_len h2]

theorem rows_of {T : List V → Prop} {Q : DataW H × List MemPlace → Prop} {a : Addr} {n : Nat} (hn : 1 ≤ n) : ∀ (len k : Nat) (elems : List (DataW H × List MemPlace)) (f : List Value → Option (DataW H × List MemPlace)),
    (∀ x ∈ elems, Q x) → (∀ cs x, Q x → f cs = some x → ∃ vs, T vs ∧ repIL w (Old w) vs cs ∧ szL vs ≤ bulk x.1) →
    ((List.range' k len).mapM fun i => (w.cells? 0 (a.add (i * n)) n).bind f) = some elems →
    ∃ rows : List (List V), rows.length = len ∧ (∀ r ∈ rows, T r) ∧ (len = 0 ∨ (a.block < w.heap.size ∧ (k = 0 → a.spot = none))) ∧ repRows w (Old w) n a.block (a.off + k * n) rows ∧ szRs rows ≤ bulkAll (elems.map (·.1))
  | 0, k, elems, f, _, hf, h => ⟨[], rfl, by simp, .inl rfl, by simp only [repRows], Nat.zero_le _⟩
  | len + 1, k, elems, f, hQ, hf, h => by
    rw [List.range'_succ, List.mapM_cons] at h
    cases h1 : (w.cells? 0 (a.add (k * n)) n).bind f with
    | none => simp [h1] at h
    | some x =>
      cases h2 : (List.range' (k + 1) len).mapM fun i => (w.cells? 0 (a.add (i * n)) n).bind f with
      | none => simp [h1, h2] at h
      | some xs =>
        obtain ⟨cs, hcs, hfx⟩ := Option.bind_eq_some_iff.1 h1
        obtain rfl : x :: xs = elems := by simpa [h1, h2] using h
        obtain ⟨vs, hT, hrep, hz⟩ := hf cs x (hQ x (by simp)) hfx
        obtain ⟨rows, e1, e2, e3, e4, e5⟩ := rows_of (Q := Q) hn len (k + 1) xs f (fun y hy => hQ y (by simp [hy])) hf h2
        obtain ⟨_, hl, hc⟩ := World.cells?_some hcs
        have hcell : ∀ i y, cs[i]? = some y → w.cell? ((a.add (k * n)).add i) = some y := by
          intro i y hy
          have hi : i < n := by rw [← hl]; exact (List.getElem?_eq_some_iff.1 hy).1
          rw [hc i hi, hy]
        have h0 : ∃ y, cs[0]? = some y := ⟨cs[0]'(by omega), by simp⟩
        obtain ⟨y, hy⟩ := h0
        have hold := cell_old (hcell 0 y hy)
        have hblk : a.block < w.heap.size := by
          have := hold.2
          simp only [Addr.add] at this
          split at this <;> (try split at this) <;> simpa using this
        refine ⟨vs :: rows, by simp [e1], ?_, .inr ⟨hblk, fun hk => ?_⟩, ?_, by simp only [szRs, List.map_cons, bulkAll]; omega⟩
        · intro r hr
          rcases List.mem_cons.1 hr with rfl | hr
          · exact hT
          · exact e2 r hr
        · subst hk
          have := hold.1
          simpa [Addr.add] using this
        · simp only [repRows]
          refine ⟨by rw [repIL_length hrep, hl], repCells_at hrep fun i y hy => ?_, ?_⟩
          · have := hcell i y hy
            have hsp := (cell_old this).1
            rw [← this]
            congr 1
            simp only [Addr.add] at hsp ⊢
            by_cases hkn : k * n = 0
            · simp only [hkn, if_true, Nat.add_zero] at hsp ⊢
              by_cases hi : i = 0
              · simp only [hi, if_true, Nat.add_zero] at hsp ⊢
                cases a; simp_all
              · simp only [hi, if_false]
            · simp only [hkn, if_false]
              by_cases hi : i = 0
              · simp only [hi, if_true, Nat.add_zero]
              · simp only [hi, if_false]
          · rw [show a.off + k * n + n = a.off + (k + 1) * n by rw [Nat.succ_mul]; omega]
            exact e4

theorem fields_of {T : TypeId → List V → Prop} {Q : DataW H × List MemPlace → Prop} {cs : List Value} {N : Nat} (hN : cs.length = N) : ∀ (fs : List Field) (o : Nat) (xs : List (DataW H × List MemPlace)) (f : TypeId → List Value → Option (DataW H × List MemPlace)),
    (∀ x ∈ xs, Q x) → (∀ g ∈ fs, ∀ cs x, Q x → f g.type cs = some x → cs.length = P.cellsOf g.type → ∃ vs, T g.type vs ∧ repIL w (Old w) vs cs ∧ szL vs ≤ bulk x.1) →
    tiles P o fs N = true → (fs.mapM fun g => f g.type ((cs.drop g.offset).take (P.cellsOf g.type))) = some xs →
    o ≤ N ∧ ∃ vs, catFields T fs vs ∧ repIL w (Old w) vs (cs.drop o) ∧ szL vs ≤ bulkAll (xs.map (·.1))
  | [], o, xs, f, _, _, ht, _ => by
    simp only [tiles, beq_iff_eq] at ht
    refine ⟨by omega, [], rfl, ?_, Nat.zero_le _⟩
    rw [List.drop_eq_nil_of_le (by omega)]
    simp only [repIL]
  | g :: fs, o, xs, f, hQ, hf, ht, h => by
    simp only [tiles, Bool.and_eq_true, beq_iff_eq] at ht
    rw [List.mapM_cons] at h
    cases h1 : f g.type ((cs.drop g.offset).take (P.cellsOf g.type)) with
    | none => simp [h1] at h
    | some x =>
      cases h2 : fs.mapM fun g => f g.type ((cs.drop g.offset).take (P.cellsOf g.type)) with
      | none => simp [h1, h2] at h
      | some xs2 =>
        obtain rfl : x :: xs2 = xs := by simpa [h1, h2] using h
        obtain ⟨hle, vs2, k1, k2, k3⟩ := fields_of (Q := Q) hN fs (o + P.cellsOf g.type) xs2 f (fun y hy => hQ y (by simp [hy])) (fun g' hg' => hf g' (by simp [hg'])) ht.2 h2
        rw [ht.1] at h1
        obtain ⟨vs1, j1, j2, j3⟩ := hf g (by simp) _ x (hQ x (by simp)) h1 (by simp; omega)
        refine ⟨by omega, vs1 ++ vs2, ⟨vs1, vs2, rfl, j1, k1⟩, ?_, by rw [szL_append]; simp only [List.map_cons, bulkAll]; omega⟩
        rw [show cs.drop o = (cs.drop o).take (P.cellsOf g.type) ++ cs.drop (o + P.cellsOf g.type) by rw [← List.drop_drop, List.take_append_drop]]
        exact repIL_append j2 k2

theorem elems_of {T : List V → Prop} {Q : DataW H × List MemPlace → Prop} {cs : List Value} {n m : Nat} : ∀ (len k : Nat) (xs : List (DataW H × List MemPlace)) (f : List Value → Option (DataW H × List MemPlace)),
    (∀ x ∈ xs, Q x) → (∀ cs x, Q x → f cs = some x → cs.length = m → ∃ vs, T vs ∧ repIL w (Old w) vs cs ∧ szL vs ≤ bulk x.1) →
    cs.length = (k + len) * m → ((List.range' k len).mapM fun i => f ((cs.drop (i * m)).take m)) = some xs →
    ∃ vs, catN T len vs ∧ repIL w (Old w) vs (cs.drop (k * m)) ∧ szL vs ≤ bulkAll (xs.map (·.1))
  | 0, k, xs, f, _, _, hl, _ => by
    refine ⟨[], rfl, ?_, Nat.zero_le _⟩
    rw [List.drop_eq_nil_of_le (by simp at hl; omega)]
    simp only [repIL]
  | len + 1, k, xs, f, hQ, hf, hl, h => by
    rw [List.range'_succ, List.mapM_cons] at h
    cases h1 : f ((cs.drop (k * m)).take m) with
    | none => simp [h1] at h
    | some x =>
      cases h2 : (List.range' (k + 1) len).mapM fun i => f ((cs.drop (i * m)).take m) with
      | none => simp [h1, h2] at h
      | some xs2 =>
        obtain rfl : x :: xs2 = xs := by simpa [h1, h2] using h
        obtain ⟨vs2, k1, k2, k3⟩ := elems_of (n := n) (Q := Q) len (k + 1) xs2 f (fun y hy => hQ y (by simp [hy])) hf (by rw [hl]; congr 1; omega) h2
        have hlen : ((cs.drop (k * m)).take m).length = m := by
          have : (k + (len + 1)) * m = k * m + (len * m + m) := by rw [Nat.add_mul, Nat.succ_mul]
          simp [hl]; omega
        obtain ⟨vs1, j1, j2, j3⟩ := hf _ x (hQ x (by simp)) h1 hlen
        refine ⟨vs1 ++ vs2, ⟨vs1, vs2, rfl, j1, k1⟩, ?_, by rw [szL_append]; simp only [List.map_cons, bulkAll]; omega⟩
        rw [show cs.drop (k * m) = (cs.drop (k * m)).take m ++ cs.drop ((k + 1) * m) by rw [Nat.succ_mul, ← List.drop_drop, List.take_append_drop]]
        exact repIL_append j2 k2

theorem trod_terms (B : Nat) : ∀ (d fuel : Nat) (t : TypeId) (cs : List Value) (x : DataW H × List MemPlace), SzOk B x.1 → readable P d t = true → cs.length = P.cellsOf t → DataW.trod enc P w 0 (fun _ => true) true fuel t cs = some x → ∃ vs, Typed P B d t vs ∧ repIL w (Old w) vs cs ∧ szL vs ≤ bulk x.1
  | 0, _, _, _, _, _, h, _, _ => by simp [readable] at h
  | d + 1, 0, _, _, _, _, _, _, h => by simp [DataW.trod] at h
  | d + 1, fuel + 1, t, cs, x, hB, hr, hl, h => by
    cases hu : P.underlying t with
    | none => simp [readable, hu] at hr
    | some ty =>
      cases ty with
      | bool =>
        simp only [DataW.trod, hu] at h
        split at h <;> try (simp_all; done)
        rename_i b _
        simp only [Typed, hu]
        exact ⟨_, ⟨b, rfl⟩, by simp [repIL, V.repI, Value.oneCell'], bulk_one _⟩
      | int k =>
        simp only [DataW.trod, hu] at h
        split at h <;> try (simp_all; done)
        rename_i k' n he
        split at h
        · rename_i hk
          simp only [Typed, hu]
          obtain ⟨rfl, hwf⟩ := hk
          simp only [Option.some.injEq, TypeDesc.int.injEq] at he
          subst he
          exact ⟨_, ⟨n, rfl, hwf⟩, by simp [repIL, V.repI, Value.oneCell'], bulk_one _⟩
        · simp at h
      | string =>
        simp only [DataW.trod, hu] at h
        split at h <;> try (simp_all; done)
        rename_i s _
        split at h
        · rename_i hk
          simp only [Typed, hu]
          simp only [Option.some.injEq] at h
          subst h
          refine ⟨_, ⟨s, rfl, ?_⟩, by simp [repIL, V.repI, Value.oneCell'], by simp only [szL, V.sz, bulk, Array.length_toList]; exact Nat.le_refl _⟩
          rcases hB with hB | hB
          · omega
          · simp only [bulk, Array.length_toList] at hB
            have : s.size = s.data.size := rfl
            omega
        · simp at h
      | slice e =>
        simp only [readable, hu, Bool.and_eq_true] at hr
        have hn := Nat.le_of_ble_eq_true hr.1
        simp only [DataW.trod, hu] at h
        split at h <;> try (simp_all; done)
        · simp only [Typed, hu]
          exact ⟨[.sl (P.cellsOf e) []], ⟨[], rfl, Nat.zero_le _, fun r hr => by simp at hr⟩, by simp [repIL, V.repI, Value.oneCell'], bulk_one _⟩
        · rename_i e' a len cap he
          simp only [Option.some.injEq, TypeDesc.slice.injEq] at he
          subst he
          split at h
          · rename_i hc
            obtain ⟨elems, h1, h9⟩ := Option.bind_eq_some_iff.1 h
            obtain ⟨rest, _, h10⟩ := Option.map_eq_some_iff.1 h9
            have hq1 : bulkAll (elems.map (·.1)) + 1 ≤ bulk x.1 := by rw [← h10]; simp only [bulk]; omega
            have hq : bulkAll (elems.map (·.1)) ≤ bulk x.1 := by omega
            have hlen9 : len ≤ B := by
              rcases hB with hB | hB
              · omega
              · have q1 := bulkAll_len (elems.map (·.1))
                have q2 := mapM_len h1
                simp at q1 q2
                omega
            rw [List.range_eq_range'] at h1
            obtain ⟨rows, e1, e2, e3, e4, e6⟩ := rows_of (w := w) (T := Typed P B d e) (Q := fun y => SzOk B y.1) hn len 0 elems (fun cs => if cs.length = P.cellsOf e then DataW.trod enc P w 0 (fun _ => true) true fuel e cs else none) (hB.all hq) (fun cs x hQ hx => by
              split at hx
              · rename_i hl2; exact trod_terms B d fuel e cs x hQ hr.2 hl2 hx
              · simp at hx) (by
              rw [← h1]
              congr 1
              funext i
              cases hcs : w.cells? 0 (a.add (i * P.cellsOf e)) (P.cellsOf e) with
              | none => rfl
              | some cs => simp only [Option.bind_some, (World.cells?_some hcs).2.1, if_true])
            simp only [Typed, hu]
            refine ⟨[.sl (P.cellsOf e) rows], ⟨rows, rfl, by omega, e2⟩, ?_, by simp only [szL, V.sz]; omega⟩
            simp only [repIL, V.repI, Value.oneCell', and_true]
            refine ⟨some a, cap, by rw [e1], by omega, ?_⟩
            rcases e3 with e3 | ⟨e3, e5⟩
            · left
              exact List.length_eq_zero_iff.1 (by omega)
            · right
              refine ⟨a.block, a.off, ?_, e3, by simpa using e4⟩
              have := e5 rfl
              cases a; simp_all
          · simp at h
      | struct fs =>
        simp only [readable, hu, Bool.and_eq_true] at hr
        simp only [DataW.trod, hu] at h
        split at h <;> try (simp_all; done)
        obtain ⟨xs, h1, h9⟩ := Option.map_eq_some_iff.1 h
        have hq : bulkAll (xs.map (·.1)) ≤ bulk x.1 := by rw [← h9]; simp only [bulk]; omega
        obtain ⟨_, vs, k1, k2, k3⟩ := fields_of (w := w) (T := Typed P B d) (Q := fun y => SzOk B y.1) hl fs.toList 0 xs (fun t cs => DataW.trod enc P w 0 (fun _ => true) true fuel t cs) (hB.all hq) (fun g hg cs x hQ hx hl2 => trod_terms B d fuel g.type cs x hQ (List.all_eq_true.1 hr.2 g hg) hl2 hx) hr.1 h1
        simp only [Typed, hu]
        exact ⟨vs, k1, by simpa using k2, Nat.le_trans k3 hq⟩
      | array n e =>
        simp only [readable, hu, Bool.and_eq_true, beq_iff_eq] at hr
        simp only [DataW.trod, hu] at h
        split at h <;> try (simp_all; done)
        obtain ⟨xs, h1, h9⟩ := Option.map_eq_some_iff.1 h
        have hq : bulkAll (xs.map (·.1)) ≤ bulk x.1 := by rw [← h9]; simp only [bulk]; omega
        rw [List.range_eq_range'] at h1
        obtain ⟨vs, k1, k2, k3⟩ := elems_of (w := w) (n := n) (T := Typed P B d e) (Q := fun y => SzOk B y.1) (m := P.cellsOf e) n 0 xs (fun cs => DataW.trod enc P w 0 (fun _ => true) true fuel e cs) (hB.all hq) (fun cs x hQ hx hl2 => trod_terms B d fuel e cs x hQ hr.2 hl2 hx) (by rw [hl, ← hr.1]; simp) h1
        simp only [Typed, hu]
        exact ⟨vs, k1, by simpa using k2, Nat.le_trans k3 hq⟩
      | _ => simp [readable, hu] at hr

end

end Go.Proofs.Ythhggnnfiohnpaa.E

/- The engine, part X: a row, from a contract. -/
namespace Go.Proofs.Ythhggnnfiohnpaa.E
open Go
set_option linter.unusedSimpArgs false

def I (n : Int) : V := .val (.int .i64 n)
def Bo (b : Bool) : V := .val (.bool b)
def Sg (s : ByteArray) : V := .val (.string s)

theorem vcP {P : Program} (hmix : P.follows .mixedOrders = true) {f : FuncId} {args : List V} {objs : List E.Obj} (sc : List It) (exports : List Nat) {r : V} {objs' : List (Option E.Obj)} (ps : List Prop)
    (h : runF P f args objs sc exports = some (r, objs', ps)) (hp : allP ps) : Contract P f args objs r objs' := vc hmix h (allP_spec hp)

theorem runP {P : Program} (hmix : P.follows .mixedOrders = true) {k n : Nat} {c : Code} (sc : List It) {s s' : SL} (nm : Norm) {e : Ex} (ps : List Prop) (h : runTo P k n c sc s nm = some (e, s', ps)) (hp : allP ps) : CodeC P k n c s e s' :=
  runTo_says hmix h (allP_spec hp)

/-- A proposition with its proof. -/
structure Pf where
  {p : Prop}
  h : p

theorem pfs : ∀ (l : List Pf), ∀ p ∈ l.map Pf.p, p
  | [], _, h => nomatch h
  | x :: l, p, h => by
    rcases List.mem_cons.1 h with rfl | h
    · exact x.h
    · exact pfs l p h

theorem vcS {P : Program} (hmix : P.follows .mixedOrders = true) {f : FuncId} {args : List V} {objs : List E.Obj} (sc : List It) (exports : List Nat) {r : V} {objs' : List (Option E.Obj)} (l : List Pf)
    (h : runF P f args objs sc exports = some (r, objs', l.map Pf.p) := by kernel_rfl) : Contract P f args objs r objs' := vc hmix h (pfs l)

theorem runS {P : Program} (hmix : P.follows .mixedOrders = true) {k n : Nat} {c : Code} (sc : List It) {s s' : SL} (nm : Norm) {e : Ex} (l : List Pf) (h : runTo P k n c sc s nm = some (e, s', l.map Pf.p) := by kernel_rfl) : CodeC P k n c s e s' :=
  runTo_says hmix h (pfs l)

theorem nn (i : Nat) : (0 : Int) ≤ Int.ofNat i := Int.natCast_nonneg i
theorem dlt {i n : Nat} (h : i < n) : decide (Int.ofNat i < Int.ofNat n) = true := decide_eq_true (Int.ofNat_lt.2 h)
theorem dge {i n : Nat} (h : n ≤ i) : decide (Int.ofNat i < Int.ofNat n) = false := decide_eq_false fun q => Nat.not_lt.2 h (Int.ofNat_lt.1 q)
theorem dltm {α β : Type} (f : α → β) {i : Nat} {l : List α} (h : i < l.length) : decide (Int.ofNat i < Int.ofNat (l.map f).length) = true := dlt (by rwa [List.length_map])
theorem dgem {α β : Type} (f : α → β) {i : Nat} {l : List α} (h : l.length ≤ i) : decide (Int.ofNat i < Int.ofNat (l.map f).length) = false := dge (by rwa [List.length_map])
theorem ltm {α β : Type} (f : α → β) {i : Nat} {l : List α} (h : i < l.length) : Int.ofNat i < Int.ofNat (l.map f).length := Int.ofNat_lt.2 (by rwa [List.length_map])
theorem gtm {α β : Type} (f : α → β) {i : Nat} {l : List α} {x : α} (h : l[i]? = some x) : (l.map f)[i]? = some (f x) := by rw [List.getElem?_map, h]; rfl
theorem w64 (n : Nat) (h : n < 4611686018427387904) : IntKind.i64.wrap (Int.ofNat n) = Int.ofNat n := by
  simp only [IntKind.wrap, IntKind.signed, IntKind.bits, Int.ofNat_eq_natCast]
  simp
  omega
theorem lenm {α β : Type} (f : α → β) (l : List α) : Int.ofNat (l.map f).length = Int.ofNat l.length := by rw [List.length_map]

def TypedArg (P : Program) (B : Nat) (t : TypeId) (v : V) : Prop := match P.underlying t with
  | some (.struct _) => ∃ cs, v = .agg cs ∧ Typed P B 14 t cs
  | some (.array _ _) => ∃ cs, v = .agg cs ∧ Typed P B 14 t cs
  | _ => Typed P B 14 t [v]

def oneB (P : Program) (t : TypeId) : Bool := match P.underlying t with
  | some (.struct _) => true
  | some (.array _ _) => true
  | _ => P.cellsOf t == 1

def TypedArgs (P : Program) (B : Nat) : List TypeId → List V → Prop
  | [], vs => vs = []
  | t :: ts, vs => ∃ v us, vs = v :: us ∧ TypedArg P B t v ∧ TypedArgs P B ts us

theorem arg_bnd {P : Program} {B : Nat} {t : TypeId} {v : V} (h : TypedArg P B t v) : v.bnd B := by
  unfold TypedArg at h
  split at h
  · obtain ⟨cs, rfl, h⟩ := h; simp only [V.bnd]; exact typed_bnd _ _ _ h
  · obtain ⟨cs, rfl, h⟩ := h; simp only [V.bnd]; exact typed_bnd _ _ _ h
  · have := typed_bnd _ _ _ h; simp only [bndL, and_true] at this; exact this
theorem args_bnd {P : Program} {B : Nat} : ∀ {ts : List TypeId} {vs : List V}, TypedArgs P B ts vs → bndL B vs
  | [], vs, h => by simp only [TypedArgs] at h; subst h; simp only [bndL]
  | t :: ts, vs, h => by
    simp only [TypedArgs] at h
    obtain ⟨v, us, rfl, h1, h2⟩ := h
    simp only [bndL]
    exact ⟨arg_bnd h1, args_bnd h2⟩

theorem typed_int {P : Program} {B : Nat} {t : TypeId} {k : IntKind} {d : Nat} {vs : List V} (hu : P.underlying t = some (.int k)) (h : Typed P B (d + 1) t vs) : ∃ n, vs = [.val (.int k n)] ∧ (Lit.int k n).wf = true := by
  simpa only [Typed, hu] using h
theorem typed_bool {P : Program} {B : Nat} {t : TypeId} {d : Nat} {vs : List V} (hu : P.underlying t = some .bool) (h : Typed P B (d + 1) t vs) : ∃ b, vs = [.val (.bool b)] := by
  simpa only [Typed, hu] using h
theorem typed_string {P : Program} {B : Nat} {t : TypeId} {d : Nat} {vs : List V} (hu : P.underlying t = some .string) (h : Typed P B (d + 1) t vs) : ∃ s, vs = [.val (.string s)] ∧ s.size ≤ B := by
  simpa only [Typed, hu] using h
theorem typed_slice {P : Program} {B : Nat} {t e : TypeId} {d : Nat} {vs : List V} (hu : P.underlying t = some (.slice e)) (h : Typed P B (d + 1) t vs) : ∃ rows, vs = [.sl (P.cellsOf e) rows] ∧ rows.length ≤ B ∧ ∀ r ∈ rows, Typed P B d e r := by
  simpa only [Typed, hu] using h
theorem typed_struct {P : Program} {B : Nat} {t : TypeId} {fs : Array Field} {d : Nat} {vs : List V} (hu : P.underlying t = some (.struct fs)) (h : Typed P B (d + 1) t vs) : catFields (Typed P B d) fs.toList vs := by
  simpa only [Typed, hu] using h
theorem typed_array {P : Program} {B : Nat} {t e : TypeId} {n d : Nat} {vs : List V} (hu : P.underlying t = some (.array n e)) (h : Typed P B (d + 1) t vs) : catN (Typed P B d e) n vs := by
  simpa only [Typed, hu] using h
theorem arg_struct {P : Program} {B : Nat} {t : TypeId} {fs : Array Field} {v : V} (hu : P.underlying t = some (.struct fs)) (h : TypedArg P B t v) : ∃ cs, v = .agg cs ∧ Typed P B 14 t cs := by
  simpa only [TypedArg, hu] using h
theorem arg_array {P : Program} {B : Nat} {t e : TypeId} {n : Nat} {v : V} (hu : P.underlying t = some (.array n e)) (h : TypedArg P B t v) : ∃ cs, v = .agg cs ∧ Typed P B 14 t cs := by
  simpa only [TypedArg, hu] using h
theorem arg_int {P : Program} {B : Nat} {t : TypeId} {k : IntKind} {v : V} (hu : P.underlying t = some (.int k)) (h : TypedArg P B t v) : ∃ n, v = .val (.int k n) ∧ (Lit.int k n).wf = true := by
  have h : Typed P B 14 t [v] := by simpa only [TypedArg, hu] using h
  obtain ⟨n, e, w⟩ := typed_int hu h
  cases e
  exact ⟨n, rfl, w⟩
theorem arg_bool {P : Program} {B : Nat} {t : TypeId} {v : V} (hu : P.underlying t = some .bool) (h : TypedArg P B t v) : ∃ b, v = .val (.bool b) := by
  have h : Typed P B 14 t [v] := by simpa only [TypedArg, hu] using h
  obtain ⟨n, e⟩ := typed_bool hu h
  cases e
  exact ⟨n, rfl⟩
theorem arg_string {P : Program} {B : Nat} {t : TypeId} {v : V} (hu : P.underlying t = some .string) (h : TypedArg P B t v) : ∃ s, v = .val (.string s) ∧ s.size ≤ B := by
  have h : Typed P B 14 t [v] := by simpa only [TypedArg, hu] using h
  obtain ⟨n, e, w⟩ := typed_string hu h
  cases e
  exact ⟨n, rfl, w⟩
theorem arg_slice {P : Program} {B : Nat} {t e : TypeId} {v : V} (hu : P.underlying t = some (.slice e)) (h : TypedArg P B t v) : ∃ rows, v = .sl (P.cellsOf e) rows ∧ rows.length ≤ B ∧ ∀ r ∈ rows, Typed P B 13 e r := by
  have h : Typed P B 14 t [v] := by simpa only [TypedArg, hu] using h
  obtain ⟨n, e, w⟩ := typed_slice hu h
  cases e
  exact ⟨n, rfl, w⟩

section
variable {H : Type} {enc : TypeId × Value → H} {P : Program} {w : World}

theorem arg_terms {B : Nat} {t : TypeId} {v : Value} {d : DataW H} {ps : List MemPlace} {base : Nat} {τ : Nat → Gh} (hB : SzOk B d) (hr : readable P 14 t = true) (ho : oneB P t = true) (hw : Value.okWide P w .any base t v)
    (h : DataW.Trod enc P w 0 (fun _ => true) true t v d ps) : ∃ u, TypedArg P B t u ∧ u.rep w (Old w) τ v ∧ u.sz ≤ bulk d := by
  obtain ⟨fuel, h⟩ := h
  unfold TypedArg
  have one : v.cells.toList = [v] → v.cells.toList.length = P.cellsOf t → ∃ u, Typed P B 14 t [u] ∧ u.rep w (Old w) τ v ∧ u.sz ≤ bulk d := by
    intro h1 h2
    obtain ⟨vs, k1, k2, k3⟩ := trod_terms B 14 fuel t v.cells.toList (d, ps) hB hr h2 h
    rw [h1] at k2
    match vs, k2, k3 with
    | [u], k2, k3 =>
      simp only [repIL] at k2
      simp only [szL, Nat.add_zero] at k3
      exact ⟨u, k1, rep_of_repI k2.1.1, k3⟩
    | [], k2, _ => simp [repIL] at k2
    | _ :: _ :: _, k2, _ => simp [repIL] at k2
  have whole : (∃ cs, v = .agg cs ∧ cs.size = P.cellsOf t ∧ Row.okWide P w .any base t cs) → ∃ u, (∃ cs, u = V.agg cs ∧ Typed P B 14 t cs) ∧ u.rep w (Old w) τ v ∧ u.sz ≤ bulk d := by
    rintro ⟨cs, rfl, h2, _⟩
    obtain ⟨vs, k1, k2, k3⟩ := trod_terms B 14 fuel t cs.toList (d, ps) hB hr (by simpa using h2) (by simpa [Value.cells] using h)
    exact ⟨.agg vs, ⟨vs, rfl, k1⟩, by simp only [V.rep]; exact ⟨cs, rfl, repL_of_repIL k2⟩, by simp only [V.sz]; exact k3⟩
  cases hu : P.underlying t with
  | none => simp [readable, hu] at hr
  | some ty =>
    unfold oneB at ho
    unfold Value.okWide at hw
    rw [hu] at ho hw
    cases ty with
    | struct fs => exact whole hw
    | array n e => exact whole hw
    | bool =>
      simp only [Cell.okWide, hu, Cell.ok] at hw
      simp only [beq_iff_eq] at ho
      split at hw <;> first | exact hw.elim | exact one rfl (by rw [ho]; rfl) | simp_all
    | int k =>
      simp only [Cell.okWide, hu, Cell.ok] at hw
      simp only [beq_iff_eq] at ho
      split at hw <;> first | exact hw.elim | exact one rfl (by rw [ho]; rfl) | simp_all
    | string =>
      simp only [Cell.okWide, hu, Cell.ok] at hw
      simp only [beq_iff_eq] at ho
      split at hw <;> first | exact hw.elim | exact one rfl (by rw [ho]; rfl) | simp_all
    | slice e =>
      simp only [Cell.okWide, hu, Cell.ok] at hw
      simp only [beq_iff_eq] at ho
      split at hw <;> first | exact hw.elim | exact one rfl (by rw [ho]; rfl) | simp_all
    | _ => simp [readable, hu] at hr

theorem args_terms {B : Nat} {τ : Nat → Gh} {base : Nat} : ∀ {ts : List TypeId} {vs : List Value} {ds : List (DataW H)} {ps : List MemPlace}, DataW.TrodAll enc P w 0 (fun _ => true) true ts vs ds ps →
    (∀ (j : Nat) (t : TypeId) (v : Value), ts[j]? = some t → vs[j]? = some v → Value.okWide P w .any base t v) → (ts.all fun t => readable P 14 t && oneB P t) = true → (∀ d ∈ ds, SzOk B d) →
    ds.length = ts.length ∧ ∃ us, TypedArgs P B ts us ∧ repL w (Old w) τ us vs ∧ szL us ≤ bulkAll ds
  | [], vs, ds, ps, h, _, _, _ => by
    obtain ⟨rfl, rfl, rfl⟩ := ChangeShapes.trodAll_nil h
    exact ⟨rfl, [], rfl, by simp only [repL], Nat.zero_le _⟩
  | t :: ts, vs, ds, ps, h, hw, hr, hB => by
    obtain ⟨v, vs1, d, ds1, a, b, rfl, rfl, rfl, h1, h2⟩ := ChangeShapes.trodAll_cons h
    simp only [List.all_cons, Bool.and_eq_true] at hr
    obtain ⟨k1, us, k2, k3, k4⟩ := args_terms h2 (fun j t' v' ht hv => hw (j + 1) t' v' (by simpa using ht) (by simpa using hv)) hr.2 (fun d hd => hB d (by simp [hd]))
    obtain ⟨u, j1, j2, j3⟩ := arg_terms (B := B) (τ := τ) (hB d (by simp)) hr.1.1 hr.1.2 (hw 0 t v rfl rfl) h1
    exact ⟨by simp [k1], u :: us, ⟨u, us, rfl, j1, k2⟩, by simp only [repL]; exact ⟨j2, k3⟩, by simp only [szL, bulkAll]; omega⟩

theorem trodAll_below {w w' : World} (hl : laidOutB P = true) (hb : RowKit.Below w.heap.size w w') : ∀ {ts : List TypeId} {vs : List Value} {ds : List (DataW H)} {ps : List MemPlace}, DataW.TrodAll enc P w 0 (fun _ => true) true ts vs ds ps →
    (ts.all fun t => P.readableRec t && decide (t < P.types.size)) = true → (∀ x ∈ ps, x.block < w.heap.size) → DataW.TrodAll enc P w' 0 (fun b => decide (b < w.heap.size)) true ts vs ds ps
  | [], vs, ds, ps, h, _, _ => by
    obtain ⟨rfl, rfl, rfl⟩ := ChangeShapes.trodAll_nil h
    simp [DataW.TrodAll]
  | t :: ts, vs, ds, ps, h, hr, hp => by
    obtain ⟨v, vs1, d, ds1, a, b, rfl, rfl, rfl, h1, h2⟩ := ChangeShapes.trodAll_cons h
    simp only [List.all_cons, Bool.and_eq_true, decide_eq_true_eq] at hr
    exact ⟨a, b, RowKit.Below.trod hl hr.1.1 hr.1.2 h1 hb (fun x hx => hp x (by simp [hx])), trodAll_below hl hb h2 hr.2 (fun x hx => hp x (by simp [hx])), rfl⟩

theorem Mem.none (w : World) : Mem w.heap.size (fun _ => False) (Old w) (fun _ => ⟨none, none, 0, 0⟩) (objsAt []) w :=
  ⟨fun _ h => h, fun _ _ h => by simp [objsAt] at h, fun _ _ _ h => by simp [objsAt] at h, fun _ _ _ _ _ h => by simp [objsAt] at h,
    fun _ => [], ⟨fun _ _ h => by simp [objsAt] at h, fun _ _ _ h => by simp [objsAt] at h, fun _ _ _ h => by simp [objsAt] at h, fun _ _ _ _ _ h => by simp [objsAt] at h⟩⟩

/-- A law's row, from its contract. -/
theorem row_of0 (B : Nat) (Z : Option Nat) {f : FuncId} {fn : Func} {s : ChangeSpec} {apart handsOn fresh : Bool} {tb : TypeId}
    (hl : laidOutB P = true) (hvars : s.vars = []) (hpar : (fn.params.toList.all fun t => readable P 14 t && oneB P t) = true) (hpar2 : (fn.params.toList.all fun t => P.readableRec t && decide (t < P.types.size)) = true)
    (hres : fn.resultTypes = #[tb]) (htb : P.underlying tb = some .bool)
    (hs : ∀ ds : List (DataW H), ds.length = fn.params.toList.length → s.fn H ds = { results := [.lit (.bool true)], args := ds })
    (hc : ∀ us, TypedArgs P B fn.params.toList us → (∀ z, Z = some z → szL us ≤ z) → Contract P f us [] (.val (.bool true)) []) :
    ∀ (W : World) (base : Nat) (args : Array Value) (ds gs : List (DataW H)) (before : List MemPlace),
      (∀ (j : Nat) t v, fn.params[j]? = some t → args[j]? = some v → Value.okWide P W .any base t v) →
      DataW.Whole enc P fn.params.toList s.vars apart W args.toList ds gs before → (∀ d ∈ ds, SzOk B d) → (∀ z, Z = some z → bulkAll ds ≤ z) →
      Calls P f args W fun e W' => ∃ v, e = .returned v ∧ s.post enc P fn apart fresh handsOn false W args v W' := by
  intro W base args ds gs before hval hW hB hZ
  have hW' := hW
  obtain ⟨p, q, hA, hV, rfl, hfz, hnd⟩ := hW
  obtain ⟨hlen, us, hT, hrep, hz⟩ := args_terms (B := B) (τ := fun _ => ⟨none, none, 0, 0⟩) hA (fun j t v ht hv => hval j t v (by simpa using ht) (by simpa using hv)) hpar hB
  rw [hvars] at hV
  obtain ⟨rfl, rfl⟩ : gs = [] ∧ q = [] := by
    cases gs with
    | nil => exact ⟨rfl, hV⟩
    | cons g gs => exact hV.elim
  have hcall := (hc us hT fun z h => Nat.le_trans hz (hZ z h)).calls W (Old W) (fun _ => False) (fun _ => ⟨none, none, 0, 0⟩) args (Mem.none W) (fun _ h => h.elim) hrep
  refine Calls.mono hcall ?_
  rintro e W' ⟨v, G', τ', rfl, hext, _, hv, _⟩
  simp only [V.rep, V.repI] at hv
  subst hv
  have hb : RowKit.Below W.heap.size W W' := ⟨hext.os, hext.tape, hext.output, hext.size, fun k hk => hext.block k hk (fun h => h)⟩
  have hlt : ∀ x ∈ p, x.block < W.heap.size := fun x hx => hW'.lt x (by simpa using hx)
  have e1 : s.fn H (ds ++ []) = { results := [.lit (.bool true)], args := ds } := by rw [List.append_nil]; exact hs ds hlen
  refine ⟨_, rfl, ds, [], p ++ [], [], p, [], hW', ?_, ?_, ?_, ?_, fun h => by cases h⟩
  · rw [e1, hres]
    exact ⟨[], [], RowKit.shut_bool htb true, rfl, rfl⟩
  · rw [e1]
    exact trodAll_below hl hb hA hpar2 hlt
  · rw [hvars, e1]
    exact rfl
  · exact hb.frame _


/-- A law's row, from its contract. -/
theorem row_of {f : FuncId} {fn : Func} {s : ChangeSpec} {apart handsOn fresh : Bool} {tb : TypeId}
    (hl : laidOutB P = true) (hvars : s.vars = []) (hpar : (fn.params.toList.all fun t => readable P 14 t && oneB P t) = true) (hpar2 : (fn.params.toList.all fun t => P.readableRec t && decide (t < P.types.size)) = true)
    (hres : fn.resultTypes = #[tb]) (htb : P.underlying tb = some .bool)
    (hs : ∀ ds : List (DataW H), ds.length = fn.params.toList.length → s.fn H ds = { results := [.lit (.bool true)], args := ds })
    (hc : ∀ us, TypedArgs P maxLen fn.params.toList us → Contract P f us [] (.val (.bool true)) []) :
    ∀ (W : World) (base : Nat) (args : Array Value) (ds gs : List (DataW H)) (before : List MemPlace),
      (∀ (j : Nat) t v, fn.params[j]? = some t → args[j]? = some v → Value.okWide P W .any base t v) →
      DataW.Whole enc P fn.params.toList s.vars apart W args.toList ds gs before →
      Calls P f args W fun e W' => ∃ v, e = .returned v ∧ s.post enc P fn apart fresh handsOn false W args v W' :=
  fun W base args ds gs before hval hW => row_of0 maxLen none hl hvars hpar hpar2 hres htb hs (fun us h _ => hc us h) W base args ds gs before hval hW (fun _ _ => .inl (Nat.le_refl _)) (fun z h => by cases h)

theorem bulkAll_left {H : Type} : ∀ (ds gs : List (DataW H)), bulkAll ds ≤ bulkAll (ds ++ gs)
  | [], _ => Nat.zero_le _
  | d :: ds, gs => by simp only [List.cons_append, bulkAll]; have := bulkAll_left ds gs; omega
/-- A law's row, from its contract, where what comes in is small. -/
theorem row_upto {B : Nat} {f : FuncId} {fn : Func} {s : ChangeSpec} {apart handsOn fresh : Bool} {tb : TypeId}
    (hl : laidOutB P = true) (hvars : s.vars = []) (hpar : (fn.params.toList.all fun t => readable P 14 t && oneB P t) = true) (hpar2 : (fn.params.toList.all fun t => P.readableRec t && decide (t < P.types.size)) = true)
    (hres : fn.resultTypes = #[tb]) (htb : P.underlying tb = some .bool)
    (hs : ∀ ds : List (DataW H), ds.length = fn.params.toList.length → s.fn H ds = { results := [.lit (.bool true)], args := ds })
    (hc : ∀ us, TypedArgs P B fn.params.toList us → Contract P f us [] (.val (.bool true)) []) :
    ∀ (W : World) (base : Nat) (args : Array Value) (ds gs : List (DataW H)) (before : List MemPlace),
      (∀ (j : Nat) t v, fn.params[j]? = some t → args[j]? = some v → Value.okWide P W .any base t v) →
      DataW.Whole enc P fn.params.toList s.vars apart W args.toList ds gs before → bulkAll (ds ++ gs) ≤ B →
      Calls P f args W fun e W' => ∃ v, e = .returned v ∧ s.post enc P fn apart fresh handsOn false W args v W' :=
  fun W base args ds gs before hval hW hB => row_of0 B none hl hvars hpar hpar2 hres htb hs (fun us h _ => hc us h) W base args ds gs before hval hW (fun d hd => .inr (Nat.le_trans (bulkAll_mem (by simp [hd])) hB)) (fun z h => by cases h)

/-- As row_upto; the arguments' sizes, added up, are small, too. -/
theorem row_upto2 {B : Nat} {f : FuncId} {fn : Func} {s : ChangeSpec} {apart handsOn fresh : Bool} {tb : TypeId}
    (hl : laidOutB P = true) (hvars : s.vars = []) (hpar : (fn.params.toList.all fun t => readable P 14 t && oneB P t) = true) (hpar2 : (fn.params.toList.all fun t => P.readableRec t && decide (t < P.types.size)) = true)
    (hres : fn.resultTypes = #[tb]) (htb : P.underlying tb = some .bool)
    (hs : ∀ ds : List (DataW H), ds.length = fn.params.toList.length → s.fn H ds = { results := [.lit (.bool true)], args := ds })
    (hc : ∀ us, TypedArgs P B fn.params.toList us → szL us ≤ B → Contract P f us [] (.val (.bool true)) []) :
    ∀ (W : World) (base : Nat) (args : Array Value) (ds gs : List (DataW H)) (before : List MemPlace),
      (∀ (j : Nat) t v, fn.params[j]? = some t → args[j]? = some v → Value.okWide P W .any base t v) →
      DataW.Whole enc P fn.params.toList s.vars apart W args.toList ds gs before → bulkAll (ds ++ gs) ≤ B →
      Calls P f args W fun e W' => ∃ v, e = .returned v ∧ s.post enc P fn apart fresh handsOn false W args v W' :=
  fun W base args ds gs before hval hW hB => row_of0 B (some B) hl hvars hpar hpar2 hres htb hs (fun us h hz => hc us h (hz B rfl)) W base args ds gs before hval hW (fun d hd => .inr (Nat.le_trans (bulkAll_mem (by simp [hd])) hB)) (fun z h => by cases h; exact Nat.le_trans (bulkAll_left ds gs) hB)

end
end Go.Proofs.Ythhggnnfiohnpaa.E

/- Contracts of library functions: what all of them use. -/
namespace Go.Proofs.Ythhggnnfiohnpaa.E
open Go
set_option linter.unusedSimpArgs false

theorem Sub.plain {base : Nat} {X G : Nat → Prop} {τ : Nat → Gh} {st : Nat → Option E.Obj} {w : World} (h : ∀ i p, st i = some p → p.plain = true) : ∃ σ, SubAt base X G τ st w σ := by
  have no : ∀ {i p}, st i = some p → p.plain = false → False := fun hi hp => by rw [h _ _ hi] at hp; cases hp
  exact ⟨fun _ => [], ⟨fun i p hi hp => (no hi hp).elim, fun i p b hi hp => (no hi hp).elim, fun i p b hi hp => (no hi hp).elim, fun i j p q b hi _ hp => (no hi hp).elim⟩⟩

/-- Fewer objects. -/
theorem Sub.less {base : Nat} {X G : Nat → Prop} {τ : Nat → Gh} {st st' : Nat → Option E.Obj} {w : World} (hm : ∃ σ, SubAt base X G τ st w σ) (h : ∀ i p, st' i = some p → p.plain = false → st i = some p)
    (h2 : ∀ i p, st' i = some p → ∃ q, st i = some q) : ∃ σ, SubAt base X G τ st' w σ :=
  Sub.step (fun i => i) hm (fun b hb => ⟨hb, rfl⟩) (Nat.le_refl _) (fun _ _ h => h) (fun i o hi hp => ⟨h i o hi hp, rfl, fun _ _ => rfl, fun _ _ => rfl⟩) (fun i j _ _ _ _ _ _ h => h) (fun b _ hg _ _ => ⟨rfl, hg⟩)
    (fun i o b hi hb => by obtain ⟨q, hq⟩ := h2 i o hi; exact .inr ⟨i, q, hq, hb⟩)

/-- What is said of an object need not be said. -/
theorem Contract.drop0 {P : Program} {f : FuncId} {args : List V} {objs : List E.Obj} {r : V} {o : Option E.Obj} {os : List (Option E.Obj)} (h : Contract P f args objs r (o :: os)) : Contract P f args objs r (none :: os) := by
  refine ⟨h.goes, fun w G X τ vals hm hX ha => Calls.mono (h.calls w G X τ vals hm hX ha) ?_⟩
  rintro e w' ⟨v, G', τ', rfl, h1, h2, h3, h4⟩
  have sub : ∀ i p, objsAt' (none :: os) i = some p → objsAt' (o :: os) i = some p := by
    intro i p hp
    cases i with
    | zero => simp [objsAt'] at hp
    | succ i => simpa [objsAt'] using hp
  exact ⟨v, G', τ', rfl, h1, h2, h3, h4.gold, fun i p hp => h4.ok i p (sub i p hp), fun i p b hp => h4.own i p b (sub i p hp), fun i j p q b hp hq => h4.inj i j p q b (sub i p hp) (sub j q hq), Sub.less h4.sub (fun i p hp _ => sub i p hp) (fun i p hp => ⟨p, sub i p hp⟩)⟩

/-- A slice that is owned, by its block: however much room there is. -/
theorem Contract.own {P : Program} {f : FuncId} {args : List V} {objs : List E.Obj} {n : Nat} {rows : List (List V)} {r : V} {os : List (Option E.Obj)}
    (h : ∀ c, rows.length ≤ c → Contract P f (.vw 0 n 0 rows.length :: args) (.blk n rows c :: objs) r os) : Contract P f (.own 0 :: args) (.arr n rows :: objs) r os := by
  refine ⟨(h _ (Nat.le_refl _)).goes, fun w G X τ vals hm hX ha => ?_⟩
  have hok := hm.ok 0 _ rfl
  simp only [Obj.ok] at hok
  have hc := h (τ 0).cap hok.2.1
  have sub : ∀ i p, objsAt (.blk n rows (τ 0).cap :: objs) i = some p → (i = 0 ∧ p = .blk n rows (τ 0).cap) ∨ (i ≠ 0 ∧ objsAt (.arr n rows :: objs) i = some p) := by
    intro i p hp
    cases i with
    | zero => left; simp [objsAt] at hp; exact ⟨rfl, hp.symm⟩
    | succ i => right; exact ⟨by omega, by simpa [objsAt] using hp⟩
  have tot : ∀ i p, objsAt (.blk n rows (τ 0).cap :: objs) i = some p → ∃ q, objsAt (.arr n rows :: objs) i = some q := by
    intro i p hp
    rcases sub i p hp with ⟨rfl, _⟩ | ⟨_, h⟩
    · exact ⟨_, rfl⟩
    · exact ⟨_, h⟩
  refine Calls.mono (hc.calls w G X τ vals ⟨hm.gold, fun i p hp => ?_, fun i p b hp => ?_, fun i j p q b hp hq => ?_, Sub.less hm.sub (fun i p hp hpl => ?_) tot⟩ hX ?_) ?_
  · rcases sub i p hp with ⟨rfl, rfl⟩ | ⟨_, h⟩
    · simp only [Obj.ok]; exact ⟨trivial, hok.2⟩
    · exact hm.ok i p h
  · obtain ⟨q, hq⟩ := tot i p hp
    exact hm.own i q b hq
  · obtain ⟨p', hp'⟩ := tot i p hp
    obtain ⟨q', hq'⟩ := tot j q hq
    exact hm.inj i j p' q' b hp' hq'
  · rcases sub i p hp with ⟨_, rfl⟩ | ⟨_, h⟩
    · cases hpl
    · exact h
  · cases hv : vals.toList with
    | nil => rw [hv] at ha; simp only [repL] at ha
    | cons x xs =>
      rw [hv] at ha
      simp only [repL] at ha ⊢
      refine ⟨?_, ha.2⟩
      have h1 := ha.1
      simp only [V.rep, Gh.hdr, hok.1] at h1
      simp only [V.rep]
      refine ⟨fit_of hok.2, _, h1, Nat.zero_le _, hok.2.1, .inl ?_⟩
      rcases hok.2.2 with ⟨_, e2, _⟩ | ⟨b, _, _, _, _, e2, _⟩
      · rw [e2]; rfl
      · rw [e2]; simp [add_plain]
  · rintro e w' ⟨v, G', τ', rfl, h1, h2, h3, h4⟩
    exact ⟨v, G', τ', rfl, h1, fun i hi => h2 i (by simpa using hi), h3, h4⟩

theorem i64_small {n : Int} (h : -9223372036854775808 ≤ n ∧ n ≤ 9223372036854775807) : IntKind.i64.wrap n = n := Go.IntWalk.i64_in _ h

theorem over_app {X Y S : List (List V)} {a : Nat} (h : a = X.length) : over (X ++ Y) a S = X ++ S ++ Y.drop S.length := by
  subst h
  unfold over
  rw [List.take_left', List.drop_append, List.drop_of_length_le (by omega)]
  · simp
  · rfl

theorem ins1 {rows : List (List V)} {row z : List V} {k a m : Nat} (ha : a = k) (hk : k ≤ rows.length) (hm : 0 < m) :
    over (rows.take k ++ List.replicate (rows.length + 1 - k) z) a (List.take m [row]) = rows.take k ++ row :: List.replicate (rows.length - k) z := by
  have e2 : List.take m [row] = [row] := List.take_of_length_le (by simp; omega)
  rw [e2, over_app (by simp; omega)]
  simp only [List.length_cons, List.length_nil, List.append_assoc, List.cons_append, List.nil_append, List.drop_replicate]
  congr 3
  omega

theorem ins2 {rows : List (List V)} {row z : List V} {k a b m : Nat} (ha : a = k + 1) (hb : b = k) (hk : k ≤ rows.length) (hm : rows.length - k ≤ m) :
    over (rows.take k ++ row :: List.replicate (rows.length - k) z) a (List.take m (List.drop b rows)) = rows.take k ++ row :: rows.drop k := by
  subst ha hb
  rw [List.take_of_length_le (i := m) (l := List.drop b rows) (by simp; omega)]
  have e : rows.take b ++ row :: List.replicate (rows.length - b) z = (rows.take b ++ [row]) ++ List.replicate (rows.length - b) z := by simp
  rw [e, over_app (by simp; omega)]
  simp

theorem ins3 {rows : List (List V)} {k a b m : Nat} (ha : a = k + 1) (hb : b = k) (hk : k < rows.length) (hm : rows.length - k ≤ m) :
    over rows a (List.take m (List.drop b rows)) = rows.take (k + 1) ++ rows.drop k := by
  subst ha hb
  rw [List.take_of_length_le (i := m) (l := List.drop b rows) (by simp; omega)]
  unfold over
  rw [List.drop_of_length_le (i := b + 1 + (List.drop b rows).length) (by simp; omega)]
  simp

theorem ins4 {rows : List (List V)} {row : List V} {k a m : Nat} (ha : a = k) (hk : k < rows.length) (hm : 0 < m) :
    over (rows.take (k + 1) ++ rows.drop k) a (List.take m [row]) = rows.take k ++ row :: rows.drop k := by
  subst ha
  have e2 : List.take m [row] = [row] := List.take_of_length_le (by simp; omega)
  rw [e2]
  unfold over
  have h1 : (rows.take (a + 1) ++ rows.drop a).take a = rows.take a := by rw [List.take_append_of_le_length (by simp; omega), List.take_take]; congr 1; omega
  have h2 : (rows.take (a + 1) ++ rows.drop a).drop (a + [row].length) = rows.drop a := by
    rw [List.drop_append, List.drop_of_length_le (by simp; omega)]
    simp only [List.length_cons, List.length_nil, List.length_take, List.nil_append]
    rw [show a + (0 + 1) - min (a + 1) rows.length = 0 by omega]; rfl
  rw [h1, h2]
  simp

/-- A slice without rows is nil, or it is not. -/
theorem Contract.slNil {P : Program} {f : FuncId} {args : List V} {objs : List E.Obj} {n : Nat} {r : V} {os : List (Option E.Obj)} (h1 : ∀ c, Contract P f (.val (.slice none 0 c) :: args) objs r os) (h2 : ∀ A c, Contract P f (.val (.slice (some A) 0 c) :: args) objs r os) : Contract P f (.sl n [] :: args) objs r os := by
  refine ⟨(h1 0).goes, fun w G X τ vals hm hX ha => ?_⟩
  cases hv : vals.toList with
  | nil => rw [hv] at ha; simp only [repL] at ha
  | cons x xs =>
    have ha' := ha
    rw [hv] at ha
    simp only [repL] at ha
    have h := ha.1
    simp only [V.rep, V.repI] at h
    obtain ⟨a, cap, hx, _, _⟩ := h
    cases a with
    | some A =>
      refine (h2 A cap).calls w G X τ vals hm hX ?_
      rw [hv]
      simp only [repL]
      exact ⟨by simp only [V.rep, V.repI]; exact hx, ha.2⟩
    | none =>
      refine (h1 cap).calls w G X τ vals hm hX ?_
      rw [hv]
      simp only [repL]
      exact ⟨by simp only [V.rep, V.repI]; exact hx, ha.2⟩

/-- A slice that is nil is one without rows. -/
theorem Contract.ofNil {P : Program} {f : FuncId} {args : List V} {objs : List E.Obj} {n c : Nat} {r : V} {os : List (Option E.Obj)} (h : Contract P f (.sl n [] :: args) objs r os) : Contract P f (.val (.slice none 0 c) :: args) objs r os := by
  refine ⟨h.goes, fun w G X τ vals hm hX ha => h.calls w G X τ vals hm hX ?_⟩
  cases hv : vals.toList with
  | nil => rw [hv] at ha; simp only [repL] at ha
  | cons x xs =>
    rw [hv] at ha
    simp only [repL] at ha ⊢
    refine ⟨?_, ha.2⟩
    have h := ha.1
    simp only [V.rep, V.repI] at h ⊢
    exact ⟨none, c, h, Nat.zero_le _, .inl trivial⟩

/-- What is made and owned may be read only from then on. -/
theorem Contract.froze {P : Program} {f : FuncId} {args : List V} {n : Nat} {rows : List (List V)} (h : Contract P f args [] (.own 0) [some (.arr n rows)]) : Contract P f args [] (.sl n rows) [] := by
  refine ⟨h.goes, fun w G X τ vals hm hX ha => Calls.mono (h.calls w G X τ vals hm hX ha) ?_⟩
  rintro e w' ⟨v, G', τ', rfl, h1, h2, h3, h4⟩
  have hok := h4.ok 0 _ rfl
  simp only [Obj.ok, rowsOk] at hok
  simp only [V.rep, Gh.hdr] at h3
  have hmo : ∀ b, G' b → (G' b ∨ (τ' 0).blk = some b) ∧ w'.heap[b]? = w'.heap[b]? := fun b hb => ⟨.inl hb, rfl⟩
  refine ⟨v, fun b => G' b ∨ (τ' 0).blk = some b, τ', rfl, ⟨h1.os, h1.tape, h1.output, h1.size, h1.block, fun b hb => ⟨.inl (h1.keep b hb).1, (h1.keep b hb).2⟩, ?_⟩, fun i hi => by simp at hi, ?_, ⟨?_, ?_, ?_, ?_, Sub.plain (fun i p hi => by simp [objsAt'] at hi)⟩⟩
  · rintro b (hb | hb)
    · exact h1.grow b hb
    · rcases h4.own 0 _ b rfl hb with h | h
      · exact .inr (.inr h)
      · exact .inr (.inl h)
  · simp only [V.rep, V.repI]
    rw [h3, hok.1]
    refine ⟨_, _, rfl, hok.2.1, ?_⟩
    rcases hok.2.2 with ⟨_, _, hc⟩ | ⟨b, xs, t, fz, hb, ha', _, _, _, _, hr⟩
    · left
      have := hok.2.1
      rw [hc] at this
      exact List.length_eq_zero_iff.1 (by omega)
    · exact .inr ⟨b, 0, ha', .inr hb, repRows_mono hmo n b rfl 0 rows hr⟩
  · rintro b (hb | hb)
    · exact h4.gold b hb
    · rcases hok.2.2 with ⟨hn, _⟩ | ⟨b', xs, t, fz, hb', _, hh, _⟩
      · rw [hn] at hb; cases hb
      · rw [hb'] at hb; cases hb
        exact (Array.getElem?_eq_some_iff.1 hh).1
  · intro i o hi; simp [objsAt'] at hi
  · intro i o b hi; simp [objsAt'] at hi
  · intro i j o o' b hi; simp [objsAt'] at hi

/-! ### what is said less exactly -/

/-- Whatever is said by the one is said by the other. -/
def subV (a b : V) : Prop := ∀ (w : World) (G : Nat → Prop) (x : Value), a.repI w G x → b.repI w G x
def subR : List V → List V → Prop
  | [], [] => True
  | a :: as, b :: bs => subV a b ∧ subR as bs
  | _, _ => False
def subRs : List (List V) → List (List V) → Prop
  | [], [] => True
  | a :: as, b :: bs => subR a b ∧ subRs as bs
  | _, _ => False
theorem subV.rfl {a : V} : subV a a := fun _ _ _ h => h
theorem subR.rfl : ∀ {a : List V}, subR a a
  | [] => trivial
  | _ :: _ => ⟨subV.rfl, subR.rfl⟩
theorem subV.nil {n c : Nat} : subV (.val (.slice none 0 c)) (.sl n []) := by
  intro w G x h
  simp only [V.repI] at h ⊢
  exact ⟨none, c, h, Nat.zero_le _, .inl trivial⟩
theorem subR.last {cs : List V} {a b : V} (h : subV a b) : subR (cs ++ [a]) (cs ++ [b]) := by
  induction cs with
  | nil => exact ⟨h, trivial⟩
  | cons c cs ih => exact ⟨subV.rfl, ih⟩
theorem subR.len : ∀ {a b : List V}, subR a b → a.length = b.length
  | [], [], _ => Eq.refl _
  | _ :: _, _ :: _, h => by simp [subR.len h.2]
  | [], _ :: _, h => h.elim
  | _ :: _, [], h => h.elim
theorem subRs.len : ∀ {a b : List (List V)}, subRs a b → a.length = b.length
  | [], [], _ => Eq.refl _
  | _ :: _, _ :: _, h => by simp [subRs.len h.2]
  | [], _ :: _, h => h.elim
  | _ :: _, [], h => h.elim
theorem subR.cells {w : World} {G : Nat → Prop} {b : Nat} : ∀ {cs ds : List V}, subR cs ds → ∀ {o : Nat}, repCells w G b o cs → repCells w G b o ds
  | [], [], _, _, h => h
  | c :: cs, d :: ds, hs, o, h => by
    simp only [repCells] at h ⊢
    obtain ⟨⟨x, h1, h2, h3⟩, h4⟩ := h
    exact ⟨⟨x, h1, h2, hs.1 w G x h3⟩, hs.2.cells h4⟩
  | [], _ :: _, h, _, _ => h.elim
  | _ :: _, [], h, _, _ => h.elim
theorem subRs.rows {w : World} {G : Nat → Prop} {n b : Nat} : ∀ {rs ss : List (List V)}, subRs rs ss → ∀ {o : Nat}, repRows w G n b o rs → repRows w G n b o ss
  | [], [], _, _, h => h
  | c :: cs, d :: ds, hs, o, h => by
    simp only [repRows] at h ⊢
    exact ⟨by rw [← hs.1.len]; exact h.1, hs.1.cells h.2.1, hs.2.rows h.2.2⟩
  | [], _ :: _, h, _, _ => h.elim
  | _ :: _, [], h, _, _ => h.elim
theorem subRs.sl {n : Nat} {rs ss : List (List V)} (h : subRs rs ss) : subV (.sl n rs) (.sl n ss) := by
  intro w G x hx
  simp only [V.repI] at hx ⊢
  obtain ⟨a, cap, h1, h2, h3⟩ := hx
  refine ⟨a, cap, by rw [← h.len]; exact h1, by rw [← h.len]; exact h2, ?_⟩
  rcases h3 with h3 | ⟨b, o, h4, h5, h6⟩
  · subst h3
    cases ss with
    | nil => exact .inl _root_.rfl
    | cons _ _ => exact h.elim
  · exact .inr ⟨b, o, h4, h5, h.rows h6⟩
def subA (a b : V) : Prop := ∀ (w : World) (G : Nat → Prop) (τ : Nat → Gh) (x : Value), a.rep w G τ x → b.rep w G τ x
theorem subA.rfl {a : V} : subA a a := fun _ _ _ _ h => h
theorem subA.nil {n c : Nat} : subA (.val (.slice none 0 c)) (.sl n []) := by
  intro w G τ x h
  simp only [V.rep] at h ⊢
  exact subV.nil w G x h
theorem subRs.arg {n : Nat} {rs ss : List (List V)} (h : subRs rs ss) : subA (.sl n rs) (.sl n ss) := by
  intro w G τ x hx
  simp only [V.rep] at hx ⊢
  exact h.sl w G x hx
def subAs : List V → List V → Prop
  | [], [] => True
  | a :: as, b :: bs => subA a b ∧ subAs as bs
  | _, _ => False
theorem subAs.rfl : ∀ {a : List V}, subAs a a
  | [] => trivial
  | _ :: _ => ⟨subA.rfl, subAs.rfl⟩
theorem subAs.repL {w : World} {G : Nat → Prop} {τ : Nat → Gh} : ∀ {as bs : List V} {xs : List Value}, subAs as bs → E.repL w G τ as xs → E.repL w G τ bs xs
  | [], [], _, _, h => h
  | a :: as, b :: bs, [], _, h => by simp only [E.repL] at h
  | a :: as, b :: bs, x :: xs, hs, h => by
    simp only [E.repL] at h ⊢
    exact ⟨hs.1 w G τ x h.1, hs.2.repL h.2⟩
  | [], _ :: _, _, h, _ => h.elim
  | _ :: _, [], _, h, _ => h.elim
/-- A contract for arguments of which less is known is one for those of which more is. -/
theorem Contract.subs {P : Program} {f : FuncId} {args args' : List V} {objs : List E.Obj} {r : V} {os : List (Option E.Obj)} (h : Contract P f args objs r os) (hs : subAs args' args) : Contract P f args' objs r os :=
  ⟨h.goes, fun w G X τ vals hm hX ha => h.calls w G X τ vals hm hX (hs.repL ha)⟩

def idxI {α : Type} (p : α → Bool) (l : List α) : Int := match l.findIdx? p with
  | some j => (j : Int)
  | none => -1

theorem del1 {rows : List (List V)} {i b m : Nat} (hb : b = i) (hi : i ≤ m) : over rows b (List.take (rows.length - m) (List.drop m rows)) = rows.take i ++ rows.drop m ++ rows.drop (i + (rows.length - m)) := by
  subst hb
  rw [List.take_of_length_le (by simp)]
  unfold over
  simp
theorem del2 {rows : List (List V)} {z : List V} {i j : Nat} (hi : i ≤ j) (hj : j ≤ rows.length) :
    over (rows.take i ++ rows.drop j ++ rows.drop (i + (rows.length - j))) (i + (rows.length - j)) (List.replicate (rows.length - (i + (rows.length - j))) z) = rows.take i ++ rows.drop j ++ List.replicate (j - i) z := by
  have e1 : rows.length - (i + (rows.length - j)) = j - i := by omega
  have e2 : List.drop (i + (rows.length - j) + (j - i)) rows = [] := List.drop_of_length_le (by omega)
  rw [over_app (by simp; omega), e1]
  simp only [List.length_replicate, List.drop_drop, e2, List.append_nil]
theorem del3 {rows : List (List V)} {z : List V} {i j : Nat} (hi : i ≤ j) (hj : j ≤ rows.length) :
    List.take (i + (rows.length - j)) (rows.take i ++ rows.drop j ++ List.replicate (j - i) z) = rows.take i ++ rows.drop j := by
  rw [List.take_left' (by simp; omega)]

/-- A loop that goes through a list. -/
theorem LoopC.fold {P : Program} {k n : Nat} {c : Code} {α σ : Type} (l : List α) (step : σ → α → σ) (inv : Nat → σ → Prop) (S : σ → Nat → SL) {e : Ex} (he : e ≠ .normal)
    (hround : ∀ (i : Nat) (s : σ) (x : α), l[i]? = some x → i < l.length → inv i s → CodeC P k n c (S s i) .normal (S (step s x) (i + 1)) ∧ inv (i + 1) (step s x))
    (hend : ∀ s, inv l.length s → CodeC P k n c (S s l.length) e (S s l.length)) (s : σ) (h0 : inv 0 s) : LoopC P k n c (S s 0) e (S (l.foldl step s) l.length) := by
  have key : ∀ (m i : Nat) (s : σ), i + m = l.length → inv i s → LoopC P k n c (S s i) e (S ((l.drop i).foldl step s) l.length) := by
    intro m
    induction m with
    | zero =>
      intro i s hi h
      have : i = l.length := by omega
      subst this
      rw [List.drop_length]
      exact LoopC.last (hend s h) he
    | succ m ih =>
      intro i s hi h
      have hlt : i < l.length := by omega
      obtain ⟨r, h'⟩ := hround i s l[i] (by simp [hlt]) hlt h
      rw [List.drop_eq_getElem_cons hlt, List.foldl_cons]
      exact LoopC.next r (ih (i + 1) _ (by omega) h')
  have := key l.length 0 s (by omega) h0
  simpa only [List.drop_zero] using this

/-- What holds all along. -/
theorem foldl_inv {α σ : Type} (step : σ → α → σ) (inv : Nat → σ → Prop) : ∀ (l : List α) (i : Nat) (s : σ), inv i s → (∀ i s x, x ∈ l → inv i s → inv (i + 1) (step s x)) → inv (i + l.length) (l.foldl step s)
  | [], i, s, h, _ => h
  | x :: l, i, s, h, hs => by
    rw [List.foldl_cons, List.length_cons, show i + (l.length + 1) = (i + 1) + l.length by omega]
    exact foldl_inv step inv l (i + 1) _ (hs i s x (by simp) h) fun i s y hy => hs i s y (by simp [hy])

theorem u64_small {n : Int} (h : 0 ≤ n ∧ n ≤ 9223372036854775807) : IntKind.u64.wrap n = n := by
  simp only [IntKind.wrap]
  simp [IntKind.signed, IntKind.bits]
  omega

theorem clear1 {α : Type} {f : α → List V} {R : List α} {L i a m : Nat} {z : List V} (hR : R.length = L) (hi : i ≤ L) (ha : a = i) (hm : m = L - i) : over (R.map f) a (List.replicate m z) = (R.take i).map f ++ List.replicate (L - i) z := by
  subst ha hm
  unfold over
  rw [List.drop_of_length_le (by simp; omega)]
  simp [List.map_take]
theorem clear2 {α : Type} {f : α → List V} {R K : List α} {L i m : Nat} {z : List V} (hR : R.length = L) (hi : i ≤ L) (hK : R.take i = K) (hm : m = i) : List.take m ((R.take i).map f ++ List.replicate (L - i) z) = K.map f := by
  subst hm
  rw [List.take_left' (by simp; omega), hK]
theorem setRow {α : Type} (f : α → List V) (R : List α) (i : Nat) (x : α) : (R.map f).set i (f x) = (R.set i x).map f := by simp [List.map_set]

/-- A loop that goes through a list and may stop at an element. -/
theorem LoopC.search {P : Program} {k n : Nat} {c : Code} {α : Type} (l : List α) (bad : Nat → α → Bool) (S T : Nat → SL) {e1 e2 : Ex} (he1 : e1 ≠ .normal) (he2 : e2 ≠ .normal)
    (hgo : ∀ (i : Nat) (x : α), l[i]? = some x → i < l.length → bad i x = false → CodeC P k n c (S i) .normal (S (i + 1)))
    (hstop : ∀ (i : Nat) (x : α), l[i]? = some x → i < l.length → bad i x = true → CodeC P k n c (S i) e1 (T i))
    (hend : CodeC P k n c (S l.length) e2 (S l.length)) :
    (∃ i x, l[i]? = some x ∧ bad i x = true ∧ (∀ j y, j < i → l[j]? = some y → bad j y = false) ∧ LoopC P k n c (S 0) e1 (T i)) ∨ ((∀ i x, l[i]? = some x → bad i x = false) ∧ LoopC P k n c (S 0) e2 (S l.length)) := by
  have key : ∀ (m i : Nat), i + m = l.length → (∀ j y, j < i → l[j]? = some y → bad j y = false) →
      (∃ i' x, l[i']? = some x ∧ bad i' x = true ∧ (∀ j y, j < i' → l[j]? = some y → bad j y = false) ∧ LoopC P k n c (S i) e1 (T i')) ∨ ((∀ i x, l[i]? = some x → bad i x = false) ∧ LoopC P k n c (S i) e2 (S l.length)) := by
    intro m
    induction m with
    | zero =>
      intro i hi h
      have : i = l.length := by omega
      subst this
      refine .inr ⟨fun j y hy => h j y (List.getElem?_eq_some_iff.1 hy).1 hy, LoopC.last hend he2⟩
    | succ m ih =>
      intro i hi h
      have hlt : i < l.length := by omega
      have hx : l[i]? = some l[i] := List.getElem?_eq_getElem hlt
      cases hb : bad i l[i] with
      | true => exact .inl ⟨i, l[i], hx, hb, h, LoopC.last (hstop i l[i] hx hlt hb) he1⟩
      | false =>
        have h' : ∀ j y, j < i + 1 → l[j]? = some y → bad j y = false := by
          intro j y hj hy
          by_cases e : j = i
          · subst e
            rw [hx] at hy
            cases hy
            exact hb
          · exact h j y (by omega) hy
        rcases ih (i + 1) (by omega) h' with ⟨i', x, k1, k2, k3, k4⟩ | ⟨k1, k2⟩
        · exact .inl ⟨i', x, k1, k2, k3, LoopC.next (hgo i l[i] hx hlt hb) k4⟩
        · exact .inr ⟨k1, LoopC.next (hgo i l[i] hx hlt hb) k2⟩
  exact key l.length 0 (by omega) (fun j y hj => by omega)

theorem find_first {α : Type} {p : α → Bool} {l : List α} {i : Nat} {x : α} (h : l[i]? = some x) (hp : p x = true) (hf : ∀ (j : Nat) (y : α), j < i → l[j]? = some y → p y = false) : l.find? p = some x := by
  induction l generalizing i with
  | nil => simp at h
  | cons y l ih =>
    rw [List.find?_cons]
    cases i with
    | zero =>
      simp at h
      subst h
      rw [hp]
    | succ i =>
      rw [hf 0 y (by omega) (by simp)]
      exact ih (by simpa using h) fun j z hj hz => hf (j + 1) z (by omega) (by simpa using hz)
theorem find_none {α : Type} {p : α → Bool} {l : List α} (h : ∀ (i : Nat) (x : α), l[i]? = some x → p x = false) : l.find? p = none := by
  rw [List.find?_eq_none]
  intro x hx
  obtain ⟨i, hi⟩ := List.getElem?_of_mem hx
  simp [h i x hi]

theorem tf (b : Bool) : b = true ∨ b = false := by cases b <;> simp
theorem Contract.cast {P : Program} {f : FuncId} {args : List V} {objs : List E.Obj} {r r' : V} {os os' : List (Option E.Obj)} (hr : r = r') (ho : os = os') (h : Contract P f args objs r' os') : Contract P f args objs r os := by subst hr; subst ho; exact h
theorem CodeC.cast {P : Program} {k n : Nat} {c : Code} {s0 s s' : SL} {e : Ex} (hs : s = s') (h : CodeC P k n c s0 e s') : CodeC P k n c s0 e s := by subst hs; exact h

end Go.Proofs.Ythhggnnfiohnpaa.E

