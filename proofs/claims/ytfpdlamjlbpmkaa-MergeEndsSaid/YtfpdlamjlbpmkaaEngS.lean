/- The engine, part S: code, loops, functions. -/
import Derived.Test.YtfpdlamjlbpmkaaEngY
import Derived.Scope
namespace Go.Proofs.Ytfpdlamjlbpmkaa.E
open Go
set_option linter.unusedSimpArgs false

/-! ### Loops -/

theorem wp_of_loopWp {P : Program} {c : Code} {Q : Exit → Act → World → Prop} {a : Act} {w : World} (h : loopWp P c Q a w) : (Code.loop c).wp P Q a w :=
  fun b k cs => let ⟨e, a', w', q, r⟩ := h b k cs; ⟨e, a', w', q, .of_steps (.one step_loop) r⟩

theorem loopWp_step {P : Program} {c : Code} {Q : Exit → Act → World → Prop} {a : Act} {w : World} (h : c.wp P (Exit.then (loopWp P c Q) Q) a w) : loopWp P c Q a w := by
  intro b k cs
  obtain ⟨e, a₁, w₁, hq, harr⟩ := h b (.inLoop c :: k) cs
  cases e with
  | normal =>
    obtain ⟨e₂, a₂, w₂, hq₂, harr₂⟩ := hq b k cs
    exact ⟨e₂, a₂, w₂, hq₂, .of_steps (Steps.trans harr (.one step_inLoop)) harr₂⟩
  | exit id => exact ⟨_, a₁, w₁, hq, .pass (x := .inLoop c) rfl (fun _ _ => .inl (by simp)) harr⟩
  | goto l => exact ⟨_, a₁, w₁, hq, .pass (x := .inLoop c) rfl (fun _ _ => .inl (by simp)) harr⟩
  | ret => exact ⟨_, a₁, w₁, hq, .pass (x := .inLoop c) rfl (fun _ _ => .inl (by simp)) harr⟩
  | panic ch => exact ⟨_, a₁, w₁, hq, .pass (x := .inLoop c) rfl (fun _ _ => .inl (by simp)) harr⟩
  | outgrown => exact ⟨_, a₁, w₁, hq, .pass (x := .inLoop c) rfl (fun _ _ => .inl (by simp)) harr⟩

theorem loopWp_mono {P : Program} {c : Code} {Q Q' : Exit → Act → World → Prop} {a : Act} {w : World} (h : loopWp P c Q a w) (hq : ∀ e a w, Q e a w → Q' e a w) : loopWp P c Q' a w :=
  fun b k cs => let ⟨e, a', w', q, r⟩ := h b k cs; ⟨e, a', w', hq _ _ _ q, r⟩

/-- Where a run ends. -/
def Post (base : Nat) (X G : Nat → Prop) (τ : Nat → Gh) (w : World) (k : Nat) (σ' : S) (e : Ex) : Exit → Act → World → Prop :=
  fun e' a' w' => e' = e.at ∧ ∃ G' τ', St base X G' τ' σ' a' w' ∧ Ext base X G w G' w' ∧ ∀ i, i < k → τ' i = τ i

theorem Post.after {base : Nat} {X G G1 : Nat → Prop} {τ τ1 : Nat → Gh} {w w1 : World} {k : Nat} {σ' : S} {e : Ex} (he : Ext base X G w G1 w1) (ht : ∀ i, i < k → τ1 i = τ i) : ∀ e' a' w', Post base X G1 τ1 w1 k σ' e e' a' w' → Post base X G τ w k σ' e e' a' w' := by
  rintro e' a' w' ⟨h1, G', τ', h2, h3, h4⟩
  exact ⟨h1, G', τ', h2, he.trans h3, fun i hi => (h4 i hi).trans (ht i hi)⟩

theorem putSt_kept : ∀ {ws : List (Nat × Option E.Obj)} {st : Nat → Option E.Obj} {i : Nat}, i ∉ ws.map (·.1) → putSt st ws i = st i
  | [], _, _, _ => rfl
  | (j, o) :: ws, st, i, h => by
    simp only [List.map_cons, List.mem_cons, not_or] at h
    simp only [putSt]
    rw [putSt_kept h.2]
    have : (i == j) = false := by simpa using h.1
    simp [this]

theorem runOps_keeps {P : Program} {rid : Nat} {ops : Array Oper} {sc : List (Nat × List Ans × Option Bool)} : ∀ {is : List Nat} {σ σ' : S} {ls : List Log}, runOps P rid ops sc is σ = some (σ', ls) →
      σ'.n = σ.n ∧ (∀ t, t ∉ dstsOps ops → σ'.env t = σ.env t) ∧ ∃ pre, σ'.ids = pre ++ σ.ids ∧ ∀ i, i ∉ touchedAll ls → σ'.st i = σ.st i
  | [], σ, σ', ls, h => by
    simp only [runOps, Option.some.injEq, Prod.mk.injEq] at h
    obtain ⟨rfl, _⟩ := h
    exact ⟨rfl, fun _ _ => rfl, [], rfl, fun _ _ => rfl⟩
  | i :: is, σ, σ', ls, h => by
    obtain ⟨o, l, ls', h1, _, _, _, _, _, h7, h8⟩ := runOps_cons h
    obtain ⟨g1, g2, pre, g3, g4⟩ := runOps_keeps h8
    refine ⟨g1, fun t ht => ?_, pre ++ l.new, by rw [g3, List.append_assoc], fun j hj => ?_⟩
    · rw [g2 t ht]
      show putEnv σ.env o.dst l.v t = σ.env t
      cases hd : o.dst with
      | none => rfl
      | some d =>
        have : (t == d) = false := by
          simp only [beq_eq_false_iff_ne]
          rintro rfl
          refine ht (List.mem_filterMap.2 ⟨o, ?_, hd⟩)
          exact Array.mem_toList_iff.2 (Array.mem_of_getElem? h1)
        simp [putEnv, this]
    · subst h7
      simp only [touchedAll, List.mem_append, not_or] at hj
      rw [g4 j hj.2]
      exact putSt_kept hj.1

theorem runRegion_keeps {P : Program} {rid : Nat} {ops : Array Oper} {draw : Bool} {sc : List (Nat × List Ans × Option Bool)} {σ σ' : S} {ps : List Prop} (h : runRegion P rid ops draw sc σ = some (σ', ps)) : σ'.n = σ.n ∧ Kept (dstsOps ops) σ σ' := by
  have key : ∀ {σ2 : S} {ls : List Log}, runOps P rid ops sc (List.range ops.size) σ = some (σ2, ls) → (σ2.more (touchedAll ls)).n = σ.n ∧ Kept (dstsOps ops) σ (σ2.more (touchedAll ls)) := by
    intro σ2 ls hr
    obtain ⟨g1, g2, pre, g3, g4⟩ := runOps_keeps hr
    exact ⟨g1, g2, touchedAll ls ++ pre, by simp only [S.more, g3, List.append_assoc], fun i hi => g4 i fun hm => hi (List.mem_append.2 (.inl hm))⟩
  unfold runRegion at h
  split at h
  · simp at h
  · rename_i σ2 ls hr
    cases draw with
    | false =>
      simp only [cond_false, Option.some.injEq, Prod.mk.injEq] at h
      obtain ⟨rfl, rfl⟩ := h
      exact key hr
    | true =>
      simp only [cond_true] at h
      cases hb : edgesBack ops && calmAt ops (aheadOf ops) ((List.range ops.size).zip (ops.toList.zip ls)) with
      | false => simp only [hb, cond_false, reduceCtorEq] at h
      | true =>
        simp only [hb, cond_true, Option.some.injEq, Prod.mk.injEq] at h
        obtain ⟨rfl, rfl⟩ := h
        exact key hr

theorem runFk_keeps {P : Program} {rid : Nat} {ops : Array Oper} {draw : Bool} {au : List (Nat × List Ans × Option Bool)} : ∀ {fk : Fk} {σ σ' : S} {ps : List Prop}, runFk P rid ops draw au fk σ = some (σ', ps) → σ'.n = σ.n ∧ Kept (dstsOps ops) σ σ'
  | .leaf as, σ, σ', ps, h => runRegion_keeps h
  | .node B l r, σ, σ', ps, h => by
    simp only [runFk] at h
    split at h
    · simp only [Option.some.injEq, Prod.mk.injEq] at h
      obtain ⟨rfl, rfl⟩ := h
      exact ⟨rfl, Kept.merge⟩
    · simp at h

theorem plain_tab {sc sc' : List It} (h : sc.all It.plain = true) : (sc ++ tabTail sc').all It.plain = true := by
  simp [h, tabTail, It.plain]

theorem mergeR_spec {B : Bool} {σ σ' : S} {D : List Nat} {rest sc' : List It} {r1 r2 : Res} {e : Ex} {ps : List Prop} (h : mergeR B σ D rest r1 r2 = some (e, σ', sc', ps)) :
    ∃ σ1 σ2 s1 s2 ps1 ps2, r1 = some (e, σ1, s1, ps1) ∧ r2 = some (e, σ2, s2, ps2) ∧ σ' = mergeS B σ D σ1 σ2 ∧ sc' = rest ∧ ps = orP B ps1 ps2 := by
  unfold mergeR at h
  split at h
  · rename_i e1 σ1 s1 qs1 e2 σ2 s2 qs2
    cases hb0 : doneSc s1 && doneSc s2 && e1.same e2 with
    | false => simp only [hb0, cond_false, reduceCtorEq] at h
    | true =>
      simp only [hb0, cond_true, Option.some.injEq, Prod.mk.injEq] at h
      obtain ⟨rfl, rfl, rfl, rfl⟩ := h
      have hb : e1.same e2 = true := by simp only [Bool.and_eq_true] at hb0; exact hb0.2
      have : e2 = e1 := by
        unfold Ex.same at hb
        split at hb
        · rfl
        · rename_i i j; rw [show i = j by simpa using hb]
        · rfl
        · simp at hb
      subst this
      exact ⟨σ1, σ2, s1, s2, qs1, qs2, rfl, rfl, rfl, rfl, rfl⟩
  · simp at h

theorem inBlk_spec {id : Nat} {r : Res} {e : Ex} {σ : S} {sc : List It} {ps : List Prop} (h : inBlk id r = some (e, σ, sc, ps)) : ∃ e0, r = some (e0, σ, sc, ps) ∧ ((e0 = .exit id ∧ e = .normal) ∨ (e0 ≠ .exit id ∧ e = e0)) := by
  unfold inBlk at h
  split at h
  · rename_i id' σ' sc' ps'
    cases hb : id' == id with
    | true =>
      simp only [hb, cond_true, Option.some.injEq, Prod.mk.injEq] at h
      obtain ⟨rfl, rfl, rfl, rfl⟩ := h
      have : id' = id := by simpa using hb
      subst this
      exact ⟨_, rfl, .inl ⟨rfl, rfl⟩⟩
    | false =>
      simp only [hb, cond_false, Option.some.injEq, Prod.mk.injEq] at h
      obtain ⟨rfl, rfl, rfl, rfl⟩ := h
      have : id' ≠ id := by simpa using hb
      exact ⟨_, rfl, .inr ⟨fun h => this (by cases h; rfl), rfl⟩⟩
  · rename_i hne
    refine ⟨e, h, .inr ⟨?_, rfl⟩⟩
    rintro rfl
    exact hne _ _ _ _ h

theorem iter_keeps {D : List Nat} {f : List It → S → Res} (hf : ∀ sc σ e σ' sc' ps, f sc σ = some (e, σ', sc', ps) → sc.all It.plain = true → sc'.all It.plain = true ∧ σ'.n = σ.n ∧ Kept D σ σ') :
    ∀ (m : Nat) (sc : List It) (σ : S) (e : Ex) (σ' : S) (sc' : List It) (ps : List Prop), iter f m sc σ = some (e, σ', sc', ps) → sc.all It.plain = true → sc'.all It.plain = true ∧ σ'.n = σ.n ∧ Kept D σ σ'
  | 0, _, _, _, _, _, _, h, _ => by simp [iter] at h
  | m + 1, sc, σ, e, σ', sc', ps, h, hp => by
    simp only [iter] at h
    split at h
    · simp at h
    · rename_i σ1 sc1 ps1 h1
      split at h
      · simp at h
      · rename_i e2 σ2 sc2 qs h2
        simp only [Option.some.injEq, Prod.mk.injEq] at h
        obtain ⟨rfl, rfl, rfl, rfl⟩ := h
        obtain ⟨g1, g2, g3⟩ := hf _ _ _ _ _ _ h1 hp
        obtain ⟨k1, k2, k3⟩ := iter_keeps hf m sc1 σ1 e2 σ2 sc2 qs h2 g1
        exact ⟨k1, k2.trans g2, (g3.trans k3).mono fun t ht => by simpa using ht⟩
    · rename_i e1 σ1 sc1 ps1 hne h1
      simp only [Option.some.injEq, Prod.mk.injEq] at h
      obtain ⟨rfl, rfl, rfl, rfl⟩ := h
      exact hf _ _ _ _ _ _ h1 hp

theorem tailAt_plain {P : Program} {k : Nat} {b : Code} {sc : List It} {σ : S} (h : sc.all It.plain = true) : tailAt P k b sc σ = none := by
  unfold tailAt
  split
  · simp [It.plain] at h
  · rfl

theorem runC_keeps {P : Program} {k : Nat} : ∀ (c : Code) (sc : List It) (σ : S) (e : Ex) (σ' : S) (sc' : List It) (ps : List Prop), runC P k c sc σ = some (e, σ', sc', ps) → sc.all It.plain = true → sc'.all It.plain = true ∧ σ'.n = σ.n ∧ Kept (dstsC c) σ σ'
  | .skip, sc, σ, e, σ', sc', ps, h, hp => by
    simp only [runC, Option.some.injEq, Prod.mk.injEq] at h
    obtain ⟨rfl, rfl, rfl, rfl⟩ := h
    exact ⟨hp, rfl, Kept.refl _ _⟩
  | .exit id, sc, σ, e, σ', sc', ps, h, hp => by
    simp only [runC, Option.some.injEq, Prod.mk.injEq] at h
    obtain ⟨rfl, rfl, rfl, rfl⟩ := h
    exact ⟨hp, rfl, Kept.refl _ _⟩
  | .ret, sc, σ, e, σ', sc', ps, h, hp => by
    simp only [runC, Option.some.injEq, Prod.mk.injEq] at h
    obtain ⟨rfl, rfl, rfl, rfl⟩ := h
    exact ⟨hp, rfl, Kept.refl _ _⟩
  | .region rid ops draw, sc, σ, e, σ', sc', ps, h, hp => by
    have key : ∀ as rest, rest.all It.plain = true → (match runRegion P rid ops draw as σ with
      | some (σ', ps) => some (Ex.normal, σ', rest, ps)
      | none => (none : Res)) = some (e, σ', sc', ps) → sc'.all It.plain = true ∧ σ'.n = σ.n ∧ Kept (dstsC (.region rid ops draw)) σ σ' := by
      intro as rest hrest h
      split at h
      · rename_i σ2 ps2 h2
        simp only [Option.some.injEq, Prod.mk.injEq] at h
        obtain ⟨rfl, rfl, rfl, rfl⟩ := h
        exact ⟨hrest, runRegion_keeps h2⟩
      · simp at h
    unfold runC at h
    split at h
    · rename_i id' as rest
      have hrest : rest.all It.plain = true := by simp only [List.all_cons, Bool.and_eq_true] at hp; exact hp.2
      cases hb : id' == rid with
      | true => simp only [hb, cond_true] at h; exact key _ _ hrest h
      | false => simp only [hb, cond_false] at h; exact key _ _ hp h
    · rename_i id' fk rest
      have hrest : rest.all It.plain = true := by simp only [List.all_cons, Bool.and_eq_true] at hp; exact hp.2
      cases hb : id' == rid with
      | true =>
        simp only [hb, cond_true] at h
        split at h
        · rename_i σ2 ps2 h2
          simp only [Option.some.injEq, Prod.mk.injEq] at h
          obtain ⟨rfl, rfl, rfl, rfl⟩ := h
          exact ⟨hrest, runFk_keeps h2⟩
        · simp at h
      | false => simp only [hb, cond_false] at h; exact key _ _ hp h
    · exact key _ _ hp h
  | .seq x y, sc, σ, e, σ', sc', ps, h, hp => by
    simp only [runC] at h
    split at h
    · simp at h
    · rename_i σ1 sc1 ps1 h1
      rw [tailAt_plain (runC_keeps x _ _ _ _ _ _ h1 hp).1] at h
      dsimp only at h
      split at h
      · simp at h
      · rename_i e2 σ2 sc2 qs h2
        simp only [Option.some.injEq, Prod.mk.injEq] at h
        obtain ⟨rfl, rfl, rfl, rfl⟩ := h
        obtain ⟨g1, g2, g3⟩ := runC_keeps x _ _ _ _ _ _ h1 hp
        obtain ⟨k1, k2, k3⟩ := runC_keeps y _ _ _ _ _ _ h2 g1
        exact ⟨k1, k2.trans g2, g3.trans k3⟩
    · rename_i e1 σ1 sc1 ps1 hne h1
      simp only [Option.some.injEq, Prod.mk.injEq] at h
      obtain ⟨rfl, rfl, rfl, rfl⟩ := h
      obtain ⟨g1, g2, g3⟩ := runC_keeps x _ _ _ _ _ _ h1 hp
      exact ⟨g1, g2, g3.mono fun t ht => List.mem_append.2 (.inl ht)⟩
  | .cond c x y, sc, σ, e, σ', sc', ps, h, hp => by
    have key : (match rdO σ.env c with
      | .val (.bool true) => runC P k x sc σ
      | .val (.bool false) => runC P k y sc σ
      | _ => none) = some (e, σ', sc', ps) → sc'.all It.plain = true ∧ σ'.n = σ.n ∧ Kept (dstsC (.cond c x y)) σ σ' := by
      intro h
      split at h
      · obtain ⟨g1, g2, g3⟩ := runC_keeps x _ _ _ _ _ _ h hp
        exact ⟨g1, g2, g3.mono fun t ht => List.mem_append.2 (.inl ht)⟩
      · obtain ⟨g1, g2, g3⟩ := runC_keeps y _ _ _ _ _ _ h hp
        exact ⟨g1, g2, g3.mono fun t ht => List.mem_append.2 (.inr ht)⟩
      · simp at h
    unfold runC at h
    split at h
    · simp [It.plain] at hp
    · rename_i t sc1 sc2 rest
      cases hct : isTmp t c with
      | false => simp only [hct, cond_false] at h; exact key h
      | true =>
      simp only [hct, cond_true] at h
      simp only [List.all_cons, Bool.and_eq_true] at hp
      split at h
      · rename_i B hB
        cases hb : sc1.all It.plain && sc2.all It.plain with
        | false => simp only [hb, cond_false, reduceCtorEq] at h
        | true =>
          simp only [hb, cond_true] at h
          obtain ⟨σ1, σ2, s1, s2, ps1, ps2, _, _, rfl, rfl, _⟩ := mergeR_spec h
          exact ⟨hp.2, rfl, Kept.merge⟩
      · simp at h
    · exact key h
  | .block id body, sc, σ, e, σ', sc', ps, h, hp => by
    have key : inBlk id (runC P k body sc σ) = some (e, σ', sc', ps) → sc'.all It.plain = true ∧ σ'.n = σ.n ∧ Kept (dstsC (.block id body)) σ σ' := by
      intro h
      obtain ⟨e0, h0, _⟩ := inBlk_spec h
      exact runC_keeps body _ _ _ _ _ _ h0 hp
    unfold runC at h
    split at h
    · rename_i id' B sc1 sc2 rest
      have hrest : rest.all It.plain = true := by simp only [List.all_cons, Bool.and_eq_true] at hp; exact hp.2
      cases hb : id' == id with
      | false => simp only [hb, cond_false] at h; exact key h
      | true =>
        simp only [hb, cond_true] at h
        cases hb2 : sc1.all It.plain && sc2.all It.plain with
        | false => simp only [hb2, cond_false, reduceCtorEq] at h
        | true =>
          simp only [hb2, cond_true] at h
          obtain ⟨σ1, σ2, s1, s2, ps1, ps2, _, _, rfl, rfl, _⟩ := mergeR_spec h
          exact ⟨hrest, rfl, Kept.merge⟩
    · exact key h
  | .scope body, sc, σ, e, σ', sc', ps, h, hp => by
    simp only [runC] at h
    exact runC_keeps body _ _ _ _ _ _ h hp
  | .loop body, sc, σ, e, σ', sc', ps, h, hp => by
    unfold runC at h
    split at h
    · simp [It.plain] at hp
    · rename_i m rest
      have hrest : rest.all It.plain = true := by simp only [List.all_cons, Bool.and_eq_true] at hp; exact hp.2
      exact iter_keeps (fun sc σ e σ' sc' ps h hp => runC_keeps body sc σ e σ' sc' ps h hp) m rest σ e σ' sc' ps h hrest
    · simp at h
  | .label _, sc, σ, e, σ', sc', ps, h, _ => by simp [runC] at h
  | .goto _, sc, σ, e, σ', sc', ps, h, _ => by simp [runC] at h

/-- What a piece's run says, for every frame. -/
def Says (P : Program) (k : Nat) (c : Code) (σ : S) (e : Ex) (σ' : S) : Prop :=
  σ'.n = σ.n ∧ (∀ i, i < k → i ∈ σ'.ids) ∧ ∀ base X G τ a w, St base X G τ σ a w → c.wp P (Post base X G τ w k σ' e) a w

theorem region_says {P : Program} (hmix : P.follows .mixedOrders = true) {k : Nat} {rid : Nat} {ops : Array Oper} {draw : Bool} {sc : List (Nat × List Ans × Option Bool)} {σ σ' : S} {ps : List Prop} (hk : ∀ i, i < k → i ∈ σ.ids)
    (h : runRegion P rid ops draw sc σ = some (σ', ps)) (hp : ∀ p ∈ ps, p) : Says P k (.region rid ops draw) σ .normal σ' := by
  obtain ⟨h1, _, pre, h2, _⟩ := runRegion_keeps h
  exact ⟨h1, fun i hi => by rw [h2]; exact List.mem_append.2 (.inr (hk i hi)), fun base X G τ a w hs => runRegion_wp hmix h hp hs fun a' w' G' τ' k1 k2 k3 => ⟨rfl, G', τ', k1, k2, fun i hi => k3 i (hk i hi)⟩⟩

theorem iter_says {P : Program} {k : Nat} {body : Code} {f : List It → S → Res} (hf : ∀ sc σ e σ' sc' ps, f sc σ = some (e, σ', sc', ps) → (∀ p ∈ ps, p) → (∀ i, i < k → i ∈ σ.ids) → Says P k body σ e σ') :
    ∀ (m : Nat) (sc : List It) (σ : S) (e : Ex) (σ' : S) (sc' : List It) (ps : List Prop), iter f m sc σ = some (e, σ', sc', ps) → (∀ p ∈ ps, p) → (∀ i, i < k → i ∈ σ.ids) →
      σ'.n = σ.n ∧ (∀ i, i < k → i ∈ σ'.ids) ∧ ∀ base X G τ a w, St base X G τ σ a w → loopWp P body (Post base X G τ w k σ' e) a w
  | 0, _, _, _, _, _, _, h, _, _ => by simp [iter] at h
  | m + 1, sc, σ, e, σ', sc', ps, h, hp, hk => by
    simp only [iter] at h
    split at h
    · simp at h
    · rename_i σ1 sc1 ps1 h1
      split at h
      · simp at h
      · rename_i e2 σ2 sc2 qs h2
        simp only [Option.some.injEq, Prod.mk.injEq] at h
        obtain ⟨rfl, rfl, rfl, rfl⟩ := h
        obtain ⟨g1, g2, g3⟩ := hf _ _ _ _ _ _ h1 (fun p hm => hp p (List.mem_append.2 (.inl hm))) hk
        obtain ⟨k1, k2, k3⟩ := iter_says hf m sc1 σ1 e2 σ2 sc2 qs h2 (fun p hm => hp p (List.mem_append.2 (.inr hm))) g2
        refine ⟨k1.trans g1, k2, fun base X G τ a w hs => loopWp_step (wp_mono (g3 base X G τ a w hs) ?_)⟩
        rintro e' a' w' ⟨rfl, G', τ', q1, q2, q3⟩
        exact loopWp_mono (k3 base X G' τ' a' w' q1) (Post.after q2 q3)
    · rename_i e1 σ1 sc1 ps1 hne h1
      simp only [Option.some.injEq, Prod.mk.injEq] at h
      obtain ⟨rfl, rfl, rfl, rfl⟩ := h
      obtain ⟨g1, g2, g3⟩ := hf _ _ _ _ _ _ h1 hp hk
      refine ⟨g1, g2, fun base X G τ a w hs => loopWp_step (wp_mono (g3 base X G τ a w hs) ?_)⟩
      rintro e' a' w' ⟨rfl, hrest⟩
      cases e1 with
      | normal => exact (hne rfl).elim
      | exit id => exact ⟨rfl, hrest⟩
      | ret => exact ⟨rfl, hrest⟩

theorem Says.merge {P : Program} {k : Nat} {c : Code} {B : Bool} {σ σ1 σ2 : S} {D : List Nat} {e : Ex} (hk : ∀ i, i < k → i ∈ σ.ids) (k1 : Kept D σ σ1) (k2 : Kept D σ σ2) (h1 : B = true → Says P k c σ e σ1) (h2 : B = false → Says P k c σ e σ2)
    (n1 : σ1.n = σ.n) (n2 : σ2.n = σ.n) : Says P k c σ e (mergeS B σ D σ1 σ2) := by
  refine ⟨rfl, fun i hi => List.mem_append.2 (.inr (hk i hi)), fun base X G τ a w hs => ?_⟩
  have h : c.wp P (Post base X G τ w k (bif B then σ1 else σ2) e) a w := by
    cases B with
    | true => exact (h1 rfl).2.2 base X G τ a w hs
    | false => exact (h2 rfl).2.2 base X G τ a w hs
  refine wp_mono h ?_
  rintro e' a' w' ⟨rfl, G', τ', q1, q2, q3⟩
  exact ⟨rfl, G', τ', St.merge k1 k2 n1 n2 q1, q2, q3⟩

theorem runFk_says {P : Program} (hmix : P.follows .mixedOrders = true) {k : Nat} {rid : Nat} {ops : Array Oper} {draw : Bool} {au : List (Nat × List Ans × Option Bool)} : ∀ {fk : Fk} {σ σ' : S} {ps : List Prop}, (∀ i, i < k → i ∈ σ.ids) → runFk P rid ops draw au fk σ = some (σ', ps) → (∀ p ∈ ps, p) → Says P k (.region rid ops draw) σ .normal σ'
  | .leaf as, σ, σ', ps, hk, h, hp => region_says hmix hk h hp
  | .node B l r, σ, σ', ps, hk, h, hp => by
    simp only [runFk] at h
    split at h
    · rename_i σ1 ps1 σ2 ps2 h1 h2
      simp only [Option.some.injEq, Prod.mk.injEq] at h
      obtain ⟨rfl, rfl⟩ := h
      obtain ⟨n1, k1⟩ := runFk_keeps h1
      obtain ⟨n2, k2⟩ := runFk_keeps h2
      exact Says.merge hk k1 k2 (fun hb => runFk_says hmix hk h1 (orP_true hp hb)) (fun hb => runFk_says hmix hk h2 (orP_false hp hb)) n1 n2
    · simp at h

theorem toS_range {k n : Nat} {s : SL} (h : subset (List.range k) s.ids = true) : ∀ i, i < k → i ∈ (s.toS n).ids := fun i hi => subset_spec h i (List.mem_range.2 hi)

theorem tailAt_says {P : Program} {k : Nat} {b : Code} {sc : List It} {σ : S} {e : Ex} {σ' : S} {sc' : List It} {ps : List Prop} (h : tailAt P k b sc σ = some (some (e, σ', sc', ps))) (hp : ∀ p ∈ ps, p) : Says P k b σ e σ' := by
  unfold tailAt at h
  split at h
  · rename_i id nm e2 s2 rest
    cases hb : firstReg b == id with
    | false => simp only [hb, cond_false, reduceCtorEq] at h
    | true =>
      simp only [hb, cond_true, Option.some.injEq] at h
      split at h
      · rename_i s0 hn
        cases hb : subset (List.range k) s2.ids with
        | false => simp only [hb, cond_false, reduceCtorEq] at h
        | true =>
          simp only [hb, cond_true, Option.some.injEq, Prod.mk.injEq] at h
          obtain ⟨rfl, rfl, rfl, rfl⟩ := h
          refine ⟨rfl, toS_range hb, fun base X G τ a w hs => ?_⟩
          obtain ⟨⟨τ1, q1, q2⟩, q3⟩ := norm_St hs hn
          have hc : CodeC P k σ.n b s0 e2 s2 := hp _ (by simp)
          refine wp_mono (hc base X G τ1 a w q1) ?_
          rintro e' a' w' ⟨rfl, G', τ', r1, r2, r3⟩
          exact ⟨rfl, G', τ', r1, r2, fun i hi => (r3 i hi).trans (q2 i hi)⟩
      · simp at h
  · simp at h

theorem runC_says {P : Program} (hmix : P.follows .mixedOrders = true) {k : Nat} : ∀ (c : Code) (sc : List It) (σ : S) (e : Ex) (σ' : S) (sc' : List It) (ps : List Prop), runC P k c sc σ = some (e, σ', sc', ps) → (∀ p ∈ ps, p) → (∀ i, i < k → i ∈ σ.ids) → Says P k c σ e σ'
  | .skip, sc, σ, e, σ', sc', ps, h, _, hk => by
    simp only [runC, Option.some.injEq, Prod.mk.injEq] at h
    obtain ⟨rfl, rfl, rfl, rfl⟩ := h
    exact ⟨rfl, hk, fun base X G τ a w hs => wp_skip ⟨rfl, G, τ, hs, Ext.refl _ _ _ _, fun _ _ => rfl⟩⟩
  | .exit id, sc, σ, e, σ', sc', ps, h, _, hk => by
    simp only [runC, Option.some.injEq, Prod.mk.injEq] at h
    obtain ⟨rfl, rfl, rfl, rfl⟩ := h
    exact ⟨rfl, hk, fun base X G τ a w hs => wp_exit ⟨rfl, G, τ, hs, Ext.refl _ _ _ _, fun _ _ => rfl⟩⟩
  | .ret, sc, σ, e, σ', sc', ps, h, _, hk => by
    simp only [runC, Option.some.injEq, Prod.mk.injEq] at h
    obtain ⟨rfl, rfl, rfl, rfl⟩ := h
    exact ⟨rfl, hk, fun base X G τ a w hs => wp_ret ⟨rfl, G, τ, hs, Ext.refl _ _ _ _, fun _ _ => rfl⟩⟩
  | .region rid ops draw, sc, σ, e, σ', sc', ps, h, hp, hk => by
    have key : ∀ as rest, (match runRegion P rid ops draw as σ with
      | some (σ', ps) => some (Ex.normal, σ', rest, ps)
      | none => (none : Res)) = some (e, σ', sc', ps) → Says P k (.region rid ops draw) σ e σ' := by
      intro as rest h
      split at h
      · rename_i σ2 ps2 h2
        simp only [Option.some.injEq, Prod.mk.injEq] at h
        obtain ⟨rfl, rfl, rfl, rfl⟩ := h
        exact region_says hmix hk h2 hp
      · simp at h
    unfold runC at h
    split at h
    · rename_i id' as rest
      cases hb : id' == rid with
      | true => simp only [hb, cond_true] at h; exact key _ _ h
      | false => simp only [hb, cond_false] at h; exact key _ _ h
    · rename_i id' fk rest
      cases hb : id' == rid with
      | true =>
        simp only [hb, cond_true] at h
        split at h
        · rename_i σ2 ps2 h2
          simp only [Option.some.injEq, Prod.mk.injEq] at h
          obtain ⟨rfl, rfl, rfl, rfl⟩ := h
          exact runFk_says hmix hk h2 hp
        · simp at h
      | false => simp only [hb, cond_false] at h; exact key _ _ h
    · exact key _ _ h
  | .seq x y, sc, σ, e, σ', sc', ps, h, hp, hk => by
    simp only [runC] at h
    split at h
    · simp at h
    · rename_i σ1 sc1 ps1 h1
      split at h
      · simp at h
      · rename_i e2 σ2 sc2 qs h2
        simp only [Option.some.injEq, Prod.mk.injEq] at h
        obtain ⟨rfl, rfl, rfl, rfl⟩ := h
        obtain ⟨g1, g2, g3⟩ := runC_says hmix x _ _ _ _ _ _ h1 (fun p hm => hp p (List.mem_append.2 (.inl hm))) hk
        obtain ⟨k1, k2, k3⟩ := tailAt_says h2 (fun p hm => hp p (List.mem_append.2 (.inr hm)))
        refine ⟨k1.trans g1, k2, fun base X G τ a w hs => wp_seq (wp_mono (g3 base X G τ a w hs) ?_)⟩
        rintro e' a' w' ⟨rfl, G', τ', q1, q2, q3⟩
        exact wp_mono (k3 base X G' τ' a' w' q1) (Post.after q2 q3)
      split at h
      · simp at h
      · rename_i e2 σ2 sc2 qs h2
        simp only [Option.some.injEq, Prod.mk.injEq] at h
        obtain ⟨rfl, rfl, rfl, rfl⟩ := h
        obtain ⟨g1, g2, g3⟩ := runC_says hmix x _ _ _ _ _ _ h1 (fun p hm => hp p (List.mem_append.2 (.inl hm))) hk
        obtain ⟨k1, k2, k3⟩ := runC_says hmix y _ _ _ _ _ _ h2 (fun p hm => hp p (List.mem_append.2 (.inr hm))) g2
        refine ⟨k1.trans g1, k2, fun base X G τ a w hs => wp_seq (wp_mono (g3 base X G τ a w hs) ?_)⟩
        rintro e' a' w' ⟨rfl, G', τ', q1, q2, q3⟩
        exact wp_mono (k3 base X G' τ' a' w' q1) (Post.after q2 q3)
    · rename_i e1 σ1 sc1 ps1 hne h1
      simp only [Option.some.injEq, Prod.mk.injEq] at h
      obtain ⟨rfl, rfl, rfl, rfl⟩ := h
      obtain ⟨g1, g2, g3⟩ := runC_says hmix x _ _ _ _ _ _ h1 hp hk
      refine ⟨g1, g2, fun base X G τ a w hs => wp_seq (wp_mono (g3 base X G τ a w hs) ?_)⟩
      rintro e' a' w' ⟨rfl, hrest⟩
      cases e1 with
      | normal => exact (hne rfl).elim
      | exit id => exact ⟨rfl, hrest⟩
      | ret => exact ⟨rfl, hrest⟩
  | .cond c x y, sc, σ, e, σ', sc', ps, h, hp, hk => by
    have key : (match rdO σ.env c with
      | .val (.bool true) => runC P k x sc σ
      | .val (.bool false) => runC P k y sc σ
      | _ => none) = some (e, σ', sc', ps) → Says P k (.cond c x y) σ e σ' := by
      intro h
      split at h
      · rename_i hc
        obtain ⟨g1, g2, g3⟩ := runC_says hmix x _ _ _ _ _ _ h hp hk
        refine ⟨g1, g2, fun base X G τ a w hs => wp_cond_true ?_ (g3 base X G τ a w hs)⟩
        have := rd_rep hs.env c
        rw [hc] at this; simp only [V.rep] at this
        exact this
      · rename_i hc
        obtain ⟨g1, g2, g3⟩ := runC_says hmix y _ _ _ _ _ _ h hp hk
        refine ⟨g1, g2, fun base X G τ a w hs => wp_cond_false ?_ (g3 base X G τ a w hs)⟩
        have := rd_rep hs.env c
        rw [hc] at this; simp only [V.rep] at this
        exact this
      · simp at h
    unfold runC at h
    split at h
    · rename_i nm e2 s2 rest
      split at h
      · rename_i s0 hn
        cases hb : subset (List.range k) s2.ids with
        | false => simp only [hb, cond_false, reduceCtorEq] at h
        | true =>
          simp only [hb, cond_true, Option.some.injEq, Prod.mk.injEq] at h
          obtain ⟨rfl, rfl, rfl, rfl⟩ := h
          refine ⟨rfl, toS_range hb, fun base X G τ a w hs => ?_⟩
          obtain ⟨⟨τ1, q1, q2⟩, q3⟩ := norm_St hs hn
          have hc : CodeC P k σ.n (.cond c x y) s0 e2 s2 := hp _ (by simp)
          refine wp_mono (hc base X G τ1 a w q1) ?_
          rintro e' a' w' ⟨rfl, G', τ', r1, r2, r3⟩
          exact ⟨rfl, G', τ', r1, r2, fun i hi => (r3 i hi).trans (q2 i hi)⟩
      · simp at h
    · rename_i t sc1 sc2 rest
      cases hct : isTmp t c with
      | false => simp only [hct, cond_false] at h; exact key h
      | true =>
      simp only [hct, cond_true] at h
      split at h
      · rename_i B hB
        cases hb : sc1.all It.plain && sc2.all It.plain with
        | false => simp only [hb, cond_false, reduceCtorEq] at h
        | true =>
          simp only [hb, cond_true] at h
          simp only [Bool.and_eq_true] at hb
          obtain ⟨σ1, σ2, s1, s2, ps1, ps2, h1, h2, rfl, rfl, rfl⟩ := mergeR_spec h
          obtain ⟨_, n1, k1⟩ := runC_keeps x _ _ _ _ _ _ h1 (plain_tab hb.1)
          obtain ⟨_, n2, k2⟩ := runC_keeps y _ _ _ _ _ _ h2 (plain_tab hb.2)
          refine Says.merge hk (k1.mono fun t ht => List.mem_append.2 (.inl ht)) (k2.mono fun t ht => List.mem_append.2 (.inr ht)) (fun hbt => ?_) (fun hbf => ?_) n1 n2
          · obtain ⟨g1, g2, g3⟩ := runC_says hmix x _ _ _ _ _ _ h1 (orP_true hp hbt) hk
            refine ⟨g1, g2, fun base X G τ a w hs => wp_cond_true ?_ (g3 base X G τ a w hs)⟩
            have := rd_rep hs.env c
            rw [hB, hbt] at this; simp only [V.rep] at this
            exact this
          · obtain ⟨g1, g2, g3⟩ := runC_says hmix y _ _ _ _ _ _ h2 (orP_false hp hbf) hk
            refine ⟨g1, g2, fun base X G τ a w hs => wp_cond_false ?_ (g3 base X G τ a w hs)⟩
            have := rd_rep hs.env c
            rw [hB, hbf] at this; simp only [V.rep] at this
            exact this
      · simp at h
    · exact key h
  | .block id body, sc, σ, e, σ', sc', ps, h, hp, hk => by
    have key : ∀ {sc sc' : List It} {σ' : S} {e : Ex} {ps : List Prop}, inBlk id (runC P k body sc σ) = some (e, σ', sc', ps) → (∀ p ∈ ps, p) → Says P k (.block id body) σ e σ' := by
      intro sc sc' σ' e ps h hp
      obtain ⟨e0, h0, hcase⟩ := inBlk_spec h
      obtain ⟨g1, g2, g3⟩ := runC_says hmix body _ _ _ _ _ _ h0 hp hk
      refine ⟨g1, g2, fun base X G τ a w hs => wp_block (wp_mono (g3 base X G τ a w hs) ?_)⟩
      rintro e' a' w' ⟨rfl, hrest⟩
      rcases hcase with ⟨rfl, rfl⟩ | ⟨hne, rfl⟩
      · show Exit.inBlock id _ (.exit id) a' w'
        simp only [Exit.inBlock, if_true]
        exact ⟨rfl, hrest⟩
      · cases e with
        | normal => exact ⟨rfl, hrest⟩
        | exit id' =>
          have hb' : ¬ id' = id := fun h => hne (by rw [h])
          show Exit.inBlock id _ (.exit id') a' w'
          simp only [Exit.inBlock, hb', if_false]
          exact ⟨rfl, hrest⟩
        | ret => exact ⟨rfl, hrest⟩
    unfold runC at h
    split at h
    · rename_i id' B sc1 sc2 rest
      cases hb : id' == id with
      | false => simp only [hb, cond_false] at h; exact key h hp
      | true =>
        simp only [hb, cond_true] at h
        cases hb2 : sc1.all It.plain && sc2.all It.plain with
        | false => simp only [hb2, cond_false, reduceCtorEq] at h
        | true =>
          simp only [hb2, cond_true] at h
          simp only [Bool.and_eq_true] at hb2
          obtain ⟨σ1, σ2, s1, s2, ps1, ps2, h1, h2, rfl, rfl, rfl⟩ := mergeR_spec h
          obtain ⟨e1, h01, _⟩ := inBlk_spec h1
          obtain ⟨e2, h02, _⟩ := inBlk_spec h2
          obtain ⟨_, n1, k1⟩ := runC_keeps body _ _ _ _ _ _ h01 (plain_tab hb2.1)
          obtain ⟨_, n2, k2⟩ := runC_keeps body _ _ _ _ _ _ h02 (plain_tab hb2.2)
          exact Says.merge hk k1 k2 (fun hbt => key h1 (orP_true hp hbt)) (fun hbf => key h2 (orP_false hp hbf)) n1 n2
    · exact key h hp
  | .scope body, sc, σ, e, σ', sc', ps, h, hp, hk => by
    simp only [runC] at h
    obtain ⟨g1, g2, g3⟩ := runC_says hmix body _ _ _ _ _ _ h hp hk
    refine ⟨g1, g2, fun base X G τ a w hs => wp_scope_straight (wp_mono (g3 base X G τ a w hs) ?_)⟩
    rintro e' a' w' ⟨rfl, hrest⟩
    cases e with
    | normal => exact ⟨rfl, hrest⟩
    | exit id' => exact ⟨rfl, hrest⟩
    | ret => exact ⟨rfl, hrest⟩
  | .loop body, sc, σ, e, σ', sc', ps, h, hp, hk => by
    unfold runC at h
    split at h
    · rename_i nm e2 s2 rest
      split at h
      · rename_i s0 hn
        cases hb : subset (List.range k) s2.ids with
        | false => simp only [hb, cond_false, reduceCtorEq] at h
        | true =>
          simp only [hb, cond_true, Option.some.injEq, Prod.mk.injEq] at h
          obtain ⟨rfl, rfl, rfl, rfl⟩ := h
          refine ⟨rfl, toS_range hb, fun base X G τ a w hs => ?_⟩
          obtain ⟨⟨τ1, q1, q2⟩, q3⟩ := norm_St hs hn
          have hc : LoopC P k σ.n body s0 e2 s2 := hp _ (by simp)
          refine wp_of_loopWp (loopWp_mono (hc base X G τ1 a w q1) ?_)
          rintro e' a' w' ⟨rfl, G', τ', r1, r2, r3⟩
          exact ⟨rfl, G', τ', r1, r2, fun i hi => (r3 i hi).trans (q2 i hi)⟩
      · simp at h
    · rename_i m rest
      obtain ⟨g1, g2, g3⟩ := iter_says (fun sc σ e σ' sc' ps h hp hk => runC_says hmix body sc σ e σ' sc' ps h hp hk) m rest σ e σ' sc' ps h hp hk
      exact ⟨g1, g2, fun base X G τ a w hs => wp_of_loopWp (g3 base X G τ a w hs)⟩
    · simp at h
  | .label _, sc, σ, e, σ', sc', ps, h, _, _ => by simp [runC] at h
  | .goto _, sc, σ, e, σ', sc', ps, h, _, _ => by simp [runC] at h

end Go.Proofs.Ytfpdlamjlbpmkaa.E
