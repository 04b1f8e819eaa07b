/- The engine, part P: regions, also those whose order is open. -/
import Derived.Test.YtfpdlamjlbpmkaaEngO
namespace Go.Proofs.Ytfpdlamjlbpmkaa.E
open Go
set_option linter.unusedSimpArgs false

theorem runOps_cons {P : Program} {rid : Nat} {ops : Array Oper} {sc : List (Nat × List Ans × Option Bool)} {i : Nat} {is : List Nat} {σ σ' : S} {ls : List Log} (h : runOps P rid ops sc (i :: is) σ = some (σ', ls)) :
    ∃ o l ls', ops[i]? = some o ∧ logOp P rid ops sc i o σ.env σ.st = some l ∧ dstOk σ.n o.dst = true ∧ nodupB l.new = true ∧ disjoint l.new σ.ids = true ∧ subset l.vids (l.new ++ σ.ids) = true ∧
      ls = l :: ls' ∧ runOps P rid ops sc is ⟨σ.n, putEnv σ.env o.dst l.v, putSt σ.st l.ws, l.new ++ σ.ids⟩ = some (σ', ls') := by
  unfold runOps at h
  split at h
  · simp at h
  · rename_i o ho
    split at h
    · simp at h
    · rename_i l hl
      cases hb : dstOk σ.n o.dst && nodupB l.new && disjoint l.new σ.ids && subset l.vids (l.new ++ σ.ids) with
      | false => simp only [hb, cond_false, reduceCtorEq] at h
      | true =>
        simp only [hb, cond_true] at h
        simp only [Bool.and_eq_true] at hb
        split at h
        · simp at h
        · rename_i σ2 ls2 h2
          simp only [Option.some.injEq, Prod.mk.injEq] at h
          obtain ⟨rfl, rfl⟩ := h
          exact ⟨o, l, ls2, ho, hl, hb.1.1.1, hb.1.1.2, hb.1.2, hb.2, rfl, h2⟩

/-- In the text's order. -/
theorem runOps_wp {P : Program} {base : Nat} {X : Nat → Prop} {rid : Nat} {ops : Array Oper} {sc : List (Nat × List Ans × Option Bool)} {Q : Exit → Act → World → Prop} :
    ∀ {is : List Nat} {σ σ' : S} {ls : List Log} {G : Nat → Prop} {τ : Nat → Gh} {a : Act} {w : World}, runOps P rid ops sc is σ = some (σ', ls) → (∀ l ∈ ls, ∀ p ∈ l.obs, p) → St base X G τ σ a w →
      (∀ a' w' G' τ', St base X G' τ' σ' a' w' → Ext base X G w G' w' → (∀ i ∈ σ.ids, τ' i = τ i) → Q .normal a' w') → wpOps P ops Q is a w
  | [], σ, σ', ls, G, τ, a, w, h, _, hs, hQ => by
    simp only [runOps, Option.some.injEq, Prod.mk.injEq] at h
    obtain ⟨rfl, _⟩ := h
    simp only [wpOps]
    exact hQ a w G τ hs (Ext.refl _ _ _ _) (fun _ _ => rfl)
  | i :: is, σ, σ', ls, G, τ, a, w, h, hp, hs, hQ => by
    obtain ⟨o, l, ls', h1, h2, h3, _, h5, h6, rfl, h8⟩ := runOps_cons h
    rw [wpOps_cons]
    refine log_wp hs h1 h2 (hp l (by simp)) h3 h5 (subset_spec h6) fun a' w' G' τ' k1 k2 k3 => ?_
    exact runOps_wp h8 (fun l' hl' => hp l' (by simp [hl'])) k1 fun a2 w2 G2 τ2 q1 q2 q3 => hQ a2 w2 G2 τ2 q1 (k2.trans q2) (fun j hj => (q3 j (List.mem_append.2 (.inr hj))).trans (k3 j hj))

/-! ### Whatever order -/

abbrev Row := Nat × Oper × Log

def stEnv (L : List Row) (p : Nat → Bool) (env : Nat → V) : Nat → V := L.foldl (fun e x => if p x.1 then putEnv e x.2.1.dst x.2.2.v else e) env
def stSt (L : List Row) (p : Nat → Bool) (st : Nat → Option E.Obj) : Nat → Option E.Obj := L.foldl (fun s x => if p x.1 then putSt s x.2.2.ws else s) st
def stIds (L : List Row) (p : Nat → Bool) (ids : List Nat) : List Nat := L.foldl (fun s x => if p x.1 then x.2.2.new ++ s else s) ids

theorem putEnv_at {env env' : Nat → V} {dst : Option Nat} {v : V} {t : Nat} (h : env t = env' t) : putEnv env dst v t = putEnv env' dst v t := by
  cases dst with
  | none => exact h
  | some d => simp only [putEnv, h]

theorem putEnv_other {env : Nat → V} {dst : Option Nat} {v : V} {t : Nat} (h : dst ≠ some t) : putEnv env dst v t = env t := by
  cases dst with
  | none => rfl
  | some d =>
    have : (t == d) = false := by simp; exact fun e => h (by rw [e])
    simp only [putEnv, this, cond_false]

theorem putEnv_same {env : Nat → V} {v : V} {t : Nat} : putEnv env (some t) v t = v := by simp [putEnv]

theorem putSt_at : ∀ {ws : List (Nat × Option E.Obj)} {st st' : Nat → Option E.Obj} {i : Nat}, st i = st' i → putSt st ws i = putSt st' ws i
  | [], _, _, _, h => h
  | (j, o) :: ws, st, st', i, h => by
    simp only [putSt]
    exact putSt_at (by simp only [h])

theorem putSt_other : ∀ {ws : List (Nat × Option E.Obj)} {st : Nat → Option E.Obj} {i : Nat}, i ∉ ws.map (·.1) → putSt st ws i = st i
  | [], _, _, _ => rfl
  | (j, o) :: ws, st, i, h => by
    simp only [List.map_cons, List.mem_cons, not_or] at h
    simp only [putSt]
    rw [putSt_other h.2]
    have : (i == j) = false := by simpa using h.1
    simp only [this, cond_false]

theorem putSt_touch : ∀ {ws : List (Nat × Option E.Obj)} {st st' : Nat → Option E.Obj} {i : Nat}, i ∈ ws.map (·.1) → putSt st ws i = putSt st' ws i
  | [], _, _, _, h => by simp at h
  | (j, o) :: ws, st, st', i, h => by
    simp only [putSt]
    by_cases hw : i ∈ ws.map (·.1)
    · exact putSt_touch hw
    · simp only [List.map_cons, List.mem_cons, hw, or_false] at h
      subst h
      exact putSt_at (by simp)

theorem stEnv_at {p q : Nat → Bool} {t : Nat} : ∀ {L : List Row} {env env' : Nat → V}, env t = env' t → (∀ x ∈ L, x.2.1.dst = some t → p x.1 = q x.1) → stEnv L p env t = stEnv L q env' t
  | [], _, _, h, _ => h
  | x :: L, env, env', h, hp => by
    simp only [stEnv, List.foldl_cons]
    refine stEnv_at (L := L) ?_ (fun y hy => hp y (by simp [hy]))
    by_cases hd : x.2.1.dst = some t
    · rw [hp x (by simp) hd]
      split
      · exact putEnv_at h
      · exact h
    · split <;> split
      · exact putEnv_at h
      · rw [putEnv_other hd]; exact h
      · rw [putEnv_other hd]; exact h
      · exact h

theorem stSt_at {p q : Nat → Bool} {i : Nat} : ∀ {L : List Row} {st st' : Nat → Option E.Obj}, st i = st' i → (∀ x ∈ L, i ∈ x.2.2.touch → p x.1 = q x.1) → stSt L p st i = stSt L q st' i
  | [], _, _, h, _ => h
  | x :: L, st, st', h, hp => by
    simp only [stSt, List.foldl_cons]
    refine stSt_at (L := L) ?_ (fun y hy => hp y (by simp [hy]))
    by_cases hd : i ∈ x.2.2.touch
    · rw [hp x (by simp) hd]
      split
      · exact putSt_at h
      · exact h
    · split <;> split
      · exact putSt_at h
      · rw [putSt_other hd]; exact h
      · rw [putSt_other hd]; exact h
      · exact h

theorem stEnv_append (A B : List Row) (p : Nat → Bool) (env : Nat → V) : stEnv (A ++ B) p env = stEnv B p (stEnv A p env) := by simp [stEnv, List.foldl_append]
theorem stSt_append (A B : List Row) (p : Nat → Bool) (st : Nat → Option E.Obj) : stSt (A ++ B) p st = stSt B p (stSt A p st) := by simp [stSt, List.foldl_append]

theorem stIds_mem {p : Nat → Bool} {i : Nat} : ∀ {L : List Row} {ids : List Nat}, i ∈ stIds L p ids ↔ i ∈ ids ∨ ∃ x ∈ L, p x.1 = true ∧ i ∈ x.2.2.new
  | [], ids => by simp [stIds]
  | x :: L, ids => by
    simp only [stIds, List.foldl_cons]
    have ih := stIds_mem (p := p) (i := i) (L := L) (ids := if p x.1 = true then x.2.2.new ++ ids else ids)
    simp only [stIds] at ih
    rw [ih]
    by_cases hp : p x.1 = true
    · simp only [hp, if_true, List.mem_append, List.mem_cons, exists_eq_or_imp, true_and]
      constructor
      · rintro ((h | h) | h)
        · exact .inr (.inl h)
        · exact .inl h
        · exact .inr (.inr h)
      · rintro (h | h | h)
        · exact .inl (.inr h)
        · exact .inl (.inl h)
        · exact .inr h
    · have hp' : p x.1 = false := by simpa using hp
      simp only [hp', Bool.false_eq_true, if_false, List.mem_cons, exists_eq_or_imp, false_and, false_or]

/-- The rows of a run in the text's order. -/
inductive Good (P : Program) (rid : Nat) (ops : Array Oper) (sc : List (Nat × List Ans × Option Bool)) (n : Nat) : List Row → (Nat → V) → (Nat → Option E.Obj) → List Nat → Prop
  | nil {env st ids} : Good P rid ops sc n [] env st ids
  | cons {i o l L env st ids} : ops[i]? = some o → logOp P rid ops sc i o env st = some l → dstOk n o.dst = true → disjoint l.new ids = true → (∀ j ∈ l.vids, j ∈ l.new ++ ids) → (∀ x ∈ L, i < x.1) →
      Good P rid ops sc n L (putEnv env o.dst l.v) (putSt st l.ws) (l.new ++ ids) → Good P rid ops sc n ((i, o, l) :: L) env st ids

theorem good_of_run {P : Program} {rid : Nat} {ops : Array Oper} {sc : List (Nat × List Ans × Option Bool)} : ∀ {is : List Nat} {σ σ' : S} {ls : List Log} (k : Nat), runOps P rid ops sc is σ = some (σ', ls) → is = List.range' k is.length →
    Good P rid ops sc σ.n (is.zip ((ops.toList.drop k).zip ls)) σ.env σ.st σ.ids ∧ σ'.n = σ.n ∧ σ'.env = stEnv (is.zip ((ops.toList.drop k).zip ls)) (fun _ => true) σ.env ∧ σ'.st = stSt (is.zip ((ops.toList.drop k).zip ls)) (fun _ => true) σ.st ∧
      (∀ i, i ∈ σ'.ids ↔ i ∈ stIds (is.zip ((ops.toList.drop k).zip ls)) (fun _ => true) σ.ids) ∧ ls.length = is.length
  | [], σ, σ', ls, k, h, _ => by
    simp only [runOps, Option.some.injEq, Prod.mk.injEq] at h
    obtain ⟨rfl, rfl⟩ := h
    exact ⟨by simp; exact .nil, rfl, rfl, rfl, fun _ => Iff.rfl, rfl⟩
  | i :: is, σ, σ', ls, k, h, hk => by
    obtain ⟨o, l, ls', h1, h2, h3, _, h5, h6, rfl, h8⟩ := runOps_cons h
    simp only [List.length_cons, List.range'_succ, List.cons.injEq] at hk
    obtain ⟨rfl, hk⟩ := hk
    obtain ⟨g1, g2, g3, g4, g5, g6⟩ := good_of_run (i + 1) h8 hk
    have hi : i < ops.toList.length := by simpa using (Array.getElem?_eq_some_iff.1 h1).1
    have hdrop : ops.toList.drop i = o :: ops.toList.drop (i + 1) := by
      rw [List.drop_eq_getElem_cons hi]
      congr 1
      have := (Array.getElem?_eq_some_iff.1 h1).2
      simpa using this
    rw [hdrop]
    simp only [List.zip_cons_cons]
    refine ⟨.cons h1 h2 h3 h5 (subset_spec h6) (fun x hx => ?_) g1, g2, ?_, ?_, fun j => ?_, by simp [g6]⟩
    · have : x.1 ∈ is := (List.of_mem_zip hx).1
      rw [hk, List.mem_range'] at this
      obtain ⟨q, _, hq⟩ := this
      omega
    · rw [g3]; rfl
    · rw [g4]; rfl
    · rw [g5 j]; rfl

theorem Good.at {P : Program} {rid : Nat} {ops : Array Oper} {sc : List (Nat × List Ans × Option Bool)} {n : Nat} {L : List Row} {env : Nat → V} {st : Nat → Option E.Obj} {ids : List Nat} (h : Good P rid ops sc n L env st ids) :
    ∀ x ∈ L, ops[x.1]? = some x.2.1 ∧ logOp P rid ops sc x.1 x.2.1 (stEnv L (fun k => decide (k < x.1)) env) (stSt L (fun k => decide (k < x.1)) st) = some x.2.2 ∧ dstOk n x.2.1.dst = true ∧
      (∀ j ∈ x.2.2.new, j ∉ ids) ∧ (∀ y ∈ L, y.1 < x.1 → ∀ j ∈ x.2.2.new, j ∉ y.2.2.new) ∧ (∀ j ∈ x.2.2.vids, j ∈ x.2.2.new ∨ j ∈ ids ∨ ∃ y ∈ L, y.1 < x.1 ∧ j ∈ y.2.2.new) ∧ (∀ y ∈ L, y.1 = x.1 → y = x) := by
  induction h with
  | nil => intro x hx; simp at hx
  | @cons i o l L env st ids h1 h2 h3 h4 h5 h6 _ ih =>
    intro x hx
    rcases List.mem_cons.1 hx with rfl | hx
    · have hnone : ∀ y ∈ ((i, o, l) :: L : List Row), (fun k => decide (k < i)) y.1 = false := by
        intro y hy
        rcases List.mem_cons.1 hy with rfl | hy
        · simp
        · have := h6 y hy; simp; omega
      have e1 : stEnv ((i, o, l) :: L) (fun k => decide (k < i)) env = env := by
        funext t
        have : stEnv ((i, o, l) :: L) (fun k => decide (k < i)) env t = stEnv ((i, o, l) :: L) (fun _ => false) env t := stEnv_at rfl fun y hy _ => hnone y hy
        rw [this]
        have : ∀ (M : List Row) (e : Nat → V), stEnv M (fun _ => false) e = e := by
          intro M
          induction M with
          | nil => intro e; rfl
          | cons y M ih => intro e; simpa [stEnv] using ih e
        rw [this]
      have e2 : stSt ((i, o, l) :: L) (fun k => decide (k < i)) st = st := by
        funext t
        have : stSt ((i, o, l) :: L) (fun k => decide (k < i)) st t = stSt ((i, o, l) :: L) (fun _ => false) st t := stSt_at rfl fun y hy _ => hnone y hy
        rw [this]
        have : ∀ (M : List Row) (e : Nat → Option E.Obj), stSt M (fun _ => false) e = e := by
          intro M
          induction M with
          | nil => intro e; rfl
          | cons y M ih => intro e; simpa [stSt] using ih e
        rw [this]
      refine ⟨h1, by rw [e1, e2]; exact h2, h3, disjoint_spec h4, fun y hy hlt => ?_, fun j hj => ?_, fun y hy he => ?_⟩
      · have hnn : decide (y.1 < i) = false := hnone y hy
        exact absurd hlt (by simpa using hnn)
      · rcases List.mem_append.1 (h5 j hj) with h | h
        · exact .inl h
        · exact .inr (.inl h)
      · rcases List.mem_cons.1 hy with rfl | hy
        · rfl
        · have := h6 y hy; simp only at he; omega
    · obtain ⟨g1, g2, g3, g4, g5, g6, g7⟩ := ih x hx
      have hix := h6 x hx
      have e1 : stEnv ((i, o, l) :: L) (fun k => decide (k < x.1)) env = stEnv L (fun k => decide (k < x.1)) (putEnv env o.dst l.v) := by simp [stEnv, hix]
      have e2 : stSt ((i, o, l) :: L) (fun k => decide (k < x.1)) st = stSt L (fun k => decide (k < x.1)) (putSt st l.ws) := by simp [stSt, hix]
      rw [e1, e2]
      refine ⟨g1, g2, g3, fun j hj hids => g4 j hj (List.mem_append.2 (.inr hids)), fun y hy hlt j hj => ?_, fun j hj => ?_, fun y hy he => ?_⟩
      · rcases List.mem_cons.1 hy with rfl | hy
        · exact fun hn => g4 j hj (List.mem_append.2 (.inl hn))
        · exact g5 y hy hlt j hj
      · rcases g6 j hj with h | h | ⟨y, hy, h1, h2⟩
        · exact .inl h
        · rcases List.mem_append.1 h with h | h
          · exact .inr (.inr ⟨(i, o, l), by simp, hix, h⟩)
          · exact .inr (.inl h)
        · exact .inr (.inr ⟨y, by simp [hy], h1, h2⟩)
      · rcases List.mem_cons.1 hy with rfl | hy
        · simp only at he; omega
        · exact g7 y hy he

end Go.Proofs.Ytfpdlamjlbpmkaa.E
