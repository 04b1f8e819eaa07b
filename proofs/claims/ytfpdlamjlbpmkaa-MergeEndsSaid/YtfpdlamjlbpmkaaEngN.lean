/- The engine, part N: one operation, whatever it is. -/
import Derived.Test.YtfpdlamjlbpmkaaEngV
import Derived.Laws.StructEq
import Derived.ChangeKeysEq
import Derived.Laws.Small
namespace Go.Proofs.Ytfpdlamjlbpmkaa.E
open Go
set_option linter.unusedSimpArgs false

theorem ids_ofCell (x : Value) : (ofCell x).ids = [] := by unfold ofCell; split <;> rfl

theorem idsL_ofCell : ∀ l : List Value, idsL (l.map ofCell) = []
  | [] => rfl
  | x :: l => by simp only [List.map_cons, idsL, ids_ofCell, idsL_ofCell l, List.append_nil]

theorem ids_ofVal1 (x : Value) : (ofVal1 x).ids = [] := by
  unfold ofVal1; split
  · simp only [V.ids, idsL_ofCell]
  · exact ids_ofCell _

theorem idsL_ofVal1 : ∀ l : List Value, idsL (l.map ofVal1) = []
  | [] => rfl
  | x :: l => by simp only [List.map_cons, idsL, ids_ofVal1, idsL_ofVal1 l, List.append_nil]

theorem ids_ofVal (x : Value) : (ofVal x).ids = [] := by
  unfold ofVal; split
  · simp only [V.ids, idsL_ofVal1]
  · exact ids_ofVal1 _

theorem rd_rep {w : World} {G : Nat → Prop} {τ : Nat → Gh} {env : Nat → V} {a : Act} (h : ∀ t, (env t).rep w G τ (a.tmps.getD t Go.undef)) (x : Operand) : (rdO env x).rep w G τ (a.eval x) := by
  cases x with
  | tmp t => exact h t
  | const v => exact rep_ofVal v
  | global g => simp only [rdO, V.rep]
  | func f => simp only [rdO, V.rep, Act.eval]; exact ⟨#[], #[], rfl, by simp only [repL], by simp only [repL]⟩

theorem rd_ids {env : Nat → V} {ids : List Nat} (h : ∀ t, ∀ i ∈ (env t).ids, i ∈ ids) (x : Operand) : ∀ i ∈ (rdO env x).ids, i ∈ ids := by
  cases x with
  | tmp t => exact h t
  | const v => intro i hi; simp [rdO, ids_ofVal] at hi
  | global g => intro i hi; simp [rdO, V.ids] at hi
  | func f => intro i hi; simp [rdO, V.ids, idsL] at hi

theorem wp_of_res {P : Program} {base : Nat} {X G : Nat → Prop} {τ : Nat → Gh} {st : Nat → Option E.Obj} {w : World} {ids : List Nat} {o : Oper} {a : Act} {e : Eff} {K : Act → World → Prop} {Q : Exit → Act → World → Prop} {s : Sem Next}
    (hr : OpRes P base X ids G τ st w s e) (hs : execOp a.eval o = s)
    (hK : ∀ x w' G' τ', e.v.rep w' G' τ' x → Mem base X G' τ' (putSt st e.ws) w' → Ext base X G w G' w' → (∀ i ∈ ids, τ' i = τ i) → K (a.put o.dst x) w') : o.wp P a w K Q := by
  obtain ⟨x, w', G', τ', h1, h2, h3, h4, h5⟩ := hr
  unfold Oper.wp
  rw [hs]
  rcases h1 with h1 | ⟨h1, rfl⟩
  · rw [h1]; exact hK x w' G' τ' h2 h3 h4 h5
  · rw [h1]; exact hK _ w' G' τ' h2 h3 h4 h5

theorem repL_map {w : World} {G : Nat → Prop} {τ : Nat → Gh} {rd : Operand → V} {ρ : Operand → Value} (h : ∀ x, (rd x).rep w G τ (ρ x)) : ∀ l : List Operand, repL w G τ (l.map rd) (l.map ρ)
  | [] => by simp only [List.map_nil, repL]
  | x :: l => by simp only [List.map_cons, repL]; exact ⟨h x, repL_map h l⟩

theorem nilCmp_res {w : World} {G : Nat → Prop} {τ : Nat → Gh} {v u : V} {x y : Value} {b : Bool} (h : nilCmp v u = some b) (hv : v.rep w G τ x) (hu : u.rep w G τ y) :
    b = false ∧ (((∃ p, x = .pointer (some p)) ∧ y = .pointer none) ∨ (x = .pointer none ∧ ∃ p, y = .pointer (some p))) := by
  unfold nilCmp at h
  split at h <;> simp only [Option.some.injEq, reduceCtorEq] at h <;> subst h <;> refine ⟨rfl, ?_⟩
  · simp only [V.rep, V.repI] at hv hu; obtain ⟨q, _, rfl⟩ := hv; exact .inl ⟨⟨_, rfl⟩, hu⟩
  · simp only [V.rep, V.repI] at hv hu; obtain ⟨q, o, _, _, _, rfl⟩ := hv; exact .inl ⟨⟨_, rfl⟩, hu⟩
  · simp only [V.rep, V.repI] at hv hu; obtain ⟨q, _, rfl⟩ := hu; exact .inr ⟨hv, ⟨_, rfl⟩⟩
  · simp only [V.rep, V.repI] at hv hu; obtain ⟨q, o, _, _, _, rfl⟩ := hu; exact .inr ⟨hv, ⟨_, rfl⟩⟩

theorem run_eqIn_nil {P : Program} {w : World} {t el : TypeId} {x y : Value} (hu : P.underlying t = some (.pointer el)) (h : ((∃ p, x = .pointer (some p)) ∧ y = .pointer none) ∨ (x = .pointer none ∧ ∃ p, y = .pointer (some p))) (d : Nat) :
    (Op.equalIn (d + 1) t x y).run P w = .ok false w := by
  rcases h with ⟨⟨p, rfl⟩, rfl⟩ | ⟨rfl, ⟨p, rfl⟩⟩ <;> simp only [Op.equalIn, Sem.run_bind, run_underlying hu, Result.andThen_ok] <;> rfl

theorem run_binOp_nil {P : Program} {w : World} {t el : TypeId} {op : BinOp} {p q : Operand} {x y : Value} (hop : op = .eql ∨ op = .neq) (hu : P.underlying t = some (.pointer el)) (h : ((∃ p, x = .pointer (some p)) ∧ y = .pointer none) ∨ (x = .pointer none ∧ ∃ p, y = .pointer (some p))) :
    (do eqGuard op t p q x y; binOp op t x y : Sem Value).run P w = .ok (.bool (op == .neq)) w := by
  have h2 : (Op.equal t x y).run P w = .ok false w := run_eqIn_nil hu h 9999
  rcases hop with rfl | rfl <;> rcases h with ⟨⟨p, rfl⟩, rfl⟩ | ⟨rfl, ⟨p, rfl⟩⟩ <;> simp [eqGuard, binOp, h2]

theorem run_eqIn_sl {P : Program} {w : World} {t el : TypeId} {A : Addr} {n c : Nat} (hu : P.underlying t = some (.slice el)) (d : Nat) : (Op.equalIn (d + 1) t (.slice (some A) n c) (.slice none 0 0)).run P w = .ok false w := by
  simp only [Op.equalIn, Sem.run_bind, run_underlying hu, Result.andThen_ok]; rfl

theorem run_binOp_sliceNil {P : Program} {w : World} {t el : TypeId} {op : BinOp} {p q : Operand} {A : Addr} {n c : Nat} (hop : op = .eql ∨ op = .neq) (hu : P.underlying t = some (.slice el)) :
    (do eqGuard op t p q (.slice (some A) n c) (.slice none 0 0); binOp op t (.slice (some A) n c) (.slice none 0 0) : Sem Value).run P w = .ok (.bool (op == .neq)) w := by
  have h2 : (Op.equal t (.slice (some A) n c) (.slice none 0 0)).run P w = .ok false w := run_eqIn_sl hu 9999
  rcases hop with rfl | rfl <;> simp [eqGuard, binOp, h2]

theorem run_binOp_quo {P : Program} {w : World} {t : TypeId} {p q : Operand} {k : IntKind} {a b : Int} (hb : b ≠ 0) :
    (do eqGuard .quo t p q (.int k a) (.int k b); binOp .quo t (.int k a) (.int k b) : Sem Value).run P w = .ok (.int k (k.wrap (a.tdiv b))) w := by
  simp [eqGuard, binOp, Op.intDiv, hb]
theorem run_binOp_rem {P : Program} {w : World} {t : TypeId} {p q : Operand} {k : IntKind} {a b : Int} (hb : b ≠ 0) :
    (do eqGuard .rem t p q (.int k a) (.int k b); binOp .rem t (.int k a) (.int k b) : Sem Value).run P w = .ok (.int k (a.tmod b)) w := by
  simp [eqGuard, binOp, Op.intDiv, hb]

theorem sliceNil_res {P : Program} {base : Nat} {X G : Nat → Prop} {τ : Nat → Gh} {st : Nat → Option E.Obj} {w : World} {ids : List Nat} {op : BinOp} {t : TypeId} {p q : Operand} {u v : V} {x y : Value} {e : Eff} {rs : List Nat} {tt : T Eff}
    (hm : Mem base X G τ st w) (hu : u.rep w G τ x) (hv : v.rep w G τ y) {fl : Bool} (ht : sliceNil P fl op t u v = some tt) (h : tt.run st = some (e, rs)) (hp : ∀ p ∈ e.obs, p) :
    OpRes P base X ids G τ st w (do pure (Next.value (← (do eqGuard op t p q x y; binOp op t x y : Sem Value)))) e := by
  have fin : ∀ {rows : List (List V)} {el : TypeId} {A : Addr} {n c : Nat} {b : Bool}, P.underlying t = some (.slice el) → op = .eql ∨ op = .neq → (op == .neq) = b → x = .slice (some A) n c → y = .slice none 0 0 →
      OpRes P base X ids G τ st w (do pure (Next.value (← (do eqGuard op t p q x y; binOp op t x y : Sem Value)))) ⟨.val (.bool b), [], [rows ≠ []], []⟩ := by
    rintro rows el A n c b h1 h2 rfl rfl rfl
    exact OpRes.pure hm (run_v (run_binOp_sliceNil h2 h1)) (by simp only [V.rep, V.repI])
  have sl : ∀ {n : Nat} {rows : List (List V)}, (V.sl n rows).rep w G τ x → rows ≠ [] → ∃ A k c, x = .slice (some A) k c := by
    intro n rows hr hne
    simp only [V.rep, V.repI] at hr
    obtain ⟨a, cap, hx, _, hr⟩ := hr
    rcases hr with hr | ⟨b, o, ha, _⟩
    · exact absurd hr hne
    · exact ⟨_, _, _, by rw [hx, ha]⟩
  have ow : ∀ {id n : Nat} {rows : List (List V)}, (V.own id).rep w G τ x → st id = some (.arr n rows) → rows ≠ [] → ∃ A k c, x = .slice (some A) k c := by
    intro id n rows hr ho hne
    have hok := hm.ok id _ ho
    simp only [Obj.ok] at hok
    simp only [V.rep, Gh.hdr] at hr
    rcases hok.2.2 with ⟨_, _, e3⟩ | ⟨b, _, _, _, _, e2, _⟩
    · exact absurd (List.eq_nil_of_length_eq_zero (by have := hok.2.1; omega)) hne
    · exact ⟨_, _, _, by rw [hr, e2]⟩
  unfold sliceNil at ht
  split at ht
  · rename_i k a k' b
    cases hb : fl && decide (k = k') with
    | false => simp [hb] at ht
    | true =>
      simp only [hb, cond_true] at ht
      simp only [Bool.and_eq_true, decide_eq_true_eq] at hb
      obtain ⟨_, rfl⟩ := hb
      simp only [V.rep, V.repI] at hu hv
      subst hu hv
      split at ht
      · cases ht
        simp only [T.run, Option.some.injEq, Prod.mk.injEq] at h
        obtain ⟨rfl, _⟩ := h
        exact OpRes.pure hm (run_v (run_binOp_quo (hp _ (by simp)))) (by simp only [V.rep, V.repI])
      · cases ht
        simp only [T.run, Option.some.injEq, Prod.mk.injEq] at h
        obtain ⟨rfl, _⟩ := h
        exact OpRes.pure hm (run_v (run_binOp_rem (hp _ (by simp)))) (by simp only [V.rep, V.repI])
      · simp at ht
  · rename_i n rows
    simp only [V.rep, V.repI] at hv
    split at ht
    · rename_i el hel
      cases ht
      simp only [T.run, Option.some.injEq, Prod.mk.injEq] at h
      obtain ⟨rfl, _⟩ := h
      obtain ⟨A, k, c, hx⟩ := sl hu (hp _ (by simp))
      exact fin hel (.inl rfl) rfl hx hv
    · rename_i el hel
      cases ht
      simp only [T.run, Option.some.injEq, Prod.mk.injEq] at h
      obtain ⟨rfl, _⟩ := h
      obtain ⟨A, k, c, hx⟩ := sl hu (hp _ (by simp))
      exact fin hel (.inr rfl) rfl hx hv
    · simp at ht
  · rename_i id
    simp only [V.rep, V.repI] at hv
    split at ht
    · rename_i el hel
      cases ht
      obtain ⟨o, r, ho, h, _⟩ := run_ask h
      split at h
      · rename_i n rows
        simp only [T.run, Option.some.injEq, Prod.mk.injEq] at h
        obtain ⟨rfl, _⟩ := h
        obtain ⟨A, k, c, hx⟩ := ow hu ho (hp _ (by simp))
        exact fin hel (.inl rfl) rfl hx hv
      · simp [T.run] at h
    · rename_i el hel
      cases ht
      obtain ⟨o, r, ho, h, _⟩ := run_ask h
      split at h
      · rename_i n rows
        simp only [T.run, Option.some.injEq, Prod.mk.injEq] at h
        obtain ⟨rfl, _⟩ := h
        obtain ⟨A, k, c, hx⟩ := ow hu ho (hp _ (by simp))
        exact fin hel (.inr rfl) rfl hx hv
      · simp [T.run] at h
    · simp at ht
  · simp at ht

theorem eqFields_run {P : Program} {w : World} {d : Nat} {xs ys : Array Value} {g : Field → Option Bool} (hg : ∀ f b, g f = some b → ∃ a c, (part f.type xs f.offset).run P w = .ok a w ∧ (part f.type ys f.offset).run P w = .ok c w ∧ (Op.equalIn d f.type a c).run P w = .ok b w) :
    ∀ {fs : List Field} {r : Bool}, eqFields g fs = some r → (Op.eqFields d xs ys fs).run P w = .ok r w
  | [], r, h => by
    simp only [eqFields, Option.some.injEq] at h
    subst h
    simp [Op.eqFields]
  | f :: fs, r, h => by
    simp only [eqFields] at h
    cases hn : f.name == "_" with
    | true =>
      simp only [hn, cond_true] at h
      have : f.name = "_" := by simpa using hn
      simp only [Op.eqFields, this, ne_eq, not_true_eq_false, if_false]
      exact eqFields_run hg h
    | false =>
      simp only [hn, cond_false] at h
      have hne : f.name ≠ "_" := by simpa using hn
      split at h
      · rename_i b r' hb hr
        simp only [Option.some.injEq] at h
        subst h
        obtain ⟨a, c, h1, h2, h3⟩ := hg f b hb
        have ih := eqFields_run hg hr
        simp only [Op.eqFields, hne, ne_eq, not_false_eq_true, if_true, Sem.run_bind, h1, h2, h3, Result.andThen_ok]
        cases b with
        | true => simpa using ih
        | false => simp
      · simp at h

theorem eqElems_run {P : Program} {w : World} {d m : Nat} {e : TypeId} {xs ys : Array Value} {g : Nat → Option Bool} (hg : ∀ i b, g i = some b → ∃ a c, (part e xs (i * m)).run P w = .ok a w ∧ (part e ys (i * m)).run P w = .ok c w ∧ (Op.equalIn d e a c).run P w = .ok b w) :
    ∀ (k i : Nat) {r : Bool}, eqElems g i k = some r → (Op.eqItems d e m xs ys (List.range' i k)).run P w = .ok r w
  | 0, i, r, h => by
    simp only [eqElems, Option.some.injEq] at h
    subst h
    simp [Op.eqItems]
  | k + 1, i, r, h => by
    simp only [eqElems] at h
    split at h
    · rename_i b r' hb hr
      simp only [Option.some.injEq] at h
      subst h
      obtain ⟨a, c, h1, h2, h3⟩ := hg i b hb
      have ih := eqElems_run hg k (i + 1) hr
      simp only [List.range'_succ, Op.eqItems, Sem.run_bind, h1, h2, h3, Result.andThen_ok]
      cases b with
      | true => simpa using ih
      | false => simp
    · simp at h

theorem eqV_run {P : Program} {w : World} {G : Nat → Prop} {τ : Nat → Gh} : ∀ (d : Nat) {t : TypeId} {u v : V} {x y : Value} {r : Bool}, eqV P d t u v = some r → u.rep w G τ x → v.rep w G τ y → (Op.equalIn d t x y).run P w = .ok r w
  | 0, _, _, _, _, _, _, h, _, _ => by simp [eqV] at h
  | d + 1, t, u, v, x, y, r, h, hu, hv => by
    simp only [eqV] at h
    split at h
    · rename_i ht
      split at h
      · simp only [Option.some.injEq] at h
        subst h
        simp only [V.rep, V.repI] at hu hv
        subst hu hv
        exact run_equalIn_bool w d t _ _ ht
      · simp at h
    · rename_i k0 ht
      split at h
      · rename_i k a k' b
        cases hk : decide (k = k') with
        | false => simp only [hk, cond_false, reduceCtorEq] at h
        | true =>
          have hkk : k = k' := of_decide_eq_true hk
          subst hkk
          rw [hk] at h
          simp only [cond_true, Option.some.injEq] at h
          subst h
          simp only [V.rep, V.repI] at hu hv
          subst hu hv
          rw [run_equalIn_int w d t k k0 a b ht]
          rfl
      · simp at h
    · rename_i ht
      split at h
      · simp only [Option.some.injEq] at h
        subst h
        simp only [V.rep, V.repI] at hu hv
        subst hu hv
        rw [run_equalIn_string w d t _ _ ht, beq_toListBytes]
      · simp at h
    · rename_i fs ht
      split at h
      · rename_i cs ds
        cases hb : P.stoodInHeld t with
        | true => simp only [hb, cond_true, reduceCtorEq] at h
        | false =>
          simp only [hb, cond_false] at h
          simp only [V.rep] at hu hv
          obtain ⟨xs, rfl, hxs⟩ := hu
          obtain ⟨ys, rfl, hys⟩ := hv
          have hf : P.fieldsOf t = fs := by simp [Program.fieldsOf, ht]
          rw [run_equalIn_agg w d t xs ys (by rw [hf]; exact ht) hb, hf]
          refine eqFields_run (fun f b hg => ?_) h
          split at hg
          · rename_i a c ha hc
            obtain ⟨p, h1, h2⟩ := takeCells_part hxs ha
            obtain ⟨q, h3, h4⟩ := takeCells_part hys hc
            exact ⟨p, q, h1, h3, eqV_run d hg h2 h4⟩
          · simp at hg
      · simp at h
    · rename_i n e ht
      split at h
      · rename_i cs ds m hm
        simp only [V.rep] at hu hv
        obtain ⟨xs, rfl, hxs⟩ := hu
        obtain ⟨ys, rfl, hys⟩ := hv
        have hi : ∃ i, P.info? e = some i ∧ m = P.cellsOf e := by
          simp only [szOf] at hm
          split at hm
          · rename_i i hi
            simp only [Option.some.injEq] at hm
            exact ⟨i, hi, by simp [Program.cellsOf, hi, hm]⟩
          · simp at hm
        obtain ⟨i, hi, rfl⟩ := hi
        rw [run_equalIn_array w d xs ys ht hi, List.range_eq_range']
        refine eqElems_run (fun j b hg => ?_) n 0 h
        split at hg
        · rename_i a c ha hc
          obtain ⟨p, h1, h2⟩ := takeCells_part hxs ha
          obtain ⟨q, h3, h4⟩ := takeCells_part hys hc
          exact ⟨p, q, h1, h3, eqV_run d hg h2 h4⟩
        · simp at hg
      · simp at h
    · simp at h

theorem aggCmp_run {P : Program} {w : World} {G : Nat → Prop} {τ : Nat → Gh} {op : BinOp} {t : TypeId} {p q : Operand} {u v : V} {x y : Value} {b : Bool} (h : aggCmp P op t u v = some (some b)) (hu : u.rep w G τ x) (hv : v.rep w G τ y) :
    (do eqGuard op t p q x y; binOp op t x y : Sem Value).run P w = .ok (.bool b) w := by
  unfold aggCmp at h
  split at h
  · rename_i cs ds
    cases hg : P.eqGuardType P.depth t with
    | true => simp [hg] at h
    | false =>
      simp only [hg, cond_false] at h
      have hx := hu
      have hy := hv
      simp only [V.rep] at hu hv
      obtain ⟨xs, rfl, _⟩ := hu
      obtain ⟨ys, rfl, _⟩ := hv
      split at h
      · rename_i b' he
        simp only [Option.some.injEq] at h
        subst h
        simp only [Sem.run_bind, run_eqGuard_agg w _ t p q xs ys hg, Result.andThen_ok, run_eql_struct, eqV_run 10000 he hx hy]
      · rename_i b' he
        simp only [Option.some.injEq] at h
        subst h
        simp only [Sem.run_bind, run_eqGuard_agg w _ t p q xs ys hg, Result.andThen_ok, run_neq_struct, eqV_run 10000 he hx hy]
      · simp at h
  · simp at h

/-- ONE OPERATION: what the run says of it is so. -/
theorem op_wp {P : Program} {base : Nat} {X G : Nat → Prop} {τ : Nat → Gh} {env : Nat → V} {st : Nat → Option E.Obj} {ids : List Nat} {w : World} {a : Act} {o : Oper} {site : Nat} {ans : List Ans} {e : Eff} {rs : List Nat} {K : Act → World → Prop} {Q : Exit → Act → World → Prop}
    (hm : Mem base X G τ st w) (hbase : base ≤ w.heap.size) (hc : Closed ids st) (henv : ∀ t, (env t).rep w G τ (a.tmps.getD t Go.undef)) (hids : ∀ t, ∀ i ∈ (env t).ids, i ∈ ids)
    (hnew : ∀ i ∈ e.new, i ∉ ids) (h : (evalOp P (rdO env) site ans o).run st = some (e, rs)) (hp : ∀ p ∈ e.obs, p)
    (hK : ∀ x w' G' τ', e.v.rep w' G' τ' x → Mem base X G' τ' (putSt st e.ws) w' → Ext base X G w G' w' → (∀ i ∈ ids, τ' i = τ i) → K (a.put o.dst x) w') : o.wp P a w K Q := by
  have hr := rd_rep (w := w) (G := G) (τ := τ) (a := a) henv
  have hri := rd_ids hids
  have gen : (∀ cs b, o.op ≠ .select cs b) → (genOp P (rdO env) o).run st = some (e, rs) → o.wp P a w K Q := fun hsel hg =>
    wp_of_res (genOp_res hsel (fun x _ => hr x) hm hg) rfl hK
  unfold evalOp at h
  split at h
  · rename_i x ho
    exact wp_of_res (s := pure (.value (a.eval x))) (evMove_res hm hc hnew (hr x) h hp) (by simp only [execOp, ho]) hK
  · rename_i x ho
    exact wp_of_res (s := pure (.value (a.eval x))) (evMove_res hm hc hnew (hr x) h hp) (by simp only [execOp, ho]) hK
  · rename_i t ho
    exact wp_of_res (evAlloc_res hm hbase hc hnew h) (by simp only [execOp, ho]) hK
  · rename_i t x ho
    exact wp_of_res (evBox_res (t := t) hm hbase hc (hr x) (hri x) hnew h) (by simp only [execOp, ho]) hK
  · rename_i t ps ho
    exact wp_of_res (evBuild_res (ρ := a.eval) hm (fun p _ => hr p.2) h) (by simp only [execOp, ho]) hK
  · rename_i t n ps ho
    exact wp_of_res (evBuildSlice_res (ρ := a.eval) hm hbase hc hnew (fun p _ => hr p.2) h) (by simp only [execOp, ho]) hK
  · rename_i t x ho
    exact wp_of_res (evLoad_res hm (hr x) h hp) (by simp only [execOp, ho]) hK
  · rename_i t x y ho
    exact wp_of_res (evStore_res hm (hr x) (hr y) h hp) (by simp only [execOp, ho]) hK
  · rename_i x ho
    have hx := hr x
    split at h
    · rename_i i n q k hv
      simp only [T.run, Option.some.injEq, Prod.mk.injEq] at h
      obtain ⟨rfl, _⟩ := h
      rw [hv] at hx
      have hx' := hx
      simp only [V.rep] at hx
      obtain ⟨b, _, hxe⟩ := hx
      exact wp_of_res (s := pure (.value (a.eval x))) (OpRes.pure hm rfl hx') (by simp only [execOp, ho, hxe]) hK
    · rename_i n rows q k hv
      simp only [T.run, Option.some.injEq, Prod.mk.injEq] at h
      obtain ⟨rfl, _⟩ := h
      rw [hv] at hx
      have hx' := hx
      simp only [V.rep] at hx
      obtain ⟨b, _, _, _, _, hxe⟩ := hx
      exact wp_of_res (s := pure (.value (a.eval x))) (OpRes.pure hm rfl hx') (by simp only [execOp, ho, hxe]) hK
    · simp [T.run] at h
  · rename_i op t x y yt ho
    split at h
    · rename_i tt htt
      exact wp_of_res (sliceNil_res (p := x) (q := y) hm (hr x) (hr y) htt h hp) (by simp only [execOp, ho]) hK
    · rename_i hsn
      split at h
      · rename_i b hb
        obtain ⟨rfl, hcase⟩ := nilCmp_res hb (hr x) (hr y)
        split at h
        · rename_i el hu
          simp only [T.run, Option.some.injEq, Prod.mk.injEq] at h
          obtain ⟨rfl, _⟩ := h
          exact wp_of_res (OpRes.pure hm (run_v (run_binOp_nil (p := x) (q := y) (.inl rfl) hu hcase)) (by simp only [V.rep, V.repI]; rfl)) (by simp only [execOp, ho]) hK
        · rename_i el hu
          simp only [T.run, Option.some.injEq, Prod.mk.injEq] at h
          obtain ⟨rfl, _⟩ := h
          exact wp_of_res (OpRes.pure hm (run_v (run_binOp_nil (p := x) (q := y) (.inr rfl) hu hcase)) (by simp only [V.rep, V.repI]; rfl)) (by simp only [execOp, ho]) hK
        · simp [T.run] at h
      · split at h
        · rename_i b hb
          simp only [T.run, Option.some.injEq, Prod.mk.injEq] at h
          obtain ⟨rfl, _⟩ := h
          exact wp_of_res (OpRes.pure hm (run_v (aggCmp_run (p := x) (q := y) hb (hr x) (hr y))) (by simp only [V.rep, V.repI])) (by simp only [execOp, ho]) hK
        · simp [T.run] at h
        · exact gen (fun cs b => by rw [ho]; simp) h
  · rename_i ho; exact gen (fun cs b => by rw [ho]; simp) h
  · rename_i ho; exact gen (fun cs b => by rw [ho]; simp) h
  · rename_i ho; exact gen (fun cs b => by rw [ho]; simp) h
  · rename_i x i ho
    have hx := hr x
    split at h
    · rename_i vs hv
      split at h
      · rename_i v hvi
        simp only [T.run, Option.some.injEq, Prod.mk.injEq] at h
        obtain ⟨rfl, _⟩ := h
        rw [hv] at hx
        simp only [V.rep] at hx
        obtain ⟨xs, hxe, hl⟩ := hx
        obtain ⟨z, h1, h2⟩ := repL_get hl i v hvi
        refine wp_of_res (s := do pure (Next.value (← Instr.extract (a.eval x) i))) (OpRes.pure hm (run_v (x := z) ?_) h2) (by simp only [execOp, ho]) hK
        have h3 : xs[i]? = some z := by simpa using h1
        rw [hxe]
        simp only [Instr.extract, h3]
        rfl
      · simp [T.run] at h
    · simp [T.run] at h
  · rename_i t x f ho
    exact wp_of_res (evField_res hm (hr x) h) (by simp only [execOp, ho]) hK
  · rename_i t x i ho
    exact wp_of_res (evIndex_res hm (hr x) (hr i) h hp) (by simp only [execOp, ho]) hK
  · rename_i t x f ho
    exact wp_of_res (evFieldAddr_res hm (hr x) h) (by simp only [execOp, ho]) hK
  · rename_i t x i ho
    exact wp_of_res (evIndexAddr_res hm (hr x) (hr i) h hp) (by simp only [execOp, ho]) hK
  · rename_i t x lo hi mx ho
    have hx := hr x
    unfold evSliceOp at h
    split at h
    · rename_i id n p q hv
      rw [hv] at hx
      exact wp_of_res (evPart_res (ρ := a.eval) hm hx (fun y _ => hr y) (fun y _ => hr y) (fun y _ => hr y) h hp) (by simp only [execOp, ho]) hK
    · rename_i id hv
      rw [hv] at hx
      cases hf : flagged ans with
      | true =>
        simp only [hf, cond_true] at h
        exact wp_of_res (evPartOwn_res (ρ := a.eval) hm hx (fun y _ => hr y) (fun y _ => hr y) (fun y _ => hr y) h hp) (by simp only [execOp, ho]) hK
      | false =>
        simp only [hf, cond_false] at h
        split at h
        · rename_i hmx
          have hmx' : mx = none := by simpa using hmx
          subst hmx'
          exact wp_of_res (evSlice_res (ρ := a.eval) hm hx (fun y _ => hr y) (fun y _ => hr y) h hp) (by simp only [execOp, ho]; rfl) hK
        · simp [T.run] at h
    · split at h
      · rename_i hmx
        have hmx' : mx = none := by simpa using hmx
        subst hmx'
        exact wp_of_res (evSlice_res (ρ := a.eval) hm hx (fun y _ => hr y) (fun y _ => hr y) h hp) (by simp only [execOp, ho]; rfl) hK
      · simp [T.run] at h
  · rename_i t l c ho
    exact wp_of_res (evMakeSlice_res hm hbase hc hnew (hr l) (hr c) h hp) (by simp only [execOp, ho]) hK
  · rename_i fn first caps ho
    simp only [T.run, Option.some.injEq, Prod.mk.injEq] at h
    obtain ⟨rfl, _⟩ := h
    refine wp_of_res (s := do pure (Next.value (← Instr.makeFunc fn (first.map a.eval) (caps.map a.eval)))) (OpRes.pure hm (run_v rfl) ?_) (by simp only [execOp, ho]) hK
    simp only [V.rep]
    exact ⟨_, _, rfl, by simpa using repL_map hr first.toList, by simpa using repL_map hr caps.toList⟩
  · rename_i c ho
    split at h
    · rename_i f hcal
      split at h
      · rename_i tt hov
        unfold evOverlaps at hov
        split at hov
        · rename_i g i j n p q hargs
          cases hb : flagged ans && i != j with
          | false => simp only [hb, cond_false, reduceCtorEq] at hov
          | true =>
            simp only [hb, cond_true, Option.some.injEq] at hov
            subst hov
            simp only [Bool.and_eq_true, bne_iff_ne, ne_eq] at hb
            obtain ⟨o1, r1, ho1, h, _⟩ := run_ask h
            split at h
            · rename_i m rows
              obtain ⟨o2, r2, ho2, h, _⟩ := run_ask h
              split at h
              · rename_i k rows2 lim hpt
                cases hmn : m == n && k == n with
                | false => simp only [hmn, cond_false, T.run, reduceCtorEq] at h
                | true =>
                  simp only [hmn, cond_true, T.run, Option.some.injEq, Prod.mk.injEq] at h
                  obtain ⟨rfl, _⟩ := h
                  simp only [Bool.and_eq_true, beq_iff_eq] at hmn
                  obtain ⟨e1, e2⟩ := hmn
                  have e3 : k = n := e2
                  subst e1
                  subst e3
                  have hall := repL_map (rd := rdO env) (ρ := a.eval) hr c.args.toList
                  rw [hargs] at hall
                  obtain ⟨x, y, hxy, hxr, hyr⟩ : ∃ x y, c.args.toList.map a.eval = [x, y] ∧ (V.own i).rep w G τ x ∧ (V.vw j k p q).rep w G τ y := by
                    cases hl : c.args.toList.map a.eval with
                    | nil => rw [hl] at hall; simp only [repL] at hall
                    | cons x l => cases l with
                      | nil => rw [hl] at hall; simp only [repL] at hall; exact hall.2.elim
                      | cons y l => cases l with
                        | nil => rw [hl] at hall; simp only [repL] at hall; exact ⟨x, y, rfl, hall.1, hall.2.1⟩
                        | cons z l => rw [hl] at hall; simp only [repL] at hall; exact hall.2.2.elim
                  have hca : c.args.map a.eval = #[x, y] := by apply Array.ext'; simpa using hxy
                  have hrun := overlaps_run (P := P) hm ho1 ho2 hb.2 hpt hxr hyr (hp (IsOverlaps P g k) (by simp)) (hp (0 < rows.length) (by simp)) (hp (p < q) (by simp))
                  refine wp_of_res (s := execOp a.eval o) (OpRes.pure hm (x := .bool false) ?_ (by simp only [V.rep, V.repI])) rfl hK
                  simp only [execOp, ho, resolve, hcal, Act.eval, Deferred.ofValue, Sem.run_bind, Sem.run_pure, Result.andThen_ok, invoke, hca]
                  simpa using hrun
              · simp [T.run] at h
            · simp [T.run] at h
        · simp at hov
      have hfix : ∀ (ts : List TypeId) (vs : List V) (xs : List Value), repL w G τ vs xs → repL w G τ (fixAll P ts vs) xs := by
        intro ts
        induction ts with
        | nil => intro vs xs hv; simpa [fixAll] using hv
        | cons t ts ih =>
          intro vs xs hv
          cases vs with
          | nil => simpa [fixAll] using hv
          | cons v vs => cases xs with
            | nil => simp only [repL] at hv
            | cons x xs => simp only [repL] at hv; simp only [fixAll, repL]; exact ⟨rep_fixV hv.1, ih vs xs hv.2⟩
      have hargs : repL w G τ (fixQ P ans c.argTypes.toList (c.args.toList.map (rdO env))) (c.args.map a.eval).toList := by
        unfold fixQ
        cases flagged ans with
        | true => simpa using repL_map hr c.args.toList
        | false => exact hfix _ _ _ (by simpa using repL_map hr c.args.toList)
      refine evCall_wp (o := o) hm hbase hc (hr f) hargs (fun g first caps hf hgo => ?_) (fun g first caps hf => ?_) hnew h hp hK
      rotate_left
      · simp only [execOp, ho, resolve, hcal, Deferred.ofValue, hf, Sem.run_bind, Sem.run_pure, Result.andThen_ok, invoke]
      obtain ⟨fn, hfn, hname, hbody⟩ := hgo
      simp only [execOp, ho, resolve, hcal, Deferred.ofValue, hf, Sem.run_bind, Sem.run_pure, Result.andThen_ok, invoke, callFunc, run_program, hfn]
      have h1 : (fn.name == "runtime.NumGoroutine") = false := by simpa using hname
      have h2 : fn.body.isNone = false := by cases hb : fn.body <;> simp_all
      simp only [h1, h2, Bool.false_eq_true, if_false, Sem.run_pure]
    · rename_i hcal
      split at h
      · rename_i x t hx ht
        split at h
        · rename_i el hu
          have hca : c.args = #[x] := by apply Array.ext'; simpa using hx
          have hct : c.argTypes = #[t] := by apply Array.ext'; simpa using ht
          have hsel : ∀ cs b, o.op ≠ .select cs b := fun cs b => by rw [ho]; simp
          refine wp_of_res (evLen_res (rd := rdO env) (o := o) hm (hr x) (fun ad n cap hxe => ?_) (fun hg => genOp_res hsel (fun y _ => hr y) hm hg) h) rfl hK
          simp only [execOp, ho, resolve, hcal, Sem.run_bind, Sem.run_pure, Result.andThen_ok, invoke, builtin, hca, hct]
          simp [Builtin.len_, run_underlying hu, hxe, goInt]
        · exact gen (fun cs b => by rw [ho]; simp) h
      · simp [T.run] at h
    · rename_i hcal
      split at h
      · rename_i b x t u hx ht
        have hca : c.args = #[b, x] := by apply Array.ext'; simpa using hx
        have hct : c.argTypes = #[t, u] := by apply Array.ext'; simpa using ht
        have he : (execOp a.eval o).run P w = (do pure (Next.value (← Builtin.append_ #[t, u] o.type #[a.eval b, a.eval x])) : Sem Next).run P w := by
          simp only [execOp, ho, resolve, hcal, Sem.run_bind, Sem.run_pure, Result.andThen_ok, invoke, builtin, hca, hct]
          simp
        have fin : OpRes P base X ids G τ st w (do pure (Next.value (← Builtin.append_ #[t, u] o.type #[a.eval b, a.eval x]))) e → o.wp P a w K Q := by
          rintro ⟨x', w', G', τ', h1, h2⟩
          exact wp_of_res (s := execOp a.eval o) ⟨x', w', G', τ', by rw [he]; exact h1, h2⟩ rfl hK
        have hb := hr b
        unfold evAppendOp at h
        split at h
        · rename_i id n p q hv
          rw [hv] at hb
          cases hi : isIntT P u with
          | true =>
            simp only [hi, cond_true] at h
            split at h
            · rename_i k hk
              have hx := hr x
              rw [hk] at hx
              simp only [V.rep, V.repI] at hx
              refine fin ?_
              rw [hx]
              exact evGrow_res (ty := o.type) hm hbase hc hnew hb hi h hp
            · simp [T.run] at h
          | false =>
            simp only [hi, cond_false] at h
            exact fin (evAppendIn_res hm hb (hr x) h hp)
        · split at h
          · rename_i id2 n2 a2 b2 hxv
            have hx := hr x
            rw [hxv] at hx
            exact fin (evAppendVw_res (ty := o.type) hm hbase hc hnew hb hx h hp)
          · exact fin (evAppend_res (ty := o.type) hm hbase hc hnew hb (hr x) h hp)
      · simp [T.run] at h
    · rename_i hcal
      split at h
      · rename_i x t hx ht
        split at h
        · rename_i el hu
          have hca : c.args = #[x] := by apply Array.ext'; simpa using hx
          have hct : c.argTypes = #[t] := by apply Array.ext'; simpa using ht
          refine wp_of_res (s := execOp a.eval o) (evCap_res hm (hr x) (fun ad n cap hxe => ?_) h) rfl hK
          simp only [execOp, ho, resolve, hcal, Sem.run_bind, Sem.run_pure, Result.andThen_ok, invoke, builtin, hca, hct]
          simp [Builtin.cap_, run_underlying hu, hxe, goInt]
        · simp [T.run] at h
      · simp [T.run] at h
    · rename_i hcal
      split at h
      · rename_i d x t u hx ht
        have hca : c.args = #[d, x] := by apply Array.ext'; simpa using hx
        have hct : c.argTypes = #[t, u] := by apply Array.ext'; simpa using ht
        obtain ⟨x', w', G', τ', h1, h2⟩ := evCopy_res (u := u) (ty := o.type) (ids := ids) hm (hr d) (hr x) h hp
        refine wp_of_res (s := execOp a.eval o) ⟨x', w', G', τ', ?_, h2⟩ rfl hK
        have he : (execOp a.eval o).run P w = (do pure (Next.value (← Builtin.copy_ #[t, u] o.type #[a.eval d, a.eval x])) : Sem Next).run P w := by
          simp only [execOp, ho, resolve, hcal, Sem.run_bind, Sem.run_pure, Result.andThen_ok, invoke, builtin, hca, hct]
          simp
        rw [he]; exact h1
      · simp [T.run] at h
    · rename_i hcal
      split at h
      · rename_i x t hx ht
        have hca : c.args = #[x] := by apply Array.ext'; simpa using hx
        have hct : c.argTypes = #[t] := by apply Array.ext'; simpa using ht
        obtain ⟨x', w', G', τ', h1, h2⟩ := evClear_res (ty := o.type) (ids := ids) hm (hr x) h hp
        refine wp_of_res (s := execOp a.eval o) ⟨x', w', G', τ', ?_, h2⟩ rfl hK
        have he : (execOp a.eval o).run P w = (do pure (Next.value (← Builtin.clear_ #[t] o.type #[a.eval x])) : Sem Next).run P w := by
          simp only [execOp, ho, resolve, hcal, Sem.run_bind, Sem.run_pure, Result.andThen_ok, invoke, builtin, hca, hct]
          simp
        rw [he]; exact h1
      · simp [T.run] at h
    · exact gen (fun cs b => by rw [ho]; simp) h
    · exact gen (fun cs b => by rw [ho]; simp) h
    · simp [T.run] at h
  · simp [T.run] at h

end Go.Proofs.Ytfpdlamjlbpmkaa.E
