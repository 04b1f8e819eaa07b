/- The engine, part N: one operation, whatever it is. -/
import Derived.Laws.Concat
import Derived.Laws.StructEq
import Derived.ChangeKeysEq
import Derived.Laws.Small
import Derived.Scope
import Derived.ProofKit
import Derived.Carry
import GoSem.Extern.Table
import Derived.Test.YtinfjnnffmlpmaaGreatDoorShPlaysP1
namespace Go.Proofs.YtinfjnnffmlpmaaGreatDoor.E
open Go
set_option linter.unusedSimpArgs false

theorem ids_ofCell (x : Value) : (ofCell x).ids = [] := by unfold ofCell; split <;> rfl

theorem idsL_ofCell : ∀ l : List Value, idsL (l.map ofCell) = []
  | [] => rfl
  | x :: l => by simp only [List.map_cons, idsL, ids_ofCell, idsL_ofCell l, List.append_nil]

theorem ids_ofVal1 (x : Value) : (ofVal1 x).ids = [] := by
  unfold ofVal1; split
  · simp only [V.ids, idsL_ofCell]
  · exact ids_ofCell _

theorem idsL_ofVal1 : ∀ l : List Value, idsL (l.map ofVal1) = []
  | [] => rfl
  | x :: l => by simp only [List.map_cons, idsL, ids_ofVal1, idsL_ofVal1 l, List.append_nil]

theorem ids_ofVal (x : Value) : (ofVal x).ids = [] := by
  unfold ofVal; split
  · simp only [V.ids, idsL_ofVal1]
  · exact ids_ofVal1 _

theorem rd_rep {w : World} {G : Nat → Prop} {τ : Nat → Gh} {env : Nat → V} {a : Act} (h : ∀ t, (env t).rep w G τ (a.tmps.getD t Go.undef)) (x : Operand) : (rdO env x).rep w G τ (a.eval x) := by
  cases x with
  | tmp t => exact h t
  | const v => exact rep_ofVal v
  | global g => simp only [rdO, V.rep]
  | func f => simp only [rdO, V.rep, Act.eval]; exact ⟨#[], #[], rfl, by simp only [repL], by simp only [repL]⟩

theorem rd_ids {env : Nat → V} {ids : List Nat} (h : ∀ t, ∀ i ∈ (env t).ids, i ∈ ids) (x : Operand) : ∀ i ∈ (rdO env x).ids, i ∈ ids := by
  cases x with
  | tmp t => exact h t
  | const v => intro i hi; simp [rdO, ids_ofVal] at hi
  | global g => intro i hi; simp [rdO, V.ids] at hi
  | func f => intro i hi; simp [rdO, V.ids, idsL] at hi

theorem wp_of_res {P : Program} {base : Nat} {X G : Nat → Prop} {τ : Nat → Gh} {st : Nat → Option E.Obj} {w : World} {ids : List Nat} {o : Oper} {a : Act} {e : Eff} {K : Act → World → Prop} {Q : Exit → Act → World → Prop} {s : Sem Next}
    (hr : OpRes P base X ids G τ st w s e) (hs : execOp a.eval o = s)
    (hK : ∀ x w' G' τ', e.v.rep w' G' τ' x → Mem base X G' τ' (putSt st e.ws) w' → Ext base X G w G' w' → (∀ i ∈ ids, τ' i = τ i) → K (a.put o.dst x) w') : o.wp P a w K Q := by
  obtain ⟨x, w', G', τ', h1, h2, h3, h4, h5⟩ := hr
  unfold Oper.wp
  rw [hs]
  rcases h1 with h1 | ⟨h1, rfl⟩
  · rw [h1]; exact hK x w' G' τ' h2 h3 h4 h5
  · rw [h1]; exact hK _ w' G' τ' h2 h3 h4 h5

theorem repL_map {w : World} {G : Nat → Prop} {τ : Nat → Gh} {rd : Operand → V} {ρ : Operand → Value} (h : ∀ x, (rd x).rep w G τ (ρ x)) : ∀ l : List Operand, repL w G τ (l.map rd) (l.map ρ)
  | [] => by simp only [List.map_nil, repL]
  | x :: l => by simp only [List.map_cons, repL]; exact ⟨h x, repL_map h l⟩

theorem nilCmp_res {w : World} {G : Nat → Prop} {τ : Nat → Gh} {v u : V} {x y : Value} {b : Bool} (h : nilCmp v u = some b) (hv : v.rep w G τ x) (hu : u.rep w G τ y) :
    b = false ∧ (((∃ p, x = .pointer (some p)) ∧ y = .pointer none) ∨ (x = .pointer none ∧ ∃ p, y = .pointer (some p))) := by
  unfold nilCmp at h
  split at h <;> simp only [Option.some.injEq, reduceCtorEq] at h <;> subst h <;> refine ⟨rfl, ?_⟩
  · simp only [V.rep, V.repI] at hv hu; obtain ⟨q, _, rfl⟩ := hv; exact .inl ⟨⟨_, rfl⟩, hu⟩
  · simp only [V.rep, V.repI] at hv hu; obtain ⟨q, o, _, _, _, rfl⟩ := hv; exact .inl ⟨⟨_, rfl⟩, hu⟩
  · simp only [V.rep, V.repI] at hv hu; obtain ⟨q, _, rfl⟩ := hu; exact .inr ⟨hv, ⟨_, rfl⟩⟩
  · simp only [V.rep, V.repI] at hv hu; obtain ⟨q, o, _, _, _, rfl⟩ := hu; exact .inr ⟨hv, ⟨_, rfl⟩⟩

theorem run_eqIn_nil {P : Program} {w : World} {t el : TypeId} {x y : Value} (hu : P.underlying t = some (.pointer el)) (h : ((∃ p, x = .pointer (some p)) ∧ y = .pointer none) ∨ (x = .pointer none ∧ ∃ p, y = .pointer (some p))) (d : Nat) :
    (Op.equalIn (d + 1) t x y).run P w = .ok false w := by
  rcases h with ⟨⟨p, rfl⟩, rfl⟩ | ⟨rfl, ⟨p, rfl⟩⟩ <;> simp only [Op.equalIn, Sem.run_bind, run_underlying hu, Result.andThen_ok] <;> rfl

theorem run_binOp_nil {P : Program} {w : World} {t el : TypeId} {op : BinOp} {p q : Operand} {x y : Value} (hop : op = .eql ∨ op = .neq) (hu : P.underlying t = some (.pointer el)) (h : ((∃ p, x = .pointer (some p)) ∧ y = .pointer none) ∨ (x = .pointer none ∧ ∃ p, y = .pointer (some p))) :
    (do eqGuard op t p q x y; binOp op t x y : Sem Value).run P w = .ok (.bool (op == .neq)) w := by
  have h2 : (Op.equal t x y).run P w = .ok false w := run_eqIn_nil hu h 9999
  rcases hop with rfl | rfl <;> rcases h with ⟨⟨p, rfl⟩, rfl⟩ | ⟨rfl, ⟨p, rfl⟩⟩ <;> simp [eqGuard, binOp, h2]

theorem run_eqIn_sl {P : Program} {w : World} {t el : TypeId} {A : Addr} {n c : Nat} (hu : P.underlying t = some (.slice el)) (d : Nat) : (Op.equalIn (d + 1) t (.slice (some A) n c) (.slice none 0 0)).run P w = .ok false w := by
  simp only [Op.equalIn, Sem.run_bind, run_underlying hu, Result.andThen_ok]; rfl

theorem run_binOp_sliceNil {P : Program} {w : World} {t el : TypeId} {op : BinOp} {p q : Operand} {A : Addr} {n c : Nat} (hop : op = .eql ∨ op = .neq) (hu : P.underlying t = some (.slice el)) :
    (do eqGuard op t p q (.slice (some A) n c) (.slice none 0 0); binOp op t (.slice (some A) n c) (.slice none 0 0) : Sem Value).run P w = .ok (.bool (op == .neq)) w := by
  have h2 : (Op.equal t (.slice (some A) n c) (.slice none 0 0)).run P w = .ok false w := run_eqIn_sl hu 9999
  rcases hop with rfl | rfl <;> simp [eqGuard, binOp, h2]

theorem run_binOp_quo {P : Program} {w : World} {t : TypeId} {p q : Operand} {k : IntKind} {a b : Int} (hb : b ≠ 0) :
    (do eqGuard .quo t p q (.int k a) (.int k b); binOp .quo t (.int k a) (.int k b) : Sem Value).run P w = .ok (.int k (k.wrap (a.tdiv b))) w := by
  simp [eqGuard, binOp, Op.intDiv, hb]
theorem run_binOp_rem {P : Program} {w : World} {t : TypeId} {p q : Operand} {k : IntKind} {a b : Int} (hb : b ≠ 0) :
    (do eqGuard .rem t p q (.int k a) (.int k b); binOp .rem t (.int k a) (.int k b) : Sem Value).run P w = .ok (.int k (a.tmod b)) w := by
  simp [eqGuard, binOp, Op.intDiv, hb]

theorem run_binOp_shl {P : Program} {w : World} {t : TypeId} {p q : Operand} {k k' : IntKind} {a b : Int} (hb : 0 ≤ b) :
    (do eqGuard .shl t p q (.int k a) (.int k' b); binOp .shl t (.int k a) (.int k' b) : Sem Value).run P w = .ok (.int k (shlI k a b)) w := by
  have : ¬ (b < 0) := by omega
  simp [eqGuard, binOp, Op.shift, this, shlI]

theorem run_binOp_join {P : Program} {w : World} {t : TypeId} {p q : Operand} {a b : ByteArray} (h : a.size + b.size ≤ 9223372036854775807) :
    (do eqGuard .add t p q (.string a) (.string b); binOp .add t (.string a) (.string b) : Sem Value).run P w = .ok (.string (a ++ b)) w := by
  simp [eqGuard, binOp, run_string_add_sum w a b h]

theorem sliceNil_res {P : Program} {base : Nat} {X G : Nat → Prop} {τ : Nat → Gh} {st : Nat → Option E.Obj} {w : World} {ids : List Nat} {op : BinOp} {t : TypeId} {p q : Operand} {u v : V} {x y : Value} {e : Eff} {rs : List Nat} {tt : T Eff}
    (hm : Mem base X G τ st w) (hu : u.rep w G τ x) (hv : v.rep w G τ y) {fl : Bool} (ht : sliceNil P fl op t u v = some tt) (h : tt.run st = some (e, rs)) (hp : ∀ p ∈ e.obs, p) :
    OpRes P base X ids G τ st w (do pure (Next.value (← (do eqGuard op t p q x y; binOp op t x y : Sem Value)))) e := by
  have fin : ∀ {rows : List (List V)} {el : TypeId} {A : Addr} {n c : Nat} {b : Bool}, P.underlying t = some (.slice el) → op = .eql ∨ op = .neq → (op == .neq) = b → x = .slice (some A) n c → y = .slice none 0 0 →
      OpRes P base X ids G τ st w (do pure (Next.value (← (do eqGuard op t p q x y; binOp op t x y : Sem Value)))) ⟨.val (.bool b), [], [rows ≠ []], []⟩ := by
    rintro rows el A n c b h1 h2 rfl rfl rfl
    exact OpRes.pure hm (run_v (run_binOp_sliceNil h2 h1)) (by simp only [V.rep, V.repI])
  have sl : ∀ {n : Nat} {rows : List (List V)}, (V.sl n rows).rep w G τ x → rows ≠ [] → ∃ A k c, x = .slice (some A) k c := by
    intro n rows hr hne
    simp only [V.rep, V.repI] at hr
    obtain ⟨a, cap, hx, _, hr⟩ := hr
    rcases hr with hr | ⟨b, o, ha, _⟩
    · exact absurd hr hne
    · exact ⟨_, _, _, by rw [hx, ha]⟩
  have ow : ∀ {id n : Nat} {rows : List (List V)}, (V.own id).rep w G τ x → st id = some (.arr n rows) → rows ≠ [] → ∃ A k c, x = .slice (some A) k c := by
    intro id n rows hr ho hne
    have hok := hm.ok id _ ho
    simp only [Obj.ok] at hok
    simp only [V.rep, Gh.hdr] at hr
    rcases hok.2.2 with ⟨_, _, e3⟩ | ⟨b, _, _, _, _, e2, _⟩
    · exact absurd (List.eq_nil_of_length_eq_zero (by have := hok.2.1; omega)) hne
    · exact ⟨_, _, _, by rw [hr, e2]⟩
  unfold sliceNil at ht
  split at ht
  · rename_i k a k' b
    cases hb : fl with
    | false => simp [hb] at ht
    | true =>
      simp only [hb, cond_true] at ht
      simp only [V.rep, V.repI] at hu hv
      subst hu hv
      split at ht
      · cases ht
        simp only [T.run, Option.some.injEq, Prod.mk.injEq] at h
        obtain ⟨rfl, _⟩ := h
        exact OpRes.pure hm (run_v (run_binOp_shl (hp _ (by simp)))) (by simp only [V.rep, V.repI])
      · cases hk : decide (k = k') with
        | false => simp [hk] at ht
        | true =>
          have hk' : k = k' := by simpa using hk
          subst hk'
          simp only [hk, cond_true] at ht
          cases ht
          simp only [T.run, Option.some.injEq, Prod.mk.injEq] at h
          obtain ⟨rfl, _⟩ := h
          exact OpRes.pure hm (run_v (run_binOp_quo (hp _ (by simp)))) (by simp only [V.rep, V.repI])
      · cases hk : decide (k = k') with
        | false => simp [hk] at ht
        | true =>
          have hk' : k = k' := by simpa using hk
          subst hk'
          simp only [hk, cond_true] at ht
          cases ht
          simp only [T.run, Option.some.injEq, Prod.mk.injEq] at h
          obtain ⟨rfl, _⟩ := h
          exact OpRes.pure hm (run_v (run_binOp_rem (hp _ (by simp)))) (by simp only [V.rep, V.repI])
      · simp at ht
  · rename_i a b
    cases hb : fl with
    | false => simp [hb] at ht
    | true =>
      simp only [hb, cond_true] at ht
      simp only [V.rep, V.repI] at hu hv
      subst hu hv
      split at ht
      · cases ht
        simp only [T.run, Option.some.injEq, Prod.mk.injEq] at h
        obtain ⟨rfl, _⟩ := h
        exact OpRes.pure hm (run_v (run_binOp_join (hp _ (by simp)))) (by simp only [V.rep, V.repI])
      · simp at ht
  · rename_i n rows
    simp only [V.rep, V.repI] at hv
    split at ht
    · rename_i el hel
      cases ht
      simp only [T.run, Option.some.injEq, Prod.mk.injEq] at h
      obtain ⟨rfl, _⟩ := h
      obtain ⟨A, k, c, hx⟩ := sl hu (hp _ (by simp))
      exact fin hel (.inl rfl) rfl hx hv
    · rename_i el hel
      cases ht
      simp only [T.run, Option.some.injEq, Prod.mk.injEq] at h
      obtain ⟨rfl, _⟩ := h
      obtain ⟨A, k, c, hx⟩ := sl hu (hp _ (by simp))
      exact fin hel (.inr rfl) rfl hx hv
    · simp at ht
  · rename_i id
    simp only [V.rep, V.repI] at hv
    split at ht
    · rename_i el hel
      cases ht
      obtain ⟨o, r, ho, h, _⟩ := run_ask h
      split at h
      · rename_i n rows
        simp only [T.run, Option.some.injEq, Prod.mk.injEq] at h
        obtain ⟨rfl, _⟩ := h
        obtain ⟨A, k, c, hx⟩ := ow hu ho (hp _ (by simp))
        exact fin hel (.inl rfl) rfl hx hv
      · simp [T.run] at h
    · rename_i el hel
      cases ht
      obtain ⟨o, r, ho, h, _⟩ := run_ask h
      split at h
      · rename_i n rows
        simp only [T.run, Option.some.injEq, Prod.mk.injEq] at h
        obtain ⟨rfl, _⟩ := h
        obtain ⟨A, k, c, hx⟩ := ow hu ho (hp _ (by simp))
        exact fin hel (.inr rfl) rfl hx hv
      · simp [T.run] at h
    · simp at ht
  · simp at ht

theorem eqFields_run {P : Program} {w : World} {d : Nat} {xs ys : Array Value} {g : Field → Option Bool} (hg : ∀ f b, g f = some b → ∃ a c, (part f.type xs f.offset).run P w = .ok a w ∧ (part f.type ys f.offset).run P w = .ok c w ∧ (Op.equalIn d f.type a c).run P w = .ok b w) :
    ∀ {fs : List Field} {r : Bool}, eqFields g fs = some r → (Op.eqFields d xs ys fs).run P w = .ok r w
  | [], r, h => by
    simp only [eqFields, Option.some.injEq] at h
    subst h
    simp [Op.eqFields]
  | f :: fs, r, h => by
    simp only [eqFields] at h
    cases hn : f.name == "_" with
    | true =>
      simp only [hn, cond_true] at h
      have : f.name = "_" := by simpa using hn
      simp only [Op.eqFields, this, ne_eq, not_true_eq_false, if_false]
      exact eqFields_run hg h
    | false =>
      simp only [hn, cond_false] at h
      have hne : f.name ≠ "_" := by simpa using hn
      split at h
      · rename_i b r' hb hr
        simp only [Option.some.injEq] at h
        subst h
        obtain ⟨a, c, h1, h2, h3⟩ := hg f b hb
        have ih := eqFields_run hg hr
        simp only [Op.eqFields, hne, ne_eq, not_false_eq_true, if_true, Sem.run_bind, h1, h2, h3, Result.andThen_ok]
        cases b with
        | true => simpa using ih
        | false => simp
      · simp at h

theorem eqElems_run {P : Program} {w : World} {d m : Nat} {e : TypeId} {xs ys : Array Value} {g : Nat → Option Bool} (hg : ∀ i b, g i = some b → ∃ a c, (part e xs (i * m)).run P w = .ok a w ∧ (part e ys (i * m)).run P w = .ok c w ∧ (Op.equalIn d e a c).run P w = .ok b w) :
    ∀ (k i : Nat) {r : Bool}, eqElems g i k = some r → (Op.eqItems d e m xs ys (List.range' i k)).run P w = .ok r w
  | 0, i, r, h => by
    simp only [eqElems, Option.some.injEq] at h
    subst h
    simp [Op.eqItems]
  | k + 1, i, r, h => by
    simp only [eqElems] at h
    split at h
    · rename_i b r' hb hr
      simp only [Option.some.injEq] at h
      subst h
      obtain ⟨a, c, h1, h2, h3⟩ := hg i b hb
      have ih := eqElems_run hg k (i + 1) hr
      simp only [List.range'_succ, Op.eqItems, Sem.run_bind, h1, h2, h3, Result.andThen_ok]
      cases b with
      | true => simpa using ih
      | false => simp
    · simp at h

theorem eqV_run {P : Program} {w : World} {G : Nat → Prop} {τ : Nat → Gh} : ∀ (d : Nat) {t : TypeId} {u v : V} {x y : Value} {r : Bool}, eqV P d t u v = some r → u.rep w G τ x → v.rep w G τ y → (Op.equalIn d t x y).run P w = .ok r w
  | 0, _, _, _, _, _, _, h, _, _ => by simp [eqV] at h
  | d + 1, t, u, v, x, y, r, h, hu, hv => by
    simp only [eqV] at h
    split at h
    · rename_i ht
      split at h
      · simp only [Option.some.injEq] at h
        subst h
        simp only [V.rep, V.repI] at hu hv
        subst hu hv
        exact run_equalIn_bool w d t _ _ ht
      · simp at h
    · rename_i k0 ht
      split at h
      · rename_i k a k' b
        cases hk : decide (k = k') with
        | false => simp only [hk, cond_false, reduceCtorEq] at h
        | true =>
          have hkk : k = k' := of_decide_eq_true hk
          subst hkk
          rw [hk] at h
          simp only [cond_true, Option.some.injEq] at h
          subst h
          simp only [V.rep, V.repI] at hu hv
          subst hu hv
          rw [run_equalIn_int w d t k k0 a b ht]
          rfl
      · simp at h
    · rename_i ht
      split at h
      · simp only [Option.some.injEq] at h
        subst h
        simp only [V.rep, V.repI] at hu hv
        subst hu hv
        rw [run_equalIn_string w d t _ _ ht, beq_toListBytes]
      · simp at h
    · rename_i fs ht
      split at h
      · rename_i cs ds
        cases hb : P.stoodInHeld t with
        | true => simp only [hb, cond_true, reduceCtorEq] at h
        | false =>
          simp only [hb, cond_false] at h
          simp only [V.rep] at hu hv
          obtain ⟨xs, rfl, hxs⟩ := hu
          obtain ⟨ys, rfl, hys⟩ := hv
          have hf : P.fieldsOf t = fs := by simp [Program.fieldsOf, ht]
          rw [run_equalIn_agg w d t xs ys (by rw [hf]; exact ht) hb, hf]
          refine eqFields_run (fun f b hg => ?_) h
          split at hg
          · rename_i a c ha hc
            obtain ⟨p, h1, h2⟩ := takeCells_part hxs ha
            obtain ⟨q, h3, h4⟩ := takeCells_part hys hc
            exact ⟨p, q, h1, h3, eqV_run d hg h2 h4⟩
          · simp at hg
      · simp at h
    · rename_i n e ht
      split at h
      · rename_i cs ds m hm
        simp only [V.rep] at hu hv
        obtain ⟨xs, rfl, hxs⟩ := hu
        obtain ⟨ys, rfl, hys⟩ := hv
        have hi : ∃ i, P.info? e = some i ∧ m = P.cellsOf e := by
          simp only [szOf] at hm
          split at hm
          · rename_i i hi
            simp only [Option.some.injEq] at hm
            exact ⟨i, hi, by simp [Program.cellsOf, hi, hm]⟩
          · simp at hm
        obtain ⟨i, hi, rfl⟩ := hi
        rw [run_equalIn_array w d xs ys ht hi, List.range_eq_range']
        refine eqElems_run (fun j b hg => ?_) n 0 h
        split at hg
        · rename_i a c ha hc
          obtain ⟨p, h1, h2⟩ := takeCells_part hxs ha
          obtain ⟨q, h3, h4⟩ := takeCells_part hys hc
          exact ⟨p, q, h1, h3, eqV_run d hg h2 h4⟩
        · simp at hg
      · simp at h
    · simp at h

theorem aggCmp_run {P : Program} {w : World} {G : Nat → Prop} {τ : Nat → Gh} {op : BinOp} {t : TypeId} {p q : Operand} {u v : V} {x y : Value} {b : Bool} (h : aggCmp P op t u v = some (some b)) (hu : u.rep w G τ x) (hv : v.rep w G τ y) :
    (do eqGuard op t p q x y; binOp op t x y : Sem Value).run P w = .ok (.bool b) w := by
  unfold aggCmp at h
  split at h
  · rename_i cs ds
    cases hg : P.eqGuardType P.depth t with
    | true => simp [hg] at h
    | false =>
      simp only [hg, cond_false] at h
      have hx := hu
      have hy := hv
      simp only [V.rep] at hu hv
      obtain ⟨xs, rfl, _⟩ := hu
      obtain ⟨ys, rfl, _⟩ := hv
      split at h
      · rename_i b' he
        simp only [Option.some.injEq] at h
        subst h
        simp only [Sem.run_bind, run_eqGuard_agg w _ t p q xs ys hg, Result.andThen_ok, run_eql_struct, eqV_run 10000 he hx hy]
      · rename_i b' he
        simp only [Option.some.injEq] at h
        subst h
        simp only [Sem.run_bind, run_eqGuard_agg w _ t p q xs ys hg, Result.andThen_ok, run_neq_struct, eqV_run 10000 he hx hy]
      · simp at h
  · simp at h

/-- A call that turns one cell. -/
theorem evCell_wp {P : Program} {base : Nat} {X G : Nat → Prop} {τ : Nat → Gh} {st : Nat → Option E.Obj} {w : World} {ids : List Nat} {o : Oper} {a : Act} {k : IntKind} {y : Int} {rv : Value} {f : Operand} {c : Array Operand} {rd : Operand → V} {tt : T Eff} {e : Eff} {rs : List Nat}
    {K : Act → World → Prop} {Q : Exit → Act → World → Prop}
    (hm : Mem base X G τ st w) (hr : ∀ x, (rd x).rep w G τ (a.eval x)) (hov : evCell P k y rv f (c.toList.map rd) = some tt) (h : tt.run st = some (e, rs)) (hp : ∀ p ∈ e.obs, p)
    (hK : ∀ x w' G' τ', e.v.rep w' G' τ' x → Mem base X G' τ' (putSt st e.ws) w' → Ext base X G w G' w' → (∀ i ∈ ids, τ' i = τ i) → K (a.put o.dst x) w')
    (hs : ∀ g, f = .func g → (∃ fn, P.funcs[g]? = some fn ∧ fn.name ≠ "runtime.NumGoroutine" ∧ fn.body.isSome = true) → (execOp a.eval o).run P w = .ok (.enter g (c.map a.eval)) w) : o.wp P a w K Q := by
  have hall := repL_map (rd := rd) (ρ := a.eval) hr c.toList
  unfold evCell at hov
  split at hov
  · rename_i g id n row off more hargs
    rw [hargs] at hall
    split at hov
    · rename_i vs hvs
      simp only [Option.some.injEq] at hov
      subst hov
      obtain ⟨ob, r, ho, hh, _⟩ := run_ask h
      clear h
      split at hh
      · rename_i cells
        split at hh
        · rename_i k' x hx
          cases hz : row == 0 && decide (k' = k) with
          | false => simp [hz, T.run] at hh
          | true =>
            simp only [hz, cond_true, T.run, Option.some.injEq, Prod.mk.injEq] at hh
            obtain ⟨rfl, _⟩ := hh
            simp only [Bool.and_eq_true, beq_iff_eq, decide_eq_true_eq] at hz
            obtain ⟨rfl, rfl⟩ := hz
            obtain ⟨hgo, hrun⟩ : CellC P g k' x y vs rv := hp _ (by simp)
            have hlx : ∃ p ps, c.toList.map a.eval = p :: ps ∧ (V.ptr id n 0 off).rep w G τ p ∧ repL w G τ more ps := by
              cases hl : c.toList.map a.eval with
              | nil => rw [hl] at hall; simp only [repL] at hall
              | cons p ps => rw [hl] at hall; simp only [repL] at hall; exact ⟨p, ps, rfl, hall.1, hall.2⟩
            obtain ⟨p, ps, hl, hpr, hps⟩ := hlx
            have hpv := repL_cellVal hvs hps
            subst hpv
            simp only [V.rep] at hpr
            obtain ⟨b, hb, rfl⟩ := hpr
            have hok := hm.ok id _ ho
            simp only [Obj.ok] at hok
            obtain ⟨b', xs, t, fz, e1, e2, e3, e4, e5⟩ := hok
            rw [hb] at e1; cases e1
            obtain ⟨q, q1, q2⟩ := repL_get e5 off _ hx
            simp only [V.rep, V.repI] at q2
            subst q2
            have hlt : off < xs.size := by
              have := (List.getElem?_eq_some_iff.1 q1).1
              simpa using this
            have hcell : w.cell? ⟨b, 0 * n + off, none⟩ = some (.int k' x) := by rw [cell_of_heap e2]; simpa using q1
            have hfro : w.frozen? ⟨b, 0 * n + off, none⟩ = false := by
              have := e4 off hlt
              simp only [World.frozen?, e2, Nat.zero_mul, Nat.zero_add]
              rw [Bool.and_eq_false_iff, decide_eq_false_iff_not, decide_eq_false_iff_not]
              by_cases h : fz.1 ≤ off
              · exact .inr fun h2 => this ⟨h, h2⟩
              · exact .inl h
            have hown := hm.own id _ b ho hb
            have hca : c.map a.eval = (Value.pointer (some ⟨b, 0 * n + off, none⟩) :: ps).toArray := by apply Array.ext'; simpa using hl
            unfold Oper.wp
            rw [hs g rfl hgo, hca]
            refine Calls.mono (hrun w _ hcell hfro) ?_
            rintro ev w' ⟨rfl, rfl⟩
            have hse : w.setCell ⟨b, 0 * n + off, none⟩ (.int k' y) = w.setRow b (xs.setIfInBounds off (.int k' y)) := by
              rw [Nat.zero_mul, Nat.zero_add]; exact setCell_eq_setRow w b off xs t fz _ e2
            rw [hse]
            have hG' : ∀ q, G q → G q ∧ (w.setRow b (xs.setIfInBounds off (.int k' y))).heap[q]? = w.heap[q]? := fun q hq => ⟨hq, setRow_other w b q _ (fun e => e3 (e ▸ hq))⟩
            refine hK rv _ G τ (by simp only [V.rep, V.repI]) ?_ (Ext.setRow hown e3) (fun _ _ => rfl)
            refine Mem.set hm ho hb (by simp) (fun q hq => setRow_other w b q _ hq) ?_
            simp only [Obj.ok]
            refine ⟨b, _, t, fz, hb, setRow_heap w b xs _ t fz e2, e3, by simpa using e4, ?_⟩
            have k1 := repL_mono hG' cells _ (fun _ _ => rfl) e5
            have hlt' : off < cells.length := (List.getElem?_eq_some_iff.1 hx).1
            have f1 : cells.set off (.val (.int k' y)) = cells.take off ++ [.val (.int k' y)] ++ cells.drop (off + 1) := by rw [List.set_eq_take_append_cons_drop, if_pos hlt']; simp
            have f2 : (xs.setIfInBounds off (.int k' y)).toList = xs.toList.take off ++ [.int k' y] ++ xs.toList.drop (off + 1) := by
              rw [Array.toList_setIfInBounds, List.set_eq_take_append_cons_drop, if_pos (by simpa using hlt)]; simp
            rw [f1, f2]
            exact repL_append (repL_append (repL_take off k1) (by simp only [repL, V.rep, V.repI, and_self])) (repL_drop _ k1)
        · simp [T.run] at hh
      · simp [T.run] at hh
    · cases hov
  · cases hov

/-- ONE OPERATION: what the run says of it is so. -/
theorem op_wp {P : Program} {base : Nat} {X G : Nat → Prop} {τ : Nat → Gh} {env : Nat → V} {st : Nat → Option E.Obj} {ids : List Nat} {w : World} {a : Act} {o : Oper} {site : Nat} {ans : List Ans} {e : Eff} {rs : List Nat} {K : Act → World → Prop} {Q : Exit → Act → World → Prop}
    (hm : Mem base X G τ st w) (hbase : base ≤ w.heap.size) (hc : Closed ids st) (henv : ∀ t, (env t).rep w G τ (a.tmps.getD t Go.undef)) (hids : ∀ t, ∀ i ∈ (env t).ids, i ∈ ids)
    (hnew : ∀ i ∈ e.new, i ∉ ids) (hcl : ∀ i o c, Ans.cst i o c ∈ ans → cellIs (st i) o c) (h : (evalOp P (rdO env) site ans o).run st = some (e, rs)) (hp : ∀ p ∈ e.obs, p)
    (hK : ∀ x w' G' τ', e.v.rep w' G' τ' x → Mem base X G' τ' (putSt st e.ws) w' → Ext base X G w G' w' → (∀ i ∈ ids, τ' i = τ i) → K (a.put o.dst x) w') : o.wp P a w K Q := by
  have hr := rd_rep (w := w) (G := G) (τ := τ) (a := a) henv
  have hri := rd_ids hids
  have gen : (∀ cs b, o.op ≠ .select cs b) → (genOp P (rdO env) o).run st = some (e, rs) → o.wp P a w K Q := fun hsel hg =>
    wp_of_res (genOp_res hsel (fun x _ => hr x) hm hg) rfl hK
  unfold evalOp at h
  split at h
  · rename_i x ho
    exact wp_of_res (s := pure (.value (a.eval x))) (evMove_res hm hc hnew (hr x) h hp) (by simp only [execOp, ho]) hK
  · rename_i x ho
    exact wp_of_res (s := pure (.value (a.eval x))) (evMove_res hm hc hnew (hr x) h hp) (by simp only [execOp, ho]) hK
  · rename_i t ho
    exact wp_of_res (evAlloc_res hm hbase hc hnew h) (by simp only [execOp, ho]) hK
  · rename_i t x ho
    exact wp_of_res (evBoxA_res (t := t) hm hbase hc (hr x) (hri x) hnew h) (by simp only [execOp, ho]) hK
  · rename_i t ps ho
    exact wp_of_res (evBuild_res (ρ := a.eval) hm (fun p _ => hr p.2) h) (by simp only [execOp, ho]) hK
  · rename_i t n ps ho
    exact wp_of_res (evBuildSlice_res (ρ := a.eval) hm hbase hc hnew (fun p _ => hr p.2) h) (by simp only [execOp, ho]) hK
  · rename_i t x ho
    exact wp_of_res (evLoad_res hm hc hnew hcl (hr x) h hp) (by simp only [execOp, ho]) hK
  · rename_i t x y ho
    exact wp_of_res (evStore_res hm (hr x) (nilFix_rep (hr y)) h hp) (by simp only [execOp, ho]) hK
  · rename_i x ho
    have hx := hr x
    split at h
    · rename_i i n q k hv
      simp only [T.run, Option.some.injEq, Prod.mk.injEq] at h
      obtain ⟨rfl, _⟩ := h
      rw [hv] at hx
      have hx' := hx
      simp only [V.rep] at hx
      obtain ⟨b, _, hxe⟩ := hx
      exact wp_of_res (s := pure (.value (a.eval x))) (OpRes.pure hm rfl hx') (by simp only [execOp, ho, hxe]) hK
    · rename_i n rows q k hv
      simp only [T.run, Option.some.injEq, Prod.mk.injEq] at h
      obtain ⟨rfl, _⟩ := h
      rw [hv] at hx
      have hx' := hx
      simp only [V.rep] at hx
      obtain ⟨b, _, _, _, _, hxe⟩ := hx
      exact wp_of_res (s := pure (.value (a.eval x))) (OpRes.pure hm rfl hx') (by simp only [execOp, ho, hxe]) hK
    · simp [T.run] at h
  · rename_i op t x y yt ho
    split at h
    · rename_i tt htt
      exact wp_of_res (sliceNil_res (p := x) (q := y) hm (hr x) (hr y) htt h hp) (by simp only [execOp, ho]) hK
    · rename_i hsn
      split at h
      · rename_i b hb
        obtain ⟨rfl, hcase⟩ := nilCmp_res hb (hr x) (hr y)
        split at h
        · rename_i el hu
          simp only [T.run, Option.some.injEq, Prod.mk.injEq] at h
          obtain ⟨rfl, _⟩ := h
          exact wp_of_res (OpRes.pure hm (run_v (run_binOp_nil (p := x) (q := y) (.inl rfl) hu hcase)) (by simp only [V.rep, V.repI]; rfl)) (by simp only [execOp, ho]) hK
        · rename_i el hu
          simp only [T.run, Option.some.injEq, Prod.mk.injEq] at h
          obtain ⟨rfl, _⟩ := h
          exact wp_of_res (OpRes.pure hm (run_v (run_binOp_nil (p := x) (q := y) (.inr rfl) hu hcase)) (by simp only [V.rep, V.repI]; rfl)) (by simp only [execOp, ho]) hK
        · simp [T.run] at h
      · split at h
        · rename_i b hb
          simp only [T.run, Option.some.injEq, Prod.mk.injEq] at h
          obtain ⟨rfl, _⟩ := h
          exact wp_of_res (OpRes.pure hm (run_v (aggCmp_run (p := x) (q := y) hb (hr x) (hr y))) (by simp only [V.rep, V.repI])) (by simp only [execOp, ho]) hK
        · simp [T.run] at h
        · exact gen (fun cs b => by rw [ho]; simp) h
  · rename_i ho; exact gen (fun cs b => by rw [ho]; simp) h
  · rename_i s d x ho; exact wp_of_res (evConvert_res (ρ := a.eval) (by rw [ho]) (fun y _ => hr y) hm hbase h hp) rfl hK
  · rename_i ho; exact gen (fun cs b => by rw [ho]; simp) h
  · rename_i x i ho
    have hx := hr x
    split at h
    · rename_i vs hv
      split at h
      · rename_i v hvi
        simp only [T.run, Option.some.injEq, Prod.mk.injEq] at h
        obtain ⟨rfl, _⟩ := h
        rw [hv] at hx
        simp only [V.rep] at hx
        obtain ⟨xs, hxe, hl⟩ := hx
        obtain ⟨z, h1, h2⟩ := repL_get hl i v hvi
        refine wp_of_res (s := do pure (Next.value (← Instr.extract (a.eval x) i))) (OpRes.pure hm (run_v (x := z) ?_) h2) (by simp only [execOp, ho]) hK
        have h3 : xs[i]? = some z := by simpa using h1
        rw [hxe]
        simp only [Instr.extract, h3]
        rfl
      · simp [T.run] at h
    · simp [T.run] at h
  · rename_i t x f ho
    exact wp_of_res (evField_res hm (hr x) h) (by simp only [execOp, ho]) hK
  · rename_i t x i ho
    exact wp_of_res (evIndex_res hm (hr x) (hr i) h hp) (by simp only [execOp, ho]) hK
  · rename_i t x f ho
    exact wp_of_res (evFieldAddr_res hm (hr x) h) (by simp only [execOp, ho]) hK
  · rename_i t x i ho
    exact wp_of_res (evIndexAddr_res hm (hr x) (hr i) h hp) (by simp only [execOp, ho]) hK
  · rename_i t x lo hi mx ho
    have hx := hr x
    unfold evSliceOp at h
    split at h
    · rename_i id n p q hv
      rw [hv] at hx
      exact wp_of_res (evPart_res (ρ := a.eval) hm hx (fun y _ => hr y) (fun y _ => hr y) (fun y _ => hr y) h hp) (by simp only [execOp, ho]) hK
    · rename_i id hv
      rw [hv] at hx
      cases hf : flagged ans with
      | true =>
        simp only [hf, cond_true] at h
        split at h
        · exact wp_of_res (evCut3_res (ρ := a.eval) hm hc hnew hx (fun y _ => hr y) (fun y _ => hr y) (fun y _ => hr y) h hp) (by simp only [execOp, ho]) hK
        exact wp_of_res (evPartOwn_res (ρ := a.eval) hm hx (fun y _ => hr y) (fun y _ => hr y) (fun y _ => hr y) h hp) (by simp only [execOp, ho]) hK
      | false =>
        simp only [hf, cond_false] at h
        split at h
        · rename_i hmx
          have hmx' : mx = none := by simpa using hmx
          subst hmx'
          exact wp_of_res (evSlice_res (ρ := a.eval) hm hx (fun y _ => hr y) (fun y _ => hr y) h hp) (by simp only [execOp, ho]; rfl) hK
        · simp [T.run] at h
    · split at h
      · rename_i hmx
        have hmx' : mx = none := by simpa using hmx
        subst hmx'
        exact wp_of_res (evSlice_res (ρ := a.eval) hm hx (fun y _ => hr y) (fun y _ => hr y) h hp) (by simp only [execOp, ho]; rfl) hK
      · simp [T.run] at h
  · rename_i t l c ho
    split at h
    · exact wp_of_res (evMakeNestS_res hm hbase hc hnew (hr l) (hr c) h hp) (by simp only [execOp, ho]) hK
    · exact wp_of_res (evMakeNest_res hm hbase hc hnew (hr l) (hr c) h hp) (by simp only [execOp, ho]) hK
    · exact wp_of_res (evMakeVw_res hm hbase hc hnew (hr l) (hr c) h hp) (by simp only [execOp, ho]) hK
    · exact wp_of_res (evMakeSlice_res hm hbase hc hnew (hr l) (hr c) h hp) (by simp only [execOp, ho]) hK
  · rename_i t r ho
    refine wp_of_res (evMakeMap_res (rv := r.map a.eval) hm hbase hc hnew (fun h => by cases r with
      | none => rfl
      | some y => simp at h) h) (by simp only [execOp, ho]) hK
  · rename_i t x i ok ho
    exact wp_of_res (evLookup_res hm hc hnew (hr x) (hr i) h hp) (by simp only [execOp, ho]) hK
  · rename_i t x i y ho
    exact wp_of_res (evMapUpdate_res hm (hr x) (hr i) (hr y) h hp) (by simp only [execOp, ho]) hK
  · rename_i t x i y ho
    exact wp_of_res (evMapUpdate_res hm (hr x) (hr i) (hr y) h hp) (by simp only [execOp, ho]) hK
  · rename_i fn first caps ho
    simp only [T.run, Option.some.injEq, Prod.mk.injEq] at h
    obtain ⟨rfl, _⟩ := h
    refine wp_of_res (s := do pure (Next.value (← Instr.makeFunc fn (first.map a.eval) (caps.map a.eval)))) (OpRes.pure hm (run_v rfl) ?_) (by simp only [execOp, ho]) hK
    simp only [V.rep]
    exact ⟨_, _, rfl, by simpa using repL_map hr first.toList, by simpa using repL_map hr caps.toList⟩
  · rename_i c ho
    split at h
    · rename_i f hcal
      split at h
      · rename_i tt hov
        unfold evOverlaps at hov
        split at hov
        · refine evCell_wp (rd := rdO env) hm (fun y => hr y) hov h hp hK fun g hcf hgo => ?_
          obtain ⟨fn, hfn, hname, hbody⟩ := hgo
          subst hcf
          have h1 : (fn.name == "runtime.NumGoroutine") = false := by simpa using hname
          have h2 : fn.body.isNone = false := by cases hb : fn.body <;> simp_all
          simp only [execOp, ho, resolve, hcal, Act.eval, Deferred.ofValue, Sem.run_bind, Sem.run_pure, Result.andThen_ok, invoke, callFunc, run_program, hfn, h1, h2, Bool.false_eq_true, if_false]
          simp
        split at hov
        · rename_i g i j n p q hargs
          cases hb : flagged ans && i != j with
          | false => simp only [hb, cond_false, reduceCtorEq] at hov
          | true =>
            simp only [hb, cond_true, Option.some.injEq] at hov
            subst hov
            simp only [Bool.and_eq_true, bne_iff_ne, ne_eq] at hb
            obtain ⟨o1, r1, ho1, h, _⟩ := run_ask h
            split at h
            · rename_i m rows
              obtain ⟨o2, r2, ho2, h, _⟩ := run_ask h
              split at h
              · rename_i k rows2 lim hpt
                cases hmn : m == n && k == n with
                | false => simp only [hmn, cond_false, T.run, reduceCtorEq] at h
                | true =>
                  simp only [hmn, cond_true, T.run, Option.some.injEq, Prod.mk.injEq] at h
                  obtain ⟨rfl, _⟩ := h
                  simp only [Bool.and_eq_true, beq_iff_eq] at hmn
                  obtain ⟨e1, e2⟩ := hmn
                  have e3 : k = n := e2
                  subst e1
                  subst e3
                  have hall := repL_map (rd := rdO env) (ρ := a.eval) hr c.args.toList
                  rw [hargs] at hall
                  obtain ⟨x, y, hxy, hxr, hyr⟩ : ∃ x y, c.args.toList.map a.eval = [x, y] ∧ (V.own i).rep w G τ x ∧ (V.vw j k p q).rep w G τ y := by
                    cases hl : c.args.toList.map a.eval with
                    | nil => rw [hl] at hall; simp only [repL] at hall
                    | cons x l => cases l with
                      | nil => rw [hl] at hall; simp only [repL] at hall; exact hall.2.elim
                      | cons y l => cases l with
                        | nil => rw [hl] at hall; simp only [repL] at hall; exact ⟨x, y, rfl, hall.1, hall.2.1⟩
                        | cons z l => rw [hl] at hall; simp only [repL] at hall; exact hall.2.2.elim
                  have hca : c.args.map a.eval = #[x, y] := by apply Array.ext'; simpa using hxy
                  have hrun := overlaps_run (P := P) hm ho1 ho2 hb.2 hpt hxr hyr (hp (IsOverlaps P g k) (by simp)) (hp (0 < rows.length) (by simp)) (hp (p < q) (by simp))
                  refine wp_of_res (s := execOp a.eval o) (OpRes.pure hm (x := .bool false) ?_ (by simp only [V.rep, V.repI])) rfl hK
                  simp only [execOp, ho, resolve, hcal, Act.eval, Deferred.ofValue, Sem.run_bind, Sem.run_pure, Result.andThen_ok, invoke, hca]
                  simpa using hrun
              · simp [T.run] at h
            · simp [T.run] at h
        · simp at hov
      have hfix : ∀ (ts : List TypeId) (vs : List V) (xs : List Value), repL w G τ vs xs → repL w G τ (fixAll P ts vs) xs := by
        intro ts
        induction ts with
        | nil => intro vs xs hv; simpa [fixAll] using hv
        | cons t ts ih =>
          intro vs xs hv
          cases vs with
          | nil => simpa [fixAll] using hv
          | cons v vs => cases xs with
            | nil => simp only [repL] at hv
            | cons x xs => simp only [repL] at hv; simp only [fixAll, repL]; exact ⟨rep_fixV hv.1, ih vs xs hv.2⟩
      have hargs : repL w G τ (fixQ P ans c.argTypes.toList (c.args.toList.map (rdO env))) (c.args.map a.eval).toList := by
        unfold fixQ
        cases flagged ans with
        | true => simpa using repL_map hr c.args.toList
        | false => exact hfix _ _ _ (by simpa using repL_map hr c.args.toList)
      refine evCall_wp (o := o) hm hbase hc (hr f) hargs (fun g first caps hf hgo => ?_) (fun g first caps hf => ?_) hnew h hp hK
      rotate_left
      · simp only [execOp, ho, resolve, hcal, Deferred.ofValue, hf, Sem.run_bind, Sem.run_pure, Result.andThen_ok, invoke]
      obtain ⟨fn, hfn, hname, hbody⟩ := hgo
      simp only [execOp, ho, resolve, hcal, Deferred.ofValue, hf, Sem.run_bind, Sem.run_pure, Result.andThen_ok, invoke, callFunc, run_program, hfn]
      have h1 : (fn.name == "runtime.NumGoroutine") = false := by simpa using hname
      have h2 : fn.body.isNone = false := by cases hb : fn.body <;> simp_all
      simp only [h1, h2, Bool.false_eq_true, if_false, Sem.run_pure]
    · rename_i hcal
      split at h
      · rename_i x t hx ht
        split at h
        · rename_i el hu
          have hca : c.args = #[x] := by apply Array.ext'; simpa using hx
          have hct : c.argTypes = #[t] := by apply Array.ext'; simpa using ht
          have hsel : ∀ cs b, o.op ≠ .select cs b := fun cs b => by rw [ho]; simp
          refine wp_of_res (evLen_res (rd := rdO env) (o := o) hm (hr x) (fun ad n cap hxe => ?_) (fun hg => genOp_res hsel (fun y _ => hr y) hm hg) h) rfl hK
          simp only [execOp, ho, resolve, hcal, Sem.run_bind, Sem.run_pure, Result.andThen_ok, invoke, builtin, hca, hct]
          simp [Builtin.len_, run_underlying hu, hxe, goInt]
        · exact gen (fun cs b => by rw [ho]; simp) h
      · simp [T.run] at h
    · rename_i hcal
      split at h
      · rename_i b x t u hx ht
        have hca : c.args = #[b, x] := by apply Array.ext'; simpa using hx
        have hct : c.argTypes = #[t, u] := by apply Array.ext'; simpa using ht
        have he : (execOp a.eval o).run P w = (do pure (Next.value (← Builtin.append_ #[t, u] o.type #[a.eval b, a.eval x])) : Sem Next).run P w := by
          simp only [execOp, ho, resolve, hcal, Sem.run_bind, Sem.run_pure, Result.andThen_ok, invoke, builtin, hca, hct]
          simp
        have fin : OpRes P base X ids G τ st w (do pure (Next.value (← Builtin.append_ #[t, u] o.type #[a.eval b, a.eval x]))) e → o.wp P a w K Q := by
          rintro ⟨x', w', G', τ', h1, h2⟩
          exact wp_of_res (s := execOp a.eval o) ⟨x', w', G', τ', by rw [he]; exact h1, h2⟩ rfl hK
        have hb := hr b
        unfold evAppendOp at h
        split at h
        · rename_i id n p q hv
          rw [hv] at hb
          cases hi : isIntT P u with
          | true =>
            simp only [hi, cond_true] at h
            split at h
            · rename_i k hk
              have hx := hr x
              rw [hk] at hx
              simp only [V.rep, V.repI] at hx
              refine fin ?_
              rw [hx]
              exact evGrow_res (ty := o.type) hm hbase hc hnew hb hi h hp
            · simp [T.run] at h
          | false =>
            simp only [hi, cond_false] at h
            exact fin (evAppendIn_res hm hb (hr x) h hp)
        · split at h
          · rename_i id2 n2 a2 b2 hxv
            have hx := hr x
            rw [hxv] at hx
            exact fin (evAppendVw_res (ty := o.type) hm hbase hc hnew hb hx h hp)
          · exact fin (evAppend_res (ty := o.type) hm hbase hc hnew hb (hr x) h hp)
      · simp [T.run] at h
    · rename_i hcal
      split at h
      · rename_i x t hx ht
        split at h
        · rename_i el hu
          have hca : c.args = #[x] := by apply Array.ext'; simpa using hx
          have hct : c.argTypes = #[t] := by apply Array.ext'; simpa using ht
          refine wp_of_res (s := execOp a.eval o) (evCap_res hm (hr x) (fun ad n cap hxe => ?_) h) rfl hK
          simp only [execOp, ho, resolve, hcal, Sem.run_bind, Sem.run_pure, Result.andThen_ok, invoke, builtin, hca, hct]
          simp [Builtin.cap_, run_underlying hu, hxe, goInt]
        · simp [T.run] at h
      · simp [T.run] at h
    · rename_i hcal
      split at h
      · rename_i d x t u hx ht
        have hca : c.args = #[d, x] := by apply Array.ext'; simpa using hx
        have hct : c.argTypes = #[t, u] := by apply Array.ext'; simpa using ht
        obtain ⟨x', w', G', τ', h1, h2⟩ := evCopy_res (u := u) (ty := o.type) (ids := ids) hm (hr d) (hr x) h hp
        refine wp_of_res (s := execOp a.eval o) ⟨x', w', G', τ', ?_, h2⟩ rfl hK
        have he : (execOp a.eval o).run P w = (do pure (Next.value (← Builtin.copy_ #[t, u] o.type #[a.eval d, a.eval x])) : Sem Next).run P w := by
          simp only [execOp, ho, resolve, hcal, Sem.run_bind, Sem.run_pure, Result.andThen_ok, invoke, builtin, hca, hct]
          simp
        rw [he]; exact h1
      · simp [T.run] at h
    · rename_i hcal
      split at h
      · rename_i x t hx ht
        have hca : c.args = #[x] := by apply Array.ext'; simpa using hx
        have hct : c.argTypes = #[t] := by apply Array.ext'; simpa using ht
        obtain ⟨x', w', G', τ', h1, h2⟩ := evClear_res (ty := o.type) (ids := ids) hm (hr x) h hp
        refine wp_of_res (s := execOp a.eval o) ⟨x', w', G', τ', ?_, h2⟩ rfl hK
        have he : (execOp a.eval o).run P w = (do pure (Next.value (← Builtin.clear_ #[t] o.type #[a.eval x])) : Sem Next).run P w := by
          simp only [execOp, ho, resolve, hcal, Sem.run_bind, Sem.run_pure, Result.andThen_ok, invoke, builtin, hca, hct]
          simp
        rw [he]; exact h1
      · simp [T.run] at h
    · rename_i hcal
      split at h
      · rename_i x i t u hx ht
        have hca : c.args = #[x, i] := by apply Array.ext'; simpa using hx
        have hct : c.argTypes = #[t, u] := by apply Array.ext'; simpa using ht
        obtain ⟨x', w', G', τ', h1, h2⟩ := evDelete_res (kt2 := u) (ty := o.type) (ids := ids) hm (hr x) (hr i) h hp
        refine wp_of_res (s := execOp a.eval o) ⟨x', w', G', τ', ?_, h2⟩ rfl hK
        have he : (execOp a.eval o).run P w = (do pure (Next.value (← Builtin.delete_ #[t, u] o.type #[a.eval x, a.eval i])) : Sem Next).run P w := by
          simp only [execOp, ho, resolve, hcal, Sem.run_bind, Sem.run_pure, Result.andThen_ok, invoke, builtin, hca, hct]
          simp
        rw [he]; exact h1
      · simp [T.run] at h
    · exact gen (fun cs b => by rw [ho]; simp) h
    · exact gen (fun cs b => by rw [ho]; simp) h
    · simp [T.run] at h
  · simp [T.run] at h

end Go.Proofs.YtinfjnnffmlpmaaGreatDoor.E

/- The engine, part O: one operation in a frame; what it hangs on. -/
namespace Go.Proofs.YtinfjnnffmlpmaaGreatDoor.E
open Go
set_option linter.unusedSimpArgs false

theorem allSome_congr {α β : Type} {f g : α → Option β} : ∀ {l : List α}, (∀ x ∈ l, f x = g x) → allSome f l = allSome g l
  | [], _ => rfl
  | a :: l, h => by simp only [allSome, h a (by simp), allSome_congr (l := l) (fun x hx => h x (by simp [hx]))]

theorem genOp_congr {P : Program} {rd rd' : Operand → V} {o : Oper} (hs : ∀ cs b, o.op ≠ .select cs b) (h : ∀ x ∈ o.op.operands, rd x = rd' x) : genOp P rd o = genOp P rd' o := by
  unfold genOp
  rw [allSome_congr (f := fun x => (rd x).toVal) (g := fun x => (rd' x).toVal) (fun x hx => by rw [h x (by simpa using hx)])]
  rw [execOp_congr (ρ := fun x => ((rd x).toVal).getD Go.undef) (ρ' := fun x => ((rd' x).toVal).getD Go.undef) o hs (fun x hx => by simp only [h x hx])]

theorem evalOp_congr {P : Program} {rd rd' : Operand → V} {site : Nat} {ans : List Ans} {o : Oper} (h : ∀ x ∈ o.op.operands, rd x = rd' x) : evalOp P rd site ans o = evalOp P rd' site ans o := by
  have gen : (∀ cs b, o.op ≠ .select cs b) → genOp P rd o = genOp P rd' o := fun hs => genOp_congr hs h
  unfold evalOp
  cases ho : o.op with
  | move x => simp only [h x (by simp [ho, Op.operands])]
  | assign x => simp only [h x (by simp [ho, Op.operands])]
  | alloc t => rfl
  | box t x => simp only [h x (by simp [ho, Op.operands])]
  | build t ps =>
    have : (ps.toList.map fun p => (p.1, rd p.2)) = ps.toList.map fun p => (p.1, rd' p.2) := List.map_congr_left fun p hp => by rw [h p.2 (by simp only [ho, Op.operands, List.mem_toArray, List.mem_map]; exact ⟨p, hp, rfl⟩)]
    simp only [evBuild, this]
  | buildSlice t n ps =>
    have : (ps.toList.map fun p => (p.1, rd p.2)) = ps.toList.map fun p => (p.1, rd' p.2) := List.map_congr_left fun p hp => by rw [h p.2 (by simp only [ho, Op.operands, List.mem_toArray, List.mem_map]; exact ⟨p, hp, rfl⟩)]
    simp only [evBuildSlice, this]
  | load t a => simp only [h a (by simp [ho, Op.operands])]
  | store t a x => simp only [h a (by simp [ho, Op.operands]), h x (by simp [ho, Op.operands])]
  | nilCheck x => simp only [h x (by simp [ho, Op.operands])]
  | binOp op t x y yt => simp only [h x (by simp [ho, Op.operands]), h y (by simp [ho, Op.operands]), gen (fun cs b => by rw [ho]; simp)]
  | unOp op t x => exact gen (fun cs b => by rw [ho]; simp)
  | convert s d x => simp only [h x (by simp [ho, Op.operands]), evConvert, gen (fun cs b => by rw [ho]; simp)]
  | pick c x y => exact gen (fun cs b => by rw [ho]; simp)
  | extract x i => simp only [h x (by simp [ho, Op.operands])]
  | field t x f => simp only [h x (by simp [ho, Op.operands])]
  | index t x i => simp only [h x (by simp [ho, Op.operands]), h i (by simp [ho, Op.operands])]
  | fieldAddr t x f => simp only [h x (by simp [ho, Op.operands])]
  | indexAddr t x i => simp only [h x (by simp [ho, Op.operands]), h i (by simp [ho, Op.operands])]
  | slice t x lo hi mx =>
    have h1 : lo.map rd = lo.map rd' := by cases lo with
      | none => rfl
      | some y => simp [h y (by simp [ho, Op.operands])]
    have h2 : hi.map rd = hi.map rd' := by cases hi with
      | none => rfl
      | some y => simp [h y (by simp [ho, Op.operands])]
    have h3 : mx.map rd = mx.map rd' := by cases mx with
      | none => rfl
      | some y => simp [h y (by simp [ho, Op.operands])]
    simp only [h x (by simp [ho, Op.operands]), h1, h2, h3]
  | makeSlice t l c => simp only [h l (by simp [ho, Op.operands]), h c (by simp [ho, Op.operands])]
  | makeMap t r => cases r with
    | none => rfl
    | some y => simp [h y (by simp [ho, Op.operands])]
  | lookup t x i ok => simp only [h x (by simp [ho, Op.operands]), h i (by simp [ho, Op.operands])]
  | mapUpdate t x i y => simp only [h x (by simp [ho, Op.operands]), h i (by simp [ho, Op.operands]), h y (by simp [ho, Op.operands])]
  | insert t x i y => simp only [h x (by simp [ho, Op.operands]), h i (by simp [ho, Op.operands]), h y (by simp [ho, Op.operands])]
  | makeFunc fn f c =>
    have h1 : f.toList.map rd = f.toList.map rd' := List.map_congr_left fun y hy => h y (by simp only [ho, Op.operands, Array.mem_append]; exact .inl (by simpa using hy))
    have h2 : c.toList.map rd = c.toList.map rd' := List.map_congr_left fun y hy => h y (by simp only [ho, Op.operands, Array.mem_append]; exact .inr (by simpa using hy))
    simp only [h1, h2]
  | call c =>
    have hargs : ∀ y ∈ c.args.toList, rd y = rd' y := fun y hy => h y (by simp only [ho, Op.operands, Call.operands, Array.mem_append]; exact .inr (by simpa using hy))
    have h1 : c.args.toList.map rd = c.args.toList.map rd' := List.map_congr_left hargs
    have hg := gen (fun cs b => by rw [ho]; simp)
    simp only
    cases hcal : c.callee with
    | value f => simp only [h1, h f (by simp [ho, Op.operands, Call.operands, hcal])]
    | invoke r m => rfl
    | builtin b =>
      cases b <;> simp only [hg]
      · split
        · rename_i x y t u hx ht
          rw [hx] at hargs
          simp only [hargs x (by simp), hargs y (by simp)]
        · rfl
      · split
        · rename_i x t hx ht
          rw [hx] at hargs
          simp only [hargs x (by simp)]
        · rfl
      · split
        · rename_i x t hx ht
          rw [hx] at hargs
          simp only [hargs x (by simp)]
        · rfl
      · split
        · rename_i x y t u hx ht
          rw [hx] at hargs
          simp only [hargs x (by simp), hargs y (by simp)]
        · rfl
      · split
        · rename_i x y t u hx ht
          rw [hx] at hargs
          simp only [hargs x (by simp), hargs y (by simp)]
        · rfl
      · split
        · rename_i x t hx ht
          rw [hx] at hargs
          simp only [hargs x (by simp), evLen, hg]
        · rfl
  | _ => rfl

theorem rdO_congr {env env' : Nat → V} {l : List Nat} {xs : Array Operand} (hl : ∀ t, (Operand.tmp t) ∈ xs → t ∈ l) (h : ∀ t ∈ l, env t = env' t) : ∀ x ∈ xs, rdO env x = rdO env' x := by
  intro x hx
  cases x with
  | tmp t => exact h t (hl t hx)
  | const v => rfl
  | global g => rfl
  | func f => rfl

theorem guardOf_congr {ops : Array Oper} {env env' : Nat → V} {o : Oper} (h : ∀ t ∈ looksOf ops o, env t = env' t) : guardOf ops env o = guardOf ops env' o := by
  unfold guardOf
  unfold looksOf at h
  cases hg : o.guard with
  | none => rfl
  | some p =>
    obtain ⟨j, want⟩ := p
    simp only [hg] at h ⊢
    cases hj : ops[j]? with
    | none => rfl
    | some oj =>
      simp only [hj] at h ⊢
      cases hd : oj.dst with
      | none => rfl
      | some d =>
        simp only [hd] at h ⊢
        rw [h d (by simp)]

theorem logOp_congr {P : Program} {rid : Nat} {ops : Array Oper} {sc : List (Nat × List Ans × Option Bool)} {i : Nat} {o : Oper} {env env' : Nat → V} {st st' : Nat → Option E.Obj} {l : Log}
    (h : logOp P rid ops sc i o env st = some l) (he : ∀ t ∈ looksOf ops o, env' t = env t) (hs : ∀ j ∈ l.rs, st' j = st j) : logOp P rid ops sc i o env' st' = some l := by
  unfold logOp at h ⊢
  rw [guardOf_congr (env := env') (env' := env) he]
  split at h
  · simp at h
  · exact h
  · have hev : evalOp P (rdO env') (site rid i) (ansOf i sc).1 o = evalOp P (rdO env) (site rid i) (ansOf i sc).1 o := by
      refine evalOp_congr (rdO_congr (l := looksOf ops o) (fun t ht => ?_) he)
      unfold looksOf
      rw [List.mem_append]
      left
      rw [List.mem_filterMap]
      exact ⟨.tmp t, by simpa using ht, rfl⟩
    rw [hev]
    split at h
    · simp at h
    · rename_i e rs hr
      simp only [Option.some.injEq] at h
      subst h
      simp only [T.run_congr hr hs]

theorem getD_put {a : Act} {dst : Option Nat} {x : Value} {n : Nat} (hn : a.tmps.size = n) (hd : dstOk n dst = true) (t : Nat) : (a.put dst x).tmps.getD t Go.undef = if dst = some t then x else a.tmps.getD t Go.undef := by
  cases dst with
  | none => simp [Act.put]
  | some d =>
    have hlt : d < a.tmps.size := by rw [hn]; simpa [dstOk, Nat.blt_eq] using hd
    by_cases hdt : d = t
    · subst hdt
      simp [Act.put, hlt]
    · simp [Act.put, hdt, Array.getElem?_setIfInBounds_ne hdt]

theorem putSt_some : ∀ {ws : List (Nat × Option E.Obj)} {st : Nat → Option E.Obj} {i : Nat} {o : E.Obj}, putSt st ws i = some o → (i, some o) ∈ ws ∨ st i = some o
  | [], _, _, _, h => .inr h
  | (j, p) :: ws, st, i, o, h => by
    simp only [putSt] at h
    rcases putSt_some h with h | h
    · exact .inl (by simp [h])
    · by_cases hij : i = j
      · subst hij; simp at h; subst h; exact .inl (by simp)
      · have : (i == j) = false := by simpa using hij
        simp only [this, cond_false] at h
        exact .inr h

/-- The frame behind an operation. -/
theorem St.put {base : Nat} {X G G' : Nat → Prop} {τ τ' : Nat → Gh} {σ : S} {a : Act} {w w' : World} {dst : Option Nat} {x : Value} {v : V} {ws : List (Nat × Option E.Obj)} {new : List Nat}
    (hs : St base X G τ σ a w) (hd : dstOk σ.n dst = true) (hr : v.rep w' G' τ' x) (hm : Mem base X G' τ' (putSt σ.st ws) w') (he : Ext base X G w G' w') (ht : ∀ i ∈ σ.ids, τ' i = τ i)
    (hv : ∀ i ∈ v.ids, i ∈ new ++ σ.ids) (hw : ∀ i ∈ ws.map (·.1), i ∈ new ++ σ.ids) (hwo : ∀ i o, (i, some o) ∈ ws → ∀ j ∈ idsObj o, j ∈ new ++ σ.ids) :
    St base X G' τ' ⟨σ.n, putEnv σ.env dst v, putSt σ.st ws, new ++ σ.ids⟩ (a.put dst x) w' := by
  refine ⟨hm, Nat.le_trans hs.base he.size, ?_, fun t => ?_, fun t i hi => ?_, fun i o hi => ?_, ?_⟩
  · cases dst <;> simp [Act.put, hs.size]
  · rw [getD_put hs.size hd]
    have hold : (σ.env t).rep w' G' τ' (a.tmps.getD t Go.undef) := rep_mono he.keep _ _ (fun i hi => ht i (hs.ids t i hi)) (hs.env t)
    cases dst with
    | none => simpa [putEnv] using hold
    | some d =>
      simp only [putEnv]
      by_cases hdt : t = d
      · subst hdt; simpa using hr
      · have h1 : (t == d) = false := by simpa using hdt
        have h2 : ¬ d = t := fun e => hdt e.symm
        simp only [h1, cond_false, Option.some.injEq, h2, if_false]
        exact hold
  · cases dst with
    | none => exact List.mem_append.2 (.inr (hs.ids t i hi))
    | some d =>
      simp only [putEnv] at hi
      by_cases hdt : t = d
      · subst hdt; simp only [beq_self_eq_true, cond_true] at hi; exact hv i hi
      · have h1 : (t == d) = false := by simpa using hdt
        simp only [h1, cond_false] at hi
        exact List.mem_append.2 (.inr (hs.ids t i hi))
  · rcases putSt_some hi with h | h
    · exact ⟨hw i (List.mem_map.2 ⟨_, h, rfl⟩), hwo i o h⟩
    · obtain ⟨h1, h2⟩ := hs.objs i o h
      exact ⟨List.mem_append.2 (.inr h1), fun j hj => List.mem_append.2 (.inr (h2 j hj))⟩
  · cases dst <;> simp [Act.put, hs.defers]

theorem wanted_of {ops : Array Oper} {base : Nat} {X G : Nat → Prop} {τ : Nat → Gh} {σ : S} {a : Act} {w : World} {o : Oper} {b : Bool} (hs : St base X G τ σ a w) (h : guardOf ops σ.env o = some b) : Region.wanted o (yielded ops a.tmps) = b := by
  unfold guardOf at h
  unfold Region.wanted
  cases hg : o.guard with
  | none => simpa [hg] using h
  | some p =>
    obtain ⟨j, want⟩ := p
    simp only [hg] at h ⊢
    cases hj : ops[j]? with
    | none => simp [hj] at h
    | some oj =>
      simp only [hj] at h
      cases hd : oj.dst with
      | none => simp [hd] at h
      | some d =>
        simp only [hd] at h
        have hrep := hs.env d
        split at h
        · rename_i q hq
          simp only [Option.some.injEq] at h
          rw [hq] at hrep
          simp only [V.rep, V.repI] at hrep
          have hget : a.tmps[d]? = some (.bool q) := by
            cases hx : a.tmps[d]? with
            | none => simp [hx, Go.undef] at hrep
            | some y => simp [hx] at hrep; rw [hrep]
          simp only [yielded, hj, Option.bind_some, hd, hget]
          rw [← h]
          cases q <;> cases want <;> rfl
        · rename_i q hq
          simp only [Option.some.injEq] at h
          rw [hq] at hrep
          simp only [V.rep, V.repI] at hrep
          have hy : yielded ops a.tmps j = none := by
            simp only [yielded, hj, Option.bind_some, hd]
            cases hx : a.tmps[d]? with
            | none => rfl
            | some y => simp [hx] at hrep; subst hrep; rfl
          rw [hy, ← h]
          rfl
        · simp at h

theorem claims1_mem : ∀ {as : List Ans} {i o : Nat} {c : V}, Ans.cst i o c ∈ as → (i, o, c) ∈ claims1 as
  | [], _, _, _, h => by simp at h
  | a :: as, i, o, c, h => by
    rcases List.mem_cons.1 h with rfl | h
    · simp [claims1]
    · have := claims1_mem h
      cases a <;> simp [claims1, this]

theorem claims_mem : ∀ {sc : List (Nat × List Ans × Option Bool)} {k i o : Nat} {c : V}, Ans.cst i o c ∈ (ansOf k sc).1 → (i, o, c) ∈ claims sc
  | [], _, _, _, _, h => by simp [ansOf] at h
  | (j, a, b) :: sc, k, i, o, c, h => by
    simp only [ansOf] at h
    simp only [claims, List.mem_append]
    cases hk : k == j with
    | true => simp only [hk, cond_true] at h; exact .inl (claims1_mem h)
    | false => simp only [hk, cond_false] at h; exact .inr (claims_mem h)

theorem claims_keep {cl : List (Nat × Nat × V)} : ∀ {ws : List (Nat × Option E.Obj)} {st : Nat → Option E.Obj}, (∀ p ∈ keepObs cl ws, p) → (∀ c ∈ cl, cellIs (st c.1) c.2.1 c.2.2) → ∀ c ∈ cl, cellIs (putSt st ws c.1) c.2.1 c.2.2
  | [], _, _, h => h
  | (i, o) :: ws, st, hk, h => by
    simp only [putSt]
    refine claims_keep (ws := ws) (fun p hp => hk p (by simp only [keepObs, List.mem_append]; exact .inr hp)) fun c hc => ?_
    cases hi : c.1 == i with
    | true =>
      simp only [cond_true]
      exact hk _ (by simp only [keepObs, List.mem_append, List.mem_map, List.mem_filter]; exact .inl ⟨c, ⟨hc, hi⟩, rfl⟩)
    | false => simp only [cond_false]; exact h c hc

theorem logOp_keep {P : Program} {rid : Nat} {ops : Array Oper} {sc : List (Nat × List Ans × Option Bool)} {i : Nat} {o : Oper} {env : Nat → V} {st : Nat → Option E.Obj} {l : Log} (h : logOp P rid ops sc i o env st = some l) :
    ∀ p ∈ keepObs (claims sc) l.ws, p ∈ l.obs := by
  unfold logOp at h
  split at h
  · simp at h
  · simp only [Option.some.injEq] at h; subst h; simp [keepObs]
  · split at h
    · simp at h
    · simp only [Option.some.injEq] at h; subst h; exact fun p hp => List.mem_append.2 (.inr hp)

/-- One operation in a frame. -/
theorem log_wp {P : Program} {base : Nat} {X G : Nat → Prop} {τ : Nat → Gh} {σ : S} {a : Act} {w : World} {rid : Nat} {ops : Array Oper} {sc : List (Nat × List Ans × Option Bool)} {i : Nat} {o : Oper} {l : Log} {K : Act → World → Prop} {Q : Exit → Act → World → Prop}
    (hs : St base X G τ σ a w) (hcl : ∀ c ∈ claims sc, cellIs (σ.st c.1) c.2.1 c.2.2) (ho : ops[i]? = some o) (h : logOp P rid ops sc i o σ.env σ.st = some l) (hp : ∀ p ∈ l.obs, p) (hd : dstOk σ.n o.dst = true) (hn : disjoint l.new σ.ids = true) (hv : ∀ j ∈ l.vids, j ∈ l.new ++ σ.ids)
    (hK : ∀ a' w' G' τ', St base X G' τ' ⟨σ.n, putEnv σ.env o.dst l.v, putSt σ.st l.ws, l.new ++ σ.ids⟩ a' w' → Ext base X G w G' w' → (∀ i ∈ σ.ids, τ' i = τ i) → K a' w') : wpOp P ops Q i K a w := by
  unfold wpOp
  rw [ho]
  simp only
  have hv1 : ∀ j ∈ l.v.ids, j ∈ l.new ++ σ.ids := fun j hj => hv j (by simp only [Log.vids, List.mem_append]; exact .inl hj)
  have hv2 : ∀ j ∈ l.ws.map (·.1), j ∈ l.new ++ σ.ids := fun j hj => hv j (by simp only [Log.vids, List.mem_append, Log.touch]; exact .inr (.inl hj))
  have hv3 : ∀ i o, (i, some o) ∈ l.ws → ∀ j ∈ idsObj o, j ∈ l.new ++ σ.ids := fun i o hi j hj => hv j (by
    simp only [Log.vids, List.mem_append]
    exact .inr (.inr (List.mem_flatMap.2 ⟨(i, some o), hi, hj⟩)))
  unfold logOp at h
  split at h
  · simp at h
  · rename_i hg
    simp only [Option.some.injEq] at h
    subst h
    rw [wanted_of hs hg]
    simp only [Bool.false_eq_true, if_false]
    exact hK _ w G τ (St.put hs hd (by simp only [V.rep, V.repI]) hs.mem (Ext.refl _ _ _ _) (fun _ _ => rfl) hv1 hv2 hv3) (Ext.refl _ _ _ _) (fun _ _ => rfl)
  · rename_i hg
    rw [wanted_of hs hg]
    simp only [if_true]
    left
    split at h
    · simp at h
    · rename_i e rs hr
      simp only [Option.some.injEq] at h
      subst h
      obtain ⟨e0, r1, r2, h1, h2', _⟩ := T.run_bind_some hr
      obtain ⟨e1, r3, r4, h3, h2'', _⟩ := T.run_bind_some h2'
      obtain ⟨e2, r5, r6, h4, h2, _⟩ := T.run_bind_some h2''
      have hdec1 : e.ws = e2.ws ∧ e.new = e2.new ∧ (∀ p ∈ e2.obs, p) ∧ ∀ {w' : World} {G' : Nat → Prop} {τ' : Nat → Gh} {x : Value}, e2.v.rep w' G' τ' x → e.v.rep w' G' τ' x := by
        unfold decided at h2
        split at h2
        · simp only [T.run, Option.some.injEq, Prod.mk.injEq] at h2
          obtain ⟨rfl, _⟩ := h2
          exact ⟨rfl, rfl, fun p hpm => hp p (List.mem_append.2 (.inl hpm)), fun h => h⟩
        · rename_i t _
          split at h2
          · rename_i b hb
            simp only [T.run, Option.some.injEq, Prod.mk.injEq] at h2
            obtain ⟨rfl, _⟩ := h2
            have hbt : b = t := hp (b = t) (by simp)
            refine ⟨rfl, rfl, fun p hpm => hp p (by simp [hpm]), fun h => ?_⟩
            rw [hb, hbt] at h
            exact h
          · simp [T.run] at h2
      obtain ⟨q1, q2, q3, q4⟩ := hdec1
      obtain ⟨f1, f2, f3⟩ := ghost_spec h4 q3
      obtain ⟨k1, k2, k3, k4⟩ := recast_spec h3 f2
      refine op_wp (rs := r1) hs.mem hs.base hs.objs hs.env hs.ids (fun j hj => ?_) (fun i o c hc => hcl _ (claims_mem hc)) h1 k4 (fun x w' G' τ' g1 g2 g3 g4 => ?_)
      · exact disjoint_spec hn j (by rw [q2, f1, k3]; exact hj)
      · obtain ⟨G2, d1, d2, d3⟩ := f3 (by rw [k1]; exact g1) (by rw [k2]; exact g2)
        exact hK _ w' G2 τ' (St.put hs hd (q4 d1) (by simp only [q1]; exact d2) (g3.trans d3) g4 hv1 hv2 hv3) (g3.trans d3) g4

end Go.Proofs.YtinfjnnffmlpmaaGreatDoor.E

/- The engine, part P: regions, also those whose order is open. -/
namespace Go.Proofs.YtinfjnnffmlpmaaGreatDoor.E
open Go
set_option linter.unusedSimpArgs false

theorem runOps_cons {P : Program} {rid : Nat} {ops : Array Oper} {sc : List (Nat × List Ans × Option Bool)} {i : Nat} {is : List Nat} {σ σ' : S} {ls : List Log} (h : runOps P rid ops sc (i :: is) σ = some (σ', ls)) :
    ∃ o l ls', ops[i]? = some o ∧ logOp P rid ops sc i o σ.env σ.st = some l ∧ dstOk σ.n o.dst = true ∧ nodupB l.new = true ∧ disjoint l.new σ.ids = true ∧ subset l.vids (l.new ++ σ.ids) = true ∧
      ls = l :: ls' ∧ runOps P rid ops sc is ⟨σ.n, putEnv σ.env o.dst l.v, putSt σ.st l.ws, l.new ++ σ.ids⟩ = some (σ', ls') := by
  unfold runOps at h
  split at h
  · simp at h
  · rename_i o ho
    split at h
    · simp at h
    · rename_i l hl
      cases hb : dstOk σ.n o.dst && nodupB l.new && disjoint l.new σ.ids && subset l.vids (l.new ++ σ.ids) with
      | false => simp only [hb, cond_false, reduceCtorEq] at h
      | true =>
        simp only [hb, cond_true] at h
        simp only [Bool.and_eq_true] at hb
        split at h
        · simp at h
        · rename_i σ2 ls2 h2
          simp only [Option.some.injEq, Prod.mk.injEq] at h
          obtain ⟨rfl, rfl⟩ := h
          exact ⟨o, l, ls2, ho, hl, hb.1.1.1, hb.1.1.2, hb.1.2, hb.2, rfl, h2⟩

/-- In the text's order. -/
theorem runOps_wp {P : Program} {base : Nat} {X : Nat → Prop} {rid : Nat} {ops : Array Oper} {sc : List (Nat × List Ans × Option Bool)} {Q : Exit → Act → World → Prop} :
    ∀ {is : List Nat} {σ σ' : S} {ls : List Log} {G : Nat → Prop} {τ : Nat → Gh} {a : Act} {w : World}, runOps P rid ops sc is σ = some (σ', ls) → (∀ l ∈ ls, ∀ p ∈ l.obs, p) → (∀ c ∈ claims sc, cellIs (σ.st c.1) c.2.1 c.2.2) → St base X G τ σ a w →
      (∀ a' w' G' τ', St base X G' τ' σ' a' w' → Ext base X G w G' w' → (∀ i ∈ σ.ids, τ' i = τ i) → Q .normal a' w') → wpOps P ops Q is a w
  | [], σ, σ', ls, G, τ, a, w, h, _, _, hs, hQ => by
    simp only [runOps, Option.some.injEq, Prod.mk.injEq] at h
    obtain ⟨rfl, _⟩ := h
    simp only [wpOps]
    exact hQ a w G τ hs (Ext.refl _ _ _ _) (fun _ _ => rfl)
  | i :: is, σ, σ', ls, G, τ, a, w, h, hp, hcl, hs, hQ => by
    obtain ⟨o, l, ls', h1, h2, h3, _, h5, h6, rfl, h8⟩ := runOps_cons h
    rw [wpOps_cons]
    refine log_wp hs hcl h1 h2 (hp l (by simp)) h3 h5 (subset_spec h6) fun a' w' G' τ' k1 k2 k3 => ?_
    exact runOps_wp h8 (fun l' hl' => hp l' (by simp [hl'])) (claims_keep (fun p hpm => hp l (by simp) p (logOp_keep h2 p hpm)) hcl) k1 fun a2 w2 G2 τ2 q1 q2 q3 => hQ a2 w2 G2 τ2 q1 (k2.trans q2) (fun j hj => (q3 j (List.mem_append.2 (.inr hj))).trans (k3 j hj))

/-! ### Whatever order -/

abbrev Row := Nat × Oper × Log

def stEnv (L : List Row) (p : Nat → Bool) (env : Nat → V) : Nat → V := L.foldl (fun e x => if p x.1 then putEnv e x.2.1.dst x.2.2.v else e) env
def stSt (L : List Row) (p : Nat → Bool) (st : Nat → Option E.Obj) : Nat → Option E.Obj := L.foldl (fun s x => if p x.1 then putSt s x.2.2.ws else s) st
def stIds (L : List Row) (p : Nat → Bool) (ids : List Nat) : List Nat := L.foldl (fun s x => if p x.1 then x.2.2.new ++ s else s) ids

theorem putEnv_at {env env' : Nat → V} {dst : Option Nat} {v : V} {t : Nat} (h : env t = env' t) : putEnv env dst v t = putEnv env' dst v t := by
  cases dst with
  | none => exact h
  | some d => simp only [putEnv, h]

theorem putEnv_other {env : Nat → V} {dst : Option Nat} {v : V} {t : Nat} (h : dst ≠ some t) : putEnv env dst v t = env t := by
  cases dst with
  | none => rfl
  | some d =>
    have : (t == d) = false := by simp; exact fun e => h (by rw [e])
    simp only [putEnv, this, cond_false]

theorem putEnv_same {env : Nat → V} {v : V} {t : Nat} : putEnv env (some t) v t = v := by simp [putEnv]

theorem putSt_at : ∀ {ws : List (Nat × Option E.Obj)} {st st' : Nat → Option E.Obj} {i : Nat}, st i = st' i → putSt st ws i = putSt st' ws i
  | [], _, _, _, h => h
  | (j, o) :: ws, st, st', i, h => by
    simp only [putSt]
    exact putSt_at (by simp only [h])

theorem putSt_other : ∀ {ws : List (Nat × Option E.Obj)} {st : Nat → Option E.Obj} {i : Nat}, i ∉ ws.map (·.1) → putSt st ws i = st i
  | [], _, _, _ => rfl
  | (j, o) :: ws, st, i, h => by
    simp only [List.map_cons, List.mem_cons, not_or] at h
    simp only [putSt]
    rw [putSt_other h.2]
    have : (i == j) = false := by simpa using h.1
    simp only [this, cond_false]

theorem putSt_touch : ∀ {ws : List (Nat × Option E.Obj)} {st st' : Nat → Option E.Obj} {i : Nat}, i ∈ ws.map (·.1) → putSt st ws i = putSt st' ws i
  | [], _, _, _, h => by simp at h
  | (j, o) :: ws, st, st', i, h => by
    simp only [putSt]
    by_cases hw : i ∈ ws.map (·.1)
    · exact putSt_touch hw
    · simp only [List.map_cons, List.mem_cons, hw, or_false] at h
      subst h
      exact putSt_at (by simp)

theorem stEnv_at {p q : Nat → Bool} {t : Nat} : ∀ {L : List Row} {env env' : Nat → V}, env t = env' t → (∀ x ∈ L, x.2.1.dst = some t → p x.1 = q x.1) → stEnv L p env t = stEnv L q env' t
  | [], _, _, h, _ => h
  | x :: L, env, env', h, hp => by
    simp only [stEnv, List.foldl_cons]
    refine stEnv_at (L := L) ?_ (fun y hy => hp y (by simp [hy]))
    by_cases hd : x.2.1.dst = some t
    · rw [hp x (by simp) hd]
      split
      · exact putEnv_at h
      · exact h
    · split <;> split
      · exact putEnv_at h
      · rw [putEnv_other hd]; exact h
      · rw [putEnv_other hd]; exact h
      · exact h

theorem stSt_at {p q : Nat → Bool} {i : Nat} : ∀ {L : List Row} {st st' : Nat → Option E.Obj}, st i = st' i → (∀ x ∈ L, i ∈ x.2.2.touch → p x.1 = q x.1) → stSt L p st i = stSt L q st' i
  | [], _, _, h, _ => h
  | x :: L, st, st', h, hp => by
    simp only [stSt, List.foldl_cons]
    refine stSt_at (L := L) ?_ (fun y hy => hp y (by simp [hy]))
    by_cases hd : i ∈ x.2.2.touch
    · rw [hp x (by simp) hd]
      split
      · exact putSt_at h
      · exact h
    · split <;> split
      · exact putSt_at h
      · rw [putSt_other hd]; exact h
      · rw [putSt_other hd]; exact h
      · exact h

theorem stEnv_append (A B : List Row) (p : Nat → Bool) (env : Nat → V) : stEnv (A ++ B) p env = stEnv B p (stEnv A p env) := by simp [stEnv, List.foldl_append]
theorem stSt_append (A B : List Row) (p : Nat → Bool) (st : Nat → Option E.Obj) : stSt (A ++ B) p st = stSt B p (stSt A p st) := by simp [stSt, List.foldl_append]

theorem stIds_mem {p : Nat → Bool} {i : Nat} : ∀ {L : List Row} {ids : List Nat}, i ∈ stIds L p ids ↔ i ∈ ids ∨ ∃ x ∈ L, p x.1 = true ∧ i ∈ x.2.2.new
  | [], ids => by simp [stIds]
  | x :: L, ids => by
    simp only [stIds, List.foldl_cons]
    have ih := stIds_mem (p := p) (i := i) (L := L) (ids := if p x.1 = true then x.2.2.new ++ ids else ids)
    simp only [stIds] at ih
    rw [ih]
    by_cases hp : p x.1 = true
    · simp only [hp, if_true, List.mem_append, List.mem_cons, exists_eq_or_imp, true_and]
      constructor
      · rintro ((h | h) | h)
        · exact .inr (.inl h)
        · exact .inl h
        · exact .inr (.inr h)
      · rintro (h | h | h)
        · exact .inl (.inr h)
        · exact .inl (.inl h)
        · exact .inr h
    · have hp' : p x.1 = false := by simpa using hp
      simp only [hp', Bool.false_eq_true, if_false, List.mem_cons, exists_eq_or_imp, false_and, false_or]

/-- The rows of a run in the text's order. -/
inductive Good (P : Program) (rid : Nat) (ops : Array Oper) (sc : List (Nat × List Ans × Option Bool)) (n : Nat) : List Row → (Nat → V) → (Nat → Option E.Obj) → List Nat → Prop
  | nil {env st ids} : Good P rid ops sc n [] env st ids
  | cons {i o l L env st ids} : ops[i]? = some o → logOp P rid ops sc i o env st = some l → dstOk n o.dst = true → disjoint l.new ids = true → (∀ j ∈ l.vids, j ∈ l.new ++ ids) → (∀ x ∈ L, i < x.1) →
      Good P rid ops sc n L (putEnv env o.dst l.v) (putSt st l.ws) (l.new ++ ids) → Good P rid ops sc n ((i, o, l) :: L) env st ids

theorem good_of_run {P : Program} {rid : Nat} {ops : Array Oper} {sc : List (Nat × List Ans × Option Bool)} : ∀ {is : List Nat} {σ σ' : S} {ls : List Log} (k : Nat), runOps P rid ops sc is σ = some (σ', ls) → is = List.range' k is.length →
    Good P rid ops sc σ.n (is.zip ((ops.toList.drop k).zip ls)) σ.env σ.st σ.ids ∧ σ'.n = σ.n ∧ σ'.env = stEnv (is.zip ((ops.toList.drop k).zip ls)) (fun _ => true) σ.env ∧ σ'.st = stSt (is.zip ((ops.toList.drop k).zip ls)) (fun _ => true) σ.st ∧
      (∀ i, i ∈ σ'.ids ↔ i ∈ stIds (is.zip ((ops.toList.drop k).zip ls)) (fun _ => true) σ.ids) ∧ ls.length = is.length
  | [], σ, σ', ls, k, h, _ => by
    simp only [runOps, Option.some.injEq, Prod.mk.injEq] at h
    obtain ⟨rfl, rfl⟩ := h
    exact ⟨by simp; exact .nil, rfl, rfl, rfl, fun _ => Iff.rfl, rfl⟩
  | i :: is, σ, σ', ls, k, h, hk => by
    obtain ⟨o, l, ls', h1, h2, h3, _, h5, h6, rfl, h8⟩ := runOps_cons h
    simp only [List.length_cons, List.range'_succ, List.cons.injEq] at hk
    obtain ⟨rfl, hk⟩ := hk
    obtain ⟨g1, g2, g3, g4, g5, g6⟩ := good_of_run (i + 1) h8 hk
    have hi : i < ops.toList.length := by simpa using (Array.getElem?_eq_some_iff.1 h1).1
    have hdrop : ops.toList.drop i = o :: ops.toList.drop (i + 1) := by
      rw [List.drop_eq_getElem_cons hi]
      congr 1
      have := (Array.getElem?_eq_some_iff.1 h1).2
      simpa using this
    rw [hdrop]
    simp only [List.zip_cons_cons]
    refine ⟨.cons h1 h2 h3 h5 (subset_spec h6) (fun x hx => ?_) g1, g2, ?_, ?_, fun j => ?_, by simp [g6]⟩
    · have : x.1 ∈ is := (List.of_mem_zip hx).1
      rw [hk, List.mem_range'] at this
      obtain ⟨q, _, hq⟩ := this
      omega
    · rw [g3]; rfl
    · rw [g4]; rfl
    · rw [g5 j]; rfl

theorem Good.at {P : Program} {rid : Nat} {ops : Array Oper} {sc : List (Nat × List Ans × Option Bool)} {n : Nat} {L : List Row} {env : Nat → V} {st : Nat → Option E.Obj} {ids : List Nat} (h : Good P rid ops sc n L env st ids) :
    ∀ x ∈ L, ops[x.1]? = some x.2.1 ∧ logOp P rid ops sc x.1 x.2.1 (stEnv L (fun k => decide (k < x.1)) env) (stSt L (fun k => decide (k < x.1)) st) = some x.2.2 ∧ dstOk n x.2.1.dst = true ∧
      (∀ j ∈ x.2.2.new, j ∉ ids) ∧ (∀ y ∈ L, y.1 < x.1 → ∀ j ∈ x.2.2.new, j ∉ y.2.2.new) ∧ (∀ j ∈ x.2.2.vids, j ∈ x.2.2.new ∨ j ∈ ids ∨ ∃ y ∈ L, y.1 < x.1 ∧ j ∈ y.2.2.new) ∧ (∀ y ∈ L, y.1 = x.1 → y = x) := by
  induction h with
  | nil => intro x hx; simp at hx
  | @cons i o l L env st ids h1 h2 h3 h4 h5 h6 _ ih =>
    intro x hx
    rcases List.mem_cons.1 hx with rfl | hx
    · have hnone : ∀ y ∈ ((i, o, l) :: L : List Row), (fun k => decide (k < i)) y.1 = false := by
        intro y hy
        rcases List.mem_cons.1 hy with rfl | hy
        · simp
        · have := h6 y hy; simp; omega
      have e1 : stEnv ((i, o, l) :: L) (fun k => decide (k < i)) env = env := by
        funext t
        have : stEnv ((i, o, l) :: L) (fun k => decide (k < i)) env t = stEnv ((i, o, l) :: L) (fun _ => false) env t := stEnv_at rfl fun y hy _ => hnone y hy
        rw [this]
        have : ∀ (M : List Row) (e : Nat → V), stEnv M (fun _ => false) e = e := by
          intro M
          induction M with
          | nil => intro e; rfl
          | cons y M ih => intro e; simpa [stEnv] using ih e
        rw [this]
      have e2 : stSt ((i, o, l) :: L) (fun k => decide (k < i)) st = st := by
        funext t
        have : stSt ((i, o, l) :: L) (fun k => decide (k < i)) st t = stSt ((i, o, l) :: L) (fun _ => false) st t := stSt_at rfl fun y hy _ => hnone y hy
        rw [this]
        have : ∀ (M : List Row) (e : Nat → Option E.Obj), stSt M (fun _ => false) e = e := by
          intro M
          induction M with
          | nil => intro e; rfl
          | cons y M ih => intro e; simpa [stSt] using ih e
        rw [this]
      refine ⟨h1, by rw [e1, e2]; exact h2, h3, disjoint_spec h4, fun y hy hlt => ?_, fun j hj => ?_, fun y hy he => ?_⟩
      · have hnn : decide (y.1 < i) = false := hnone y hy
        exact absurd hlt (by simpa using hnn)
      · rcases List.mem_append.1 (h5 j hj) with h | h
        · exact .inl h
        · exact .inr (.inl h)
      · rcases List.mem_cons.1 hy with rfl | hy
        · rfl
        · have := h6 y hy; simp only at he; omega
    · obtain ⟨g1, g2, g3, g4, g5, g6, g7⟩ := ih x hx
      have hix := h6 x hx
      have e1 : stEnv ((i, o, l) :: L) (fun k => decide (k < x.1)) env = stEnv L (fun k => decide (k < x.1)) (putEnv env o.dst l.v) := by simp [stEnv, hix]
      have e2 : stSt ((i, o, l) :: L) (fun k => decide (k < x.1)) st = stSt L (fun k => decide (k < x.1)) (putSt st l.ws) := by simp [stSt, hix]
      rw [e1, e2]
      refine ⟨g1, g2, g3, fun j hj hids => g4 j hj (List.mem_append.2 (.inr hids)), fun y hy hlt j hj => ?_, fun j hj => ?_, fun y hy he => ?_⟩
      · rcases List.mem_cons.1 hy with rfl | hy
        · exact fun hn => g4 j hj (List.mem_append.2 (.inl hn))
        · exact g5 y hy hlt j hj
      · rcases g6 j hj with h | h | ⟨y, hy, h1, h2⟩
        · exact .inl h
        · rcases List.mem_append.1 h with h | h
          · exact .inr (.inr ⟨(i, o, l), by simp, hix, h⟩)
          · exact .inr (.inl h)
        · exact .inr (.inr ⟨y, by simp [hy], h1, h2⟩)
      · rcases List.mem_cons.1 hy with rfl | hy
        · simp only at he; omega
        · exact g7 y hy he

end Go.Proofs.YtinfjnnffmlpmaaGreatDoor.E

/- The engine, part Q: a region whose order is open comes to what it comes to in the text's order. -/
namespace Go.Proofs.YtinfjnnffmlpmaaGreatDoor.E
open Go
set_option linter.unusedSimpArgs false

theorem St.ids_congr {base : Nat} {X G : Nat → Prop} {τ : Nat → Gh} {n : Nat} {env : Nat → V} {st : Nat → Option E.Obj} {ids ids' : List Nat} {a : Act} {w : World} (h : St base X G τ ⟨n, env, st, ids⟩ a w) (hi : ∀ i ∈ ids, i ∈ ids') : St base X G τ ⟨n, env, st, ids'⟩ a w :=
  ⟨h.mem, h.base, h.size, h.env, fun t i hm => hi i (h.ids t i hm), fun i o ho => ⟨hi i (h.objs i o ho).1, fun j hj => hi j ((h.objs i o ho).2 j hj)⟩, h.defers⟩

def aheadStep (acc : List Nat) (o : Oper) : Nat := o.after.toList.foldl (fun s e => bif Region.binds .any e then s ||| 2 ^ e.on ||| acc.getD e.on 0 else s) 0

theorem aheadStep_bit (acc : List Nat) (j : Nat) : ∀ (l : List Edge) (s : Nat), (l.foldl (fun s e => bif Region.binds .any e then s ||| 2 ^ e.on ||| acc.getD e.on 0 else s) s).testBit j = true →
    s.testBit j = true ∨ ∃ e ∈ l, Region.binds .any e = true ∧ (j = e.on ∨ (acc.getD e.on 0).testBit j = true)
  | [], s, h => .inl h
  | e :: l, s, h => by
    simp only [List.foldl_cons] at h
    rcases aheadStep_bit acc j l _ h with h | ⟨e', h1, h2, h3⟩
    · cases hb : Region.binds .any e with
      | false => simp only [hb, cond_false] at h; exact .inl h
      | true =>
        simp only [hb, cond_true, Nat.testBit_or, Bool.or_eq_true] at h
        rcases h with (h | h) | h
        · exact .inl h
        · rw [Nat.testBit_two_pow] at h
          exact .inr ⟨e, by simp, hb, .inl (by have := of_decide_eq_true h; omega)⟩
        · exact .inr ⟨e, by simp, hb, .inr h⟩
    · exact .inr ⟨e', by simp [h1], h2, h3⟩

theorem aheadOf_fold : ∀ (l : List Oper) (acc : List Nat), ∃ tl, l.foldl (fun acc o => acc ++ [aheadStep acc o]) acc = acc ++ tl ∧ tl.length = l.length ∧
    ∀ (m : Nat) (o : Oper), l[m]? = some o → tl.getD m 0 = aheadStep (acc ++ tl.take m) o
  | [], acc => ⟨[], by simp, rfl, by simp⟩
  | o :: l, acc => by
    obtain ⟨tl, h1, h2, h3⟩ := aheadOf_fold l (acc ++ [aheadStep acc o])
    refine ⟨aheadStep acc o :: tl, by simp only [List.foldl_cons, h1]; simp, by simp [h2], fun m q hq => ?_⟩
    cases m with
    | zero => simp at hq; subst hq; simp
    | succ m =>
      have := h3 m q (by simpa using hq)
      simpa using this

theorem aheadOf_eq (ops : Array Oper) : aheadOf ops = ops.toList.foldl (fun acc o => acc ++ [aheadStep acc o]) [] := rfl

theorem aheadOf_bit {ops : Array Oper} {k j : Nat} (h : ((aheadOf ops).getD k 0).testBit j = true) : ∃ o, ops[k]? = some o ∧ ∃ e ∈ o.after, Region.binds .any e = true ∧ (j = e.on ∨ ((aheadOf ops).getD e.on 0).testBit j = true) := by
  rw [aheadOf_eq] at h ⊢
  obtain ⟨tl, h1, h2, h3⟩ := aheadOf_fold ops.toList []
  rw [h1] at h ⊢
  simp only [List.nil_append] at h ⊢ h3
  by_cases hk : k < ops.toList.length
  · have ho : ops.toList[k]? = some ops.toList[k] := List.getElem?_eq_getElem hk
    rw [h3 k _ ho] at h
    rcases aheadStep_bit _ j _ _ h with h | ⟨e, q1, q2, q3⟩
    · simp at h
    · refine ⟨ops.toList[k], by simp, e, by simpa using q1, q2, ?_⟩
      rcases q3 with q3 | q3
      · exact .inl q3
      · right
        by_cases he : e.on < k
        · have : (tl.take k).getD e.on 0 = tl.getD e.on 0 := by simp [List.getElem?_take_of_lt he]
          rwa [this] at q3
        · have : (tl.take k).getD e.on 0 = 0 := by simp [List.getElem?_take, he]
          rw [this] at q3; simp at q3
  · have : tl.getD k 0 = 0 := by simp [List.getElem?_eq_none (show tl.length ≤ k by omega)]
    rw [this] at h; simp at h

theorem edgesBack_spec {ops : Array Oper} (h : edgesBack ops = true) {i : Nat} {o : Oper} (ho : ops[i]? = some o) : ∀ e ∈ o.after, Region.binds .any e = true → e.on < i := by
  intro e he hb
  have hm : (o, i) ∈ ops.toList.zipIdx := by
    rw [List.mem_zipIdx_iff_getElem?]
    simpa using ho
  have := List.all_eq_true.1 h _ hm
  have := List.all_eq_true.1 this e (by simpa using he)
  simp only [hb, Bool.not_true, Bool.false_or, Nat.blt_eq] at this
  exact this

theorem calm_spec {ops : Array Oper} {ah : List Nat} {L : List Row} (h : calmAt ops ah L = true) {x y : Row} (hx : x ∈ L) (hy : y ∈ L) :
    (x.1 < y.1 → (ah.getD y.1 0).testBit x.1 = false → clash ops x.2.1 y.2.1 x.2.2 y.2.2 = false) ∧ (x.1 ≠ y.1 → (ah.getD y.1 0).testBit x.1 = false → disjoint x.2.2.new y.2.2.vids = true) := by
  have h1 := List.all_eq_true.1 (List.all_eq_true.1 h x hx) y hy
  simp only [Bool.and_eq_true] at h1
  refine ⟨fun hlt hb => ?_, fun hne hb => ?_⟩
  · have hlt' : Nat.blt x.1 y.1 = true := by simpa [Nat.blt_eq] using hlt
    have := h1.1
    simp only [hlt', hb, Bool.not_false, Bool.and_true, cond_true, Bool.not_eq_true'] at this
    exact this
  · have hne' : (x.1 != y.1) = true := by simpa using hne
    have := h1.2
    simp only [hne', hb, Bool.not_false, Bool.and_true, cond_true] at this
    exact this

theorem clash_spec {ops : Array Oper} {oi oj : Oper} {li lj : Log} (h : clash ops oi oj li lj = false) :
    (∀ d, oi.dst = some d → d ∉ looksOf ops oj ∧ oj.dst ≠ some d) ∧ (∀ d, oj.dst = some d → d ∉ looksOf ops oi) ∧ (∀ i ∈ li.touch, i ∉ lj.rs ∧ i ∉ lj.touch) ∧ (∀ i ∈ lj.touch, i ∉ li.rs) := by
  unfold clash at h
  simp only [Bool.or_eq_false_iff, Bool.not_eq_false'] at h
  obtain ⟨⟨⟨h1, h2⟩, h3⟩, h4⟩ := h
  refine ⟨fun d hd => ?_, fun d hd => ?_, fun i hi => ?_, fun i hi => disjoint_spec h4 i hi⟩
  · simp only [hd, Bool.or_eq_false_iff] at h1
    refine ⟨by simpa using h1.1, fun e => ?_⟩
    have := h1.2
    simp [e] at this
  · simpa [hd] using h2
  · have := disjoint_spec h3 i hi
    simp only [List.mem_append, not_or] at this
    exact this

theorem stEnv_cons_true {p : Nat → Bool} {x : Row} {L : List Row} {env : Nat → V} (h : p x.1 = true) : stEnv (x :: L) p env = stEnv L p (putEnv env x.2.1.dst x.2.2.v) := by simp [stEnv, h]
theorem stSt_cons_true {p : Nat → Bool} {x : Row} {L : List Row} {st : Nat → Option E.Obj} (h : p x.1 = true) : stSt (x :: L) p st = stSt L p (putSt st x.2.2.ws) := by simp [stSt, h]

/-- What is known of a region's rows. -/
structure Calm (P : Program) (rid : Nat) (ops : Array Oper) (sc : List (Nat × List Ans × Option Bool)) (n : Nat) (L : List Row) (env : Nat → V) (st : Nat → Option E.Obj) (ids : List Nat) : Prop where
  good : Good P rid ops sc n L env st ids
  calm : calmAt ops (aheadOf ops) L = true
  edges : edgesBack ops = true
  all : ∀ (i : Nat) (o : Oper), ops[i]? = some o → ∃ l, (i, o, l) ∈ L
  obs : ∀ x ∈ L, ∀ p ∈ x.2.2.obs, p
  claim : ∀ c ∈ claims sc, cellIs (st c.1) c.2.1 c.2.2
  keep : ∀ x ∈ L, ∀ p ∈ keepObs (claims sc) x.2.2.ws, p

theorem claims_st {cl : List (Nat × Nat × V)} {p : Nat → Bool} : ∀ {L : List Row} {st : Nat → Option E.Obj}, (∀ x ∈ L, ∀ q ∈ keepObs cl x.2.2.ws, q) → (∀ c ∈ cl, cellIs (st c.1) c.2.1 c.2.2) → ∀ c ∈ cl, cellIs (stSt L p st c.1) c.2.1 c.2.2
  | [], _, _, h => h
  | x :: L, st, hk, h => by
    simp only [stSt, List.foldl_cons]
    refine claims_st (L := L) (fun y hy => hk y (by simp [hy])) ?_
    split
    · exact claims_keep (hk x (by simp)) h
    · exact h

theorem any_wp {P : Program} {base : Nat} {X : Nat → Prop} {rid : Nat} {ops : Array Oper} {sc : List (Nat × List Ans × Option Bool)} {n : Nat} {L : List Row} {env : Nat → V} {st : Nat → Option E.Obj} {ids : List Nat} {Q : Exit → Act → World → Prop}
    (hC : Calm P rid ops sc n L env st ids) : ∀ (fuel : Nat) (listed : Array Bool) (G : Nat → Prop) (τ : Nat → Gh) (a : Act) (w : World),
      ((List.range ops.size).filter fun i => !listed.getD i false).length ≤ fuel → listed.size = ops.size → (∀ k, listed.getD k false = true → ∀ j, ((aheadOf ops).getD k 0).testBit j = true → listed.getD j false = true) →
      St base X G τ ⟨n, stEnv L (fun k => listed.getD k false) env, stSt L (fun k => listed.getD k false) st, stIds L (fun k => listed.getD k false) ids⟩ a w →
      (∀ a' w' G' τ', St base X G' τ' ⟨n, stEnv L (fun _ => true) env, stSt L (fun _ => true) st, stIds L (fun _ => true) ids⟩ a' w' → Ext base X G w G' w' → (∀ i ∈ ids, τ' i = τ i) → Q .normal a' w') →
      wpAny P .any ops Q fuel listed a w := by
  -- a row is there once
  have huniq : ∀ x ∈ L, ∀ y ∈ L, y.1 = x.1 → y = x := fun x hx => (hC.good.at x hx).2.2.2.2.2.2
  have hidx : ∀ x ∈ L, x.1 < ops.size := fun x hx => (Array.getElem?_eq_some_iff.1 (hC.good.at x hx).1).1
  -- if none is ready, all are listed
  have hready : ∀ (listed : Array Bool), listed.size = ops.size → Region.ready .any ops listed = [] → ∀ i, i < ops.size → listed.getD i false = true := by
    intro listed hsz hr i
    induction i using Nat.strongRecOn with
    | _ i ih =>
      intro hi
      cases hl : listed.getD i false with
      | true => rfl
      | false =>
        exfalso
        have hmem : i ∈ Region.ready .any ops listed := by
          rw [mem_ready]
          refine ⟨?_, ops[i], by simp [hi], fun e he hb => ih e.on (edgesBack_spec hC.edges (by simp [hi]) e he hb) ?_⟩
          · have : i < listed.size := by omega
            simp [this] at hl ⊢; exact hl
          · have := edgesBack_spec hC.edges (i := i) (o := ops[i]) (by simp [hi]) e he hb
            omega
        rw [hr] at hmem; simp at hmem
  have hdone : ∀ (listed : Array Bool), listed.size = ops.size → Region.ready .any ops listed = [] → ∀ {G τ a w}, St base X G τ ⟨n, stEnv L (fun k => listed.getD k false) env, stSt L (fun k => listed.getD k false) st, stIds L (fun k => listed.getD k false) ids⟩ a w →
      St base X G τ ⟨n, stEnv L (fun _ => true) env, stSt L (fun _ => true) st, stIds L (fun _ => true) ids⟩ a w := by
    intro listed hsz hr G τ a w hs
    have hall := hready listed hsz hr
    have e1 : stEnv L (fun k => listed.getD k false) env = stEnv L (fun _ => true) env := by
      funext t; exact stEnv_at rfl fun x hx _ => hall x.1 (hidx x hx)
    have e2 : stSt L (fun k => listed.getD k false) st = stSt L (fun _ => true) st := by
      funext t; exact stSt_at rfl fun x hx _ => hall x.1 (hidx x hx)
    rw [e1, e2] at hs
    refine hs.ids_congr fun i hi => ?_
    rw [stIds_mem] at hi ⊢
    rcases hi with hi | ⟨x, hx, _, hn⟩
    · exact .inl hi
    · exact .inr ⟨x, hx, rfl, hn⟩
  intro fuel
  induction fuel with
  | zero =>
    intro listed G τ a w hcnt hsz _ hs hQ
    have hr : Region.ready .any ops listed = [] := by
      apply List.eq_nil_iff_forall_not_mem.2
      intro i hi
      rw [mem_ready] at hi
      obtain ⟨h0, o, ho, _⟩ := hi
      have hlt : i < ops.size := (Array.getElem?_eq_some_iff.1 ho).1
      have hmem : i ∈ (List.range ops.size).filter fun i => !listed.getD i false := by
        rw [List.mem_filter]
        have : i < listed.size := by omega
        refine ⟨by simpa using hlt, ?_⟩
        simp [this] at h0 ⊢; exact h0
      have : ((List.range ops.size).filter fun i => !listed.getD i false) = [] := List.eq_nil_of_length_eq_zero (by omega)
      rw [this] at hmem; simp at hmem
    exact ⟨hr, hQ a w G τ (hdone listed hsz hr hs) (Ext.refl _ _ _ _) (fun _ _ => rfl)⟩
  | succ fuel ih =>
    intro listed G τ a w hcnt hsz hdc hs hQ
    refine ⟨fun hr => hQ a w G τ (hdone listed hsz hr hs) (Ext.refl _ _ _ _) (fun _ _ => rfl), fun i hi => ?_⟩
    rw [mem_ready] at hi
    obtain ⟨h0, o, ho, hpre⟩ := hi
    have hlt : i < ops.size := (Array.getElem?_eq_some_iff.1 ho).1
    have hli : i < listed.size := by omega
    have h0' : listed.getD i false = false := by simp [hli] at h0 ⊢; exact h0
    obtain ⟨l, hx⟩ := hC.all i o ho
    obtain ⟨g1, g2, g3, g4, g5, g6, g7⟩ := hC.good.at _ hx
    simp only at g1 g2 g3 g4 g5 g6 g7
    -- whoever is ahead is listed
    have hahead : ∀ j, ((aheadOf ops).getD i 0).testBit j = true → listed.getD j false = true := by
      intro j hj
      obtain ⟨o', ho', e, he, hb, hor⟩ := aheadOf_bit hj
      rw [ho] at ho'; cases ho'
      have hel := hpre e he hb
      rcases hor with rfl | hor
      · exact hel
      · exact hdc e.on hel j hor
    -- who is listed does not wait for this one
    have hnot : ∀ y ∈ L, listed.getD y.1 false = true → ((aheadOf ops).getD y.1 0).testBit i = false := by
      intro y _ hly
      cases hb : ((aheadOf ops).getD y.1 0).testBit i with
      | false => rfl
      | true => rw [hdc y.1 hly i hb] at h0'; simp at h0'
    -- rows that meet this one stand as in the text
    have hsame : ∀ y ∈ L, ((∃ d, y.2.1.dst = some d ∧ (d ∈ looksOf ops o ∨ o.dst = some d)) ∨ (∃ j ∈ y.2.2.touch, j ∈ l.rs ∨ j ∈ l.touch)) → y.1 ≠ i → listed.getD y.1 false = decide (y.1 < i) := by
      intro y hy hmeet hne
      rcases Nat.lt_or_gt_of_ne hne with hlt' | hgt
      · simp only [hlt', decide_true]
        cases hb : ((aheadOf ops).getD i 0).testBit y.1 with
        | true => exact hahead y.1 hb
        | false =>
          exfalso
          obtain ⟨c1, c2, c3, c4⟩ := clash_spec ((calm_spec hC.calm hy hx).1 hlt' hb)
          rcases hmeet with ⟨d, hd, hm⟩ | ⟨j, hj, hm⟩
          · obtain ⟨k1, k2⟩ := c1 d hd
            rcases hm with hm | hm
            · exact k1 hm
            · exact k2 hm
          · obtain ⟨k1, k2⟩ := c3 j hj
            rcases hm with hm | hm
            · exact k1 hm
            · exact k2 hm
      · have hnlt : ¬ y.1 < i := by omega
        simp only [hnlt, decide_false]
        cases hl : listed.getD y.1 false with
        | false => rfl
        | true =>
          exfalso
          obtain ⟨c1, c2, c3, c4⟩ := clash_spec ((calm_spec hC.calm hx hy).1 hgt (hnot y hy hl))
          rcases hmeet with ⟨d, hd, hm⟩ | ⟨j, hj, hm⟩
          · rcases hm with hm | hm
            · exact c2 d hd hm
            · exact (c1 d hm).2 hd
          · rcases hm with hm | hm
            · exact c4 j hj hm
            · exact (c3 j hm).2 hj
    have hself : ∀ y ∈ L, y.1 = i → y = (i, o, l) := fun y hy he => huniq _ hx y hy he
    have hlog : logOp P rid ops sc i o (stEnv L (fun k => listed.getD k false) env) (stSt L (fun k => listed.getD k false) st) = some l := by
      refine logOp_congr g2 (fun t ht => ?_) (fun j hj => ?_)
      · refine stEnv_at rfl fun y hy hd => ?_
        by_cases hyi : y.1 = i
        · simp only [hyi, h0']; simp
        · exact hsame y hy (.inl ⟨t, hd, .inl ht⟩) hyi
      · refine stSt_at rfl fun y hy hd => ?_
        by_cases hyi : y.1 = i
        · simp only [hyi, h0']; simp
        · exact hsame y hy (.inr ⟨j, hd, .inl hj⟩) hyi
    have hobs := hC.obs _ hx
    refine log_wp hs (claims_st (p := fun k => listed.getD k false) hC.keep hC.claim) ho hlog hobs g3 ?_ ?_ fun a' w' G' τ' k1 k2 k3 => ?_
    · apply List.all_eq_true.2
      intro j hj
      simp only [Bool.not_eq_true']
      have : j ∉ stIds L (fun k => listed.getD k false) ids := by
        rw [stIds_mem]
        rintro (h | ⟨y, hy, hyl, hn⟩)
        · exact g4 j hj h
        · by_cases hyi : y.1 = i
          · rw [hyi, h0'] at hyl; simp at hyl
          · rcases Nat.lt_or_gt_of_ne hyi with hlt' | hgt
            · exact g5 y hy hlt' j hj hn
            · exact (hC.good.at y hy).2.2.2.2.1 _ hx hgt j hn hj
      simpa using this
    · intro j hj
      rw [List.mem_append, stIds_mem]
      rcases g6 j hj with h | h | ⟨y, hy, hlt', hn⟩
      · exact .inl h
      · exact .inr (.inl h)
      · right; right
        refine ⟨y, hy, ?_, hn⟩
        cases hb : ((aheadOf ops).getD i 0).testBit y.1 with
        | true => exact hahead y.1 hb
        | false => exact absurd hj (disjoint_spec ((calm_spec hC.calm hy hx).2 (Nat.ne_of_lt hlt') hb) j hn)
    · -- behind it
      have hset : ∀ k, (listed.setIfInBounds i true).getD k false = if k = i then true else listed.getD k false := by
        intro k
        by_cases hk : k = i
        · subst hk; simp [hli]
        · simp [hk, Array.getElem?_setIfInBounds_ne (Ne.symm hk)]
      have hpi : (listed.setIfInBounds i true).getD i false = true := by rw [hset, if_pos rfl]
      have hpne : ∀ y ∈ L, y.1 ≠ i → (listed.setIfInBounds i true).getD y.1 false = listed.getD y.1 false := fun y _ hne => by rw [hset, if_neg hne]
      obtain ⟨A, B, hAB⟩ := List.append_of_mem hx
      have hBne : ∀ y ∈ A ++ B, y.1 = i → y = (i, o, l) := fun y hy he => hself y (by rw [hAB]; rcases List.mem_append.1 hy with h | h <;> simp [h]) he
      have e1 : putEnv (stEnv L (fun k => listed.getD k false) env) o.dst l.v = stEnv L (fun k => (listed.setIfInBounds i true).getD k false) env := by
        funext t
        by_cases ht : o.dst = some t
        · rw [ht, putEnv_same, hAB, stEnv_append]
          have hstep : stEnv ((i, o, l) :: B) (fun k => (listed.setIfInBounds i true).getD k false) (stEnv A (fun k => (listed.setIfInBounds i true).getD k false) env) t
              = stEnv B (fun _ => false) (putEnv (stEnv A (fun k => (listed.setIfInBounds i true).getD k false) env) o.dst l.v) t := by
            rw [stEnv_cons_true hpi]
            refine stEnv_at rfl fun y hy hd => ?_
            show (listed.setIfInBounds i true).getD y.1 false = false
            rw [hset]
            have hyL : y ∈ L := by rw [hAB]; simp [hy]
            by_cases hyi : y.1 = i
            · exfalso
              -- the same row twice: the indices rise
              have := hBne y (by simp [hy]) hyi
              subst this
              have hsorted : ∀ (M : List Row) {env st ids}, Good P rid ops sc n M env st ids → ∀ (A B : List Row) (x : Row), M = A ++ x :: B → ∀ y ∈ B, x.1 < y.1 := by
                intro M env' st' ids' hg
                induction hg with
                | nil => intro A B x hM; simp at hM
                | cons _ _ _ _ _ h6 _ ih =>
                  intro A B x hM y hy
                  cases A with
                  | nil => simp only [List.nil_append, List.cons.injEq] at hM; obtain ⟨rfl, rfl⟩ := hM; exact h6 y hy
                  | cons z A => simp only [List.cons_append, List.cons.injEq] at hM; exact ih A B x hM.2 y hy
              have := hsorted L hC.good A B _ hAB _ hy
              omega
            · have hs1 := hsame y hyL (.inl ⟨t, hd, .inr ht⟩) hyi
              simp only [hyi, if_false]
              rw [hs1]
              have : ¬ y.1 < i := by
                have hsorted : ∀ (M : List Row) {env st ids}, Good P rid ops sc n M env st ids → ∀ (A B : List Row) (x : Row), M = A ++ x :: B → ∀ y ∈ B, x.1 < y.1 := by
                  intro M env' st' ids' hg
                  induction hg with
                  | nil => intro A B x hM; simp at hM
                  | cons _ _ _ _ _ h6 _ ih =>
                    intro A B x hM y hy
                    cases A with
                    | nil => simp only [List.nil_append, List.cons.injEq] at hM; obtain ⟨rfl, rfl⟩ := hM; exact h6 y hy
                    | cons z A => simp only [List.cons_append, List.cons.injEq] at hM; exact ih A B x hM.2 y hy
                have := hsorted L hC.good A B _ hAB _ hy
                omega
              simp [this]
          rw [hstep]
          have hfalse : ∀ (M : List Row) (e : Nat → V), stEnv M (fun _ => false) e = e := by
            intro M
            induction M with
            | nil => intro e; rfl
            | cons y M ih => intro e; simpa [stEnv] using ih e
          rw [hfalse, ht, putEnv_same]
        · rw [putEnv_other ht]
          refine stEnv_at rfl fun y hy hd => ?_
          by_cases hyi : y.1 = i
          · have := hself y hy hyi
            subst this
            exact absurd hd ht
          · exact (hpne y hy hyi).symm
      have e2 : putSt (stSt L (fun k => listed.getD k false) st) l.ws = stSt L (fun k => (listed.setIfInBounds i true).getD k false) st := by
        funext t
        by_cases ht : t ∈ l.touch
        · rw [hAB, stSt_append (p := fun k => (listed.setIfInBounds i true).getD k false)]
          have hstep : stSt ((i, o, l) :: B) (fun k => (listed.setIfInBounds i true).getD k false) (stSt A (fun k => (listed.setIfInBounds i true).getD k false) st) t
              = stSt B (fun _ => false) (putSt (stSt A (fun k => (listed.setIfInBounds i true).getD k false) st) l.ws) t := by
            rw [stSt_cons_true hpi]
            refine stSt_at rfl fun y hy hd => ?_
            show (listed.setIfInBounds i true).getD y.1 false = false
            rw [hset]
            have hyL : y ∈ L := by rw [hAB]; simp [hy]
            have hsorted : ∀ (M : List Row) {env st ids}, Good P rid ops sc n M env st ids → ∀ (A B : List Row) (x : Row), M = A ++ x :: B → ∀ y ∈ B, x.1 < y.1 := by
              intro M env' st' ids' hg
              induction hg with
              | nil => intro A B x hM; simp at hM
              | cons _ _ _ _ _ h6 _ ih =>
                intro A B x hM y hy
                cases A with
                | nil => simp only [List.nil_append, List.cons.injEq] at hM; obtain ⟨rfl, rfl⟩ := hM; exact h6 y hy
                | cons z A => simp only [List.cons_append, List.cons.injEq] at hM; exact ih A B x hM.2 y hy
            have hgt := hsorted L hC.good A B _ hAB _ hy
            have hyi : y.1 ≠ i := by omega
            have hs1 := hsame y hyL (.inr ⟨t, hd, .inr ht⟩) hyi
            simp only [hyi, if_false]
            rw [hs1]
            have : ¬ y.1 < i := by omega
            simp [this]
          rw [hstep]
          have hfalse : ∀ (M : List Row) (e : Nat → Option E.Obj), stSt M (fun _ => false) e = e := by
            intro M
            induction M with
            | nil => intro e; rfl
            | cons y M ih => intro e; simpa [stSt] using ih e
          rw [hfalse]
          exact putSt_touch ht
        · rw [putSt_other ht]
          refine stSt_at rfl fun y hy hd => ?_
          by_cases hyi : y.1 = i
          · have := hself y hy hyi
            subst this
            exact absurd hd ht
          · exact (hpne y hy hyi).symm
      simp only [e1, e2] at k1
      have k1' : St base X G' τ' ⟨n, stEnv L (fun k => (listed.setIfInBounds i true).getD k false) env, stSt L (fun k => (listed.setIfInBounds i true).getD k false) st, stIds L (fun k => (listed.setIfInBounds i true).getD k false) ids⟩ a' w' := by
        refine k1.ids_congr fun j hj => ?_
        rw [stIds_mem]
        rcases List.mem_append.1 hj with h | h
        · exact .inr ⟨(i, o, l), hx, by simp [hli], h⟩
        · rw [stIds_mem] at h
          rcases h with h | ⟨y, hy, hyl, hn⟩
          · exact .inl h
          · refine .inr ⟨y, hy, ?_, hn⟩
            show (listed.setIfInBounds i true).getD y.1 false = true
            rw [hset]
            split
            · rfl
            · exact hyl
      refine ih (listed.setIfInBounds i true) G' τ' a' w' ?_ (by simpa using hsz) ?_ k1' fun a2 w2 G2 τ2 q1 q2 q3 => hQ a2 w2 G2 τ2 q1 (k2.trans q2) (fun j hj => (q3 j hj).trans (k3 j (show j ∈ stIds L (fun k => listed.getD k false) ids from stIds_mem.2 (.inl hj))))
      · have hsub : ((List.range ops.size).filter fun k => !(listed.setIfInBounds i true).getD k false).length < ((List.range ops.size).filter fun k => !listed.getD k false).length := by
          have h1 : ((List.range ops.size).filter fun k => !(listed.setIfInBounds i true).getD k false) = (((List.range ops.size).filter fun k => !listed.getD k false).filter fun k => decide (k ≠ i)) := by
            rw [List.filter_filter]
            apply List.filter_congr
            intro k _
            rw [hset]
            by_cases hk : k = i
            · simp [hk]
            · simp [hk]
          rw [h1]
          apply List.length_filter_lt_length_iff_exists.2
          refine ⟨i, ?_, by simp⟩
          rw [List.mem_filter]
          exact ⟨by simpa using hlt, by simp only [h0', Bool.not_false]⟩
        omega
      · intro k hk j hj
        rw [hset] at hk ⊢
        by_cases hji : j = i
        · simp [hji]
        · rw [if_neg hji]
          by_cases hki : k = i
          · subst hki; exact hahead j hj
          · rw [if_neg hki] at hk; exact hdc k hk j hj

end Go.Proofs.YtinfjnnffmlpmaaGreatDoor.E

/- The engine, part R: code: what the run says of it is so. -/
namespace Go.Proofs.YtinfjnnffmlpmaaGreatDoor.E
open Go
set_option linter.unusedSimpArgs false

/-! ### Regions -/

theorem St.heap {base : Nat} {X G : Nat → Prop} {τ : Nat → Gh} {σ : S} {a : Act} {w w' : World} (h : St base X G τ σ a w) (hw : w'.heap = w.heap) : St base X G τ σ a w' :=
  ⟨h.mem.heap hw, by rw [hw]; exact h.base, h.size, fun t => rep_mono (fun b hb => ⟨hb, by rw [hw]⟩) _ _ (fun _ _ => rfl) (h.env t), h.ids, h.objs, h.defers⟩

theorem obsAll_mem : ∀ {ls : List Log}, (∀ p ∈ obsAll ls, p) → ∀ l ∈ ls, ∀ p ∈ l.obs, p
  | [], _, l, hl => by simp at hl
  | m :: ls, h, l, hl => by
    simp only [obsAll, List.mem_append] at h
    rcases List.mem_cons.1 hl with rfl | hl
    · exact fun p hp => h p (.inl hp)
    · exact obsAll_mem (fun p hp => h p (.inr hp)) l hl

theorem St.more {base : Nat} {X G : Nat → Prop} {τ : Nat → Gh} {σ : S} {a : Act} {w : World} {l : List Nat} (hs : St base X G τ σ a w) : St base X G τ (σ.more l) a w :=
  ⟨hs.mem, hs.base, hs.size, hs.env, fun t i hi => List.mem_append.2 (.inr (hs.ids t i hi)), fun i o ho => ⟨List.mem_append.2 (.inr (hs.objs i o ho).1), fun j hj => List.mem_append.2 (.inr ((hs.objs i o ho).2 j hj))⟩, hs.defers⟩

theorem initObs_claim {cl : List (Nat × Nat × V)} {st : Nat → Option E.Obj} (h : ∀ p ∈ initObs cl st, p) : ∀ c ∈ cl, cellIs (st c.1) c.2.1 c.2.2 := fun c hc => h _ (List.mem_map.2 ⟨c, hc, rfl⟩)

theorem runRegion_wp {P : Program} (hmix : P.follows .mixedOrders = true) {base : Nat} {X G : Nat → Prop} {τ : Nat → Gh} {rid : Nat} {ops : Array Oper} {draw : Bool} {sc : List (Nat × List Ans × Option Bool)} {σ σ' : S} {ps : List Prop} {a : Act} {w : World} {Q : Exit → Act → World → Prop}
    (h : runRegion P rid ops draw sc σ = some (σ', ps)) (hp : ∀ p ∈ ps, p) (hs : St base X G τ σ a w)
    (hQ : ∀ a' w' G' τ', St base X G' τ' σ' a' w' → Ext base X G w G' w' → (∀ i ∈ σ.ids, τ' i = τ i) → Q .normal a' w') : (Code.region rid ops draw).wp P Q a w := by
  unfold runRegion at h
  split at h
  · simp at h
  · rename_i σ2 ls hr
    cases draw with
    | false =>
      simp only [cond_false, Option.some.injEq, Prod.mk.injEq] at h
      obtain ⟨rfl, rfl⟩ := h
      exact wp_region (runOps_wp hr (obsAll_mem fun p hpm => hp p (List.mem_append.2 (.inr hpm))) (initObs_claim fun p hpm => hp p (List.mem_append.2 (.inl hpm))) hs fun a' w' G' τ' k1 k2 k3 => hQ a' w' G' τ' k1.more k2 k3)
    | true =>
      simp only [cond_true] at h
      cases hb : edgesBack ops && calmAt ops (aheadOf ops) ((List.range ops.size).zip (ops.toList.zip ls)) with
      | false => simp only [hb, cond_false, reduceCtorEq] at h
      | true =>
        simp only [hb, cond_true, Option.some.injEq, Prod.mk.injEq] at h
        obtain ⟨rfl, rfl⟩ := h
        simp only [Bool.and_eq_true] at hb
        obtain ⟨g1, g2, g3, g4, g5, g6⟩ := good_of_run 0 hr (by simp [List.range_eq_range'])
        simp only [List.drop_zero] at g1 g3 g4 g5
        have hls : ls.length = ops.size := by simpa using g6
        have hC : Calm P rid ops sc σ.n ((List.range ops.size).zip (ops.toList.zip ls)) σ.env σ.st σ.ids := by
          have hobs : ∀ x ∈ (List.range ops.size).zip (ops.toList.zip ls), ∀ p ∈ x.2.2.obs, p := by
            intro x hx
            have h1 := (List.of_mem_zip hx).2
            have h2 := (List.of_mem_zip h1).2
            exact obsAll_mem (fun p hpm => hp p (List.mem_append.2 (.inr hpm))) _ h2
          refine ⟨g1, hb.2, hb.1, fun i o ho => ?_, hobs, initObs_claim fun p hpm => hp p (List.mem_append.2 (.inl hpm)), fun x hx p hpm => hobs x hx p (logOp_keep (g1.at x hx).2.1 p hpm)⟩
          · have hi : i < ops.size := (Array.getElem?_eq_some_iff.1 ho).1
            have hil : i < ls.length := by omega
            refine ⟨ls[i], ?_⟩
            have hz : ((List.range ops.size).zip (ops.toList.zip ls))[i]? = some (i, o, ls[i]) := by
              have ho' : ops[i] = o := (Array.getElem?_eq_some_iff.1 ho).2
              simp [List.getElem?_zip_eq_some, ho', hi, hil]
            exact List.mem_of_getElem? hz
        refine wp_region_any hmix ?_
        have hfalse1 : stEnv ((List.range ops.size).zip (ops.toList.zip ls)) (fun k => (Array.replicate ops.size false).getD k false) σ.env = σ.env := by
          have : ∀ (M : List Row) (e : Nat → V), stEnv M (fun k => (Array.replicate ops.size false).getD k false) e = e := by
            intro M
            induction M with
            | nil => intro e; rfl
            | cons y M ih =>
              intro e
              have : (Array.replicate ops.size false).getD y.1 false = false := by simp [Array.getElem?_replicate]; split <;> rfl
              simp only [stEnv, List.foldl_cons, this, Bool.false_eq_true, if_false]
              exact ih e
          exact this _ _
        have hfalse2 : stSt ((List.range ops.size).zip (ops.toList.zip ls)) (fun k => (Array.replicate ops.size false).getD k false) σ.st = σ.st := by
          have : ∀ (M : List Row) (e : Nat → Option E.Obj), stSt M (fun k => (Array.replicate ops.size false).getD k false) e = e := by
            intro M
            induction M with
            | nil => intro e; rfl
            | cons y M ih =>
              intro e
              have : (Array.replicate ops.size false).getD y.1 false = false := by simp [Array.getElem?_replicate]; split <;> rfl
              simp only [stSt, List.foldl_cons, this, Bool.false_eq_true, if_false]
              exact ih e
          exact this _ _
        have hs2 : St base X G τ σ a { w with drawn := w.drawn + 1 } := hs.heap rfl
        refine any_wp (base := base) (X := X) hC ops.size _ G τ a _ ?_ (by simp) (fun k hk => ?_) ?_ fun a' w' G' τ' k1 k2 k3 => ?_
        · refine Nat.le_trans (List.length_filter_le _ _) (by simp)
        · have : (Array.replicate ops.size false).getD k false = false := by simp [Array.getElem?_replicate]; split <;> rfl
          rw [this] at hk; simp at hk
        · rw [hfalse1, hfalse2]
          exact St.ids_congr hs2 fun i hi => stIds_mem.2 (.inl hi)
        · refine hQ a' w' G' τ' ?_ (Ext.trans (Ext.drew w) k2) k3
          cases σ2 with
          | mk n2 env2 st2 ids2 =>
            simp only at g2 g3 g4 g5
            subst g2 g3 g4
            exact (St.ids_congr k1 fun i hi => (g5 i).2 hi).more

/-! ### What is kept of a frame -/

mutual
theorem renV_rep {w : World} {G : Nat → Prop} {τ τ' : Nat → Gh} {ren : List (Nat × Nat)} (ht : ∀ a b : Nat, renId ren a = some b → τ' b = τ a) : ∀ {v v' : V} {x : Value}, renV ren v = some v' → v.rep w G τ x → v'.rep w G τ' x
  | .own j, v', x, h, hr => by
    simp only [renV] at h
    split at h
    · rename_i id hid
      simp only [Option.some.injEq] at h
      subst h
      simp only [V.rep] at hr ⊢
      rw [ht j id hid]; exact hr
    · simp at h
  | .ptr j n r o, v', x, h, hr => by
    simp only [renV] at h
    split at h
    · rename_i id hid
      simp only [Option.some.injEq] at h
      subst h
      simp only [V.rep] at hr ⊢
      rw [ht j id hid]; exact hr
    · simp at h
  | .vw j n a b, v', x, h, hr => by
    simp only [renV] at h
    split at h
    · rename_i id hid
      simp only [Option.some.injEq] at h
      subst h
      simp only [V.rep] at hr ⊢
      rw [ht j id hid]; exact hr
    · simp at h
  | .mref j, v', x, h, hr => by
    simp only [renV] at h
    split at h
    · rename_i id hid
      simp only [Option.some.injEq] at h
      subst h
      simp only [V.rep] at hr ⊢
      rw [ht j id hid]; exact hr
    · simp at h
  | .agg cs, v', x, h, hr => by
    simp only [renV] at h
    split at h
    · rename_i cs' hcs
      simp only [Option.some.injEq] at h
      subst h
      simp only [V.rep] at hr ⊢
      obtain ⟨xs, e, hr⟩ := hr
      exact ⟨xs, e, renL_rep ht hcs hr⟩
    · simp at h
  | .tup cs, v', x, h, hr => by
    simp only [renV] at h
    split at h
    · rename_i cs' hcs
      simp only [Option.some.injEq] at h
      subst h
      simp only [V.rep] at hr ⊢
      obtain ⟨xs, e, hr⟩ := hr
      exact ⟨xs, e, renL_rep ht hcs hr⟩
    · simp at h
  | .clo fn f c, v', x, h, hr => by
    simp only [renV] at h
    split at h
    · rename_i f' c' hf hc
      simp only [Option.some.injEq] at h
      subst h
      simp only [V.rep] at hr ⊢
      obtain ⟨xs, ys, e, h1, h2⟩ := hr
      exact ⟨xs, ys, e, renL_rep ht hf h1, renL_rep ht hc h2⟩
    · simp at h
  | .val _, v', x, h, hr => by simp only [renV, Option.some.injEq] at h; subst h; simp only [V.rep] at hr ⊢; exact hr
  | .nil, v', x, h, hr => by simp only [renV, Option.some.injEq] at h; subst h; simp only [V.rep] at hr ⊢; exact hr
  | .sl _ _, v', x, h, hr => by simp only [renV, Option.some.injEq] at h; subst h; simp only [V.rep] at hr ⊢; exact hr
  | .iptr _ _ _ _, v', x, h, hr => by simp only [renV, Option.some.injEq] at h; subst h; simp only [V.rep] at hr ⊢; exact hr
  | .undef, v', x, h, _ => by simp only [renV, Option.some.injEq] at h; subst h; simp only [V.rep]
theorem renL_rep {w : World} {G : Nat → Prop} {τ τ' : Nat → Gh} {ren : List (Nat × Nat)} (ht : ∀ a b : Nat, renId ren a = some b → τ' b = τ a) : ∀ {cs cs' : List V} {xs : List Value}, renL ren cs = some cs' → repL w G τ cs xs → repL w G τ' cs' xs
  | [], cs', xs, h, hr => by
    simp only [renL, Option.some.injEq] at h
    subst h
    cases xs with
    | nil => simp only [repL]
    | cons => simp only [repL] at hr
  | c :: cs, cs', xs, h, hr => by
    simp only [renL] at h
    split at h
    · rename_i c' ds hc hd
      simp only [Option.some.injEq] at h
      subst h
      cases xs with
      | nil => simp only [repL] at hr
      | cons x xs =>
        simp only [repL] at hr ⊢
        exact ⟨renV_rep ht hc hr.1, renL_rep ht hd hr.2⟩
    · simp at h
end

theorem renId_mem : ∀ {ren : List (Nat × Nat)} {a b : Nat}, renId ren a = some b → (a, b) ∈ ren
  | [], a, b, h => by simp [renId] at h
  | (c, d) :: l, a, b, h => by
    simp only [renId] at h
    cases hca : a == c with
    | true =>
      simp only [hca, cond_true, Option.some.injEq] at h
      have : a = c := by simpa using hca
      subst this h
      simp
    | false =>
      simp only [hca, cond_false] at h
      exact List.mem_cons_of_mem _ (renId_mem h)

/-- The names that a nil slice got: none of them stands for anything yet. -/
def Newly (τ : Nat → Gh) (l : List (Nat × E.Obj)) : Prop := ∀ p ∈ l, τ p.1 = ⟨none, none, 0, 0⟩ ∧ ∃ n, p.2 = .arr n []

theorem renAt_rep {w : World} {G : Nat → Prop} {τ τ' : Nat → Gh} {ren : List (Nat × Nat)} (ht : ∀ a b : Nat, renId ren a = some b → τ' b = τ a) {fr : Option (Nat × Nat)} {v v' : V} {l : List (Nat × E.Obj)} {x : Value}
    (h : renAt ren fr v = some (v', l)) (hn : ∀ p ∈ l, τ' p.1 = ⟨none, none, 0, 0⟩) (hr : v.rep w G τ x) : v'.rep w G τ' x := by
  unfold renAt at h
  split at h
  · rename_i id n
    simp only [Option.some.injEq, Prod.mk.injEq] at h
    obtain ⟨rfl, rfl⟩ := h
    simp only [V.rep, V.repI] at hr ⊢
    rw [hn (id, .arr n []) (by simp), hr]
    rfl
  · split at h
    · rename_i v2 hv2
      simp only [Option.some.injEq, Prod.mk.injEq] at h
      obtain ⟨rfl, _⟩ := h
      exact renV_rep ht hv2 hr
    · simp at h

theorem renAt_new {ren : List (Nat × Nat)} {fr : Option (Nat × Nat)} {v v' : V} {l : List (Nat × E.Obj)} (h : renAt ren fr v = some (v', l)) : ∀ p ∈ l, ∃ n, p.2 = E.Obj.arr n [] := by
  unfold renAt at h
  split at h
  · simp only [Option.some.injEq, Prod.mk.injEq] at h
    obtain ⟨_, rfl⟩ := h
    intro p hp; simp at hp; subst hp; exact ⟨_, rfl⟩
  · split at h
    · simp only [Option.some.injEq, Prod.mk.injEq] at h
      obtain ⟨_, rfl⟩ := h
      simp
    · simp at h

theorem renCells_rep {w : World} {G : Nat → Prop} {τ τ' : Nat → Gh} {ren : List (Nat × Nat)} (ht : ∀ a b : Nat, renId ren a = some b → τ' b = τ a) {fr : List Fr} {b : Nat} : ∀ {cs cs' : List V} {o : Nat} {l : List (Nat × E.Obj)} {xs : List Value},
    renCells ren fr b o cs = some (cs', l) → (∀ p ∈ l, τ' p.1 = ⟨none, none, 0, 0⟩) → repL w G τ cs xs → repL w G τ' cs' xs
  | [], cs', o, l, xs, h, _, hr => by
    simp only [renCells, Option.some.injEq, Prod.mk.injEq] at h
    obtain ⟨rfl, _⟩ := h
    cases xs with
    | nil => simp only [repL]
    | cons => simp only [repL] at hr
  | c :: cs, cs', o, l, xs, h, hn, hr => by
    simp only [renCells] at h
    split at h
    · rename_i c' l1 ds l2 h1 h2
      simp only [Option.some.injEq, Prod.mk.injEq] at h
      obtain ⟨rfl, rfl⟩ := h
      cases xs with
      | nil => simp only [repL] at hr
      | cons x xs =>
        simp only [repL] at hr ⊢
        exact ⟨renAt_rep ht h1 (fun p hp => hn p (by simp [hp])) hr.1, renCells_rep ht h2 (fun p hp => hn p (by simp [hp])) hr.2⟩
    · simp at h

theorem renCells_new {ren : List (Nat × Nat)} {fr : List Fr} {b : Nat} : ∀ {cs cs' : List V} {o : Nat} {l : List (Nat × E.Obj)}, renCells ren fr b o cs = some (cs', l) → ∀ p ∈ l, ∃ n, p.2 = E.Obj.arr n []
  | [], cs', o, l, h => by
    simp only [renCells, Option.some.injEq, Prod.mk.injEq] at h
    obtain ⟨_, rfl⟩ := h
    simp
  | c :: cs, cs', o, l, h => by
    simp only [renCells] at h
    split at h
    · rename_i c' l1 ds l2 h1 h2
      simp only [Option.some.injEq, Prod.mk.injEq] at h
      obtain ⟨_, rfl⟩ := h
      intro p hp
      rcases List.mem_append.1 hp with hp | hp
      · exact renAt_new h1 p hp
      · exact renCells_new h2 p hp
    · simp at h

theorem normEnv_get {σ : S} {nm : Norm} : ∀ {ts : List Nat} {env : List (Nat × V)} {l : List (Nat × E.Obj)}, normEnv σ nm ts = some (env, l) →
    (∀ t, mkEnv env t = .undef ∨ ∃ l', renAt nm.ren (frSlot nm.fresh t) (σ.env t) = some (mkEnv env t, l') ∧ ∀ p ∈ l', p ∈ l) ∧ (∀ p ∈ l, ∃ n, p.2 = E.Obj.arr n []) ∧ ∀ t, mkEnv env t = .undef ∨ (t, mkEnv env t) ∈ env
  | [], env, l, h => by
    simp only [normEnv, Option.some.injEq, Prod.mk.injEq] at h
    obtain ⟨rfl, rfl⟩ := h
    exact ⟨fun t => .inl rfl, by simp, fun t => .inl rfl⟩
  | t :: ts, env, l, h => by
    simp only [normEnv] at h
    split at h
    · rename_i v l1 e l2 h1 h2
      simp only [Option.some.injEq, Prod.mk.injEq] at h
      obtain ⟨rfl, rfl⟩ := h
      obtain ⟨g1, g2, g3⟩ := normEnv_get h2
      refine ⟨fun u => ?_, fun p hp => ?_, fun u => ?_⟩
      · simp only [mkEnv]
        cases hu : u == t with
        | true =>
          have : u = t := by simpa using hu
          subst this
          exact .inr ⟨l1, h1, fun p hp => by simp [hp]⟩
        | false =>
          simp only [cond_false]
          rcases g1 u with g | ⟨l', g, g'⟩
          · exact .inl g
          · exact .inr ⟨l', g, fun p hp => by simp [g' p hp]⟩
      · rcases List.mem_append.1 hp with hp | hp
        · exact renAt_new h1 p hp
        · exact g2 p hp
      · simp only [mkEnv]
        cases hu : u == t with
        | true =>
          have : u = t := by simpa using hu
          subst this
          exact .inr (by simp)
        | false =>
          simp only [cond_false]
          rcases g3 u with g | g
          · exact .inl g
          · exact .inr (by simp [g])
    · simp at h

theorem normSt_get {σ : S} {nm : Norm} : ∀ {ren : List (Nat × Nat)} {st l : List (Nat × E.Obj)}, normSt σ nm ren = some (st, l) →
    st.map (·.1) = ren.map (·.2) ∧ (∀ p ∈ l, ∃ n, p.2 = E.Obj.arr n []) ∧ (∀ b o', (b, o') ∈ st → ∃ a o, (a, b) ∈ ren ∧ σ.st a = some o ∧ ((o.rowsB = true ∧ o' = o) ∨ ∃ cs cs' l', o = E.Obj.box cs ∧ o' = E.Obj.box cs' ∧ renCells nm.ren nm.fresh a 0 cs = some (cs', l') ∧ ∀ p ∈ l', p ∈ l)) ∧
      ∀ a b, (a, b) ∈ ren → ∃ o, σ.st a = some o
  | [], st, l, h => by
    simp only [normSt, Option.some.injEq, Prod.mk.injEq] at h
    obtain ⟨rfl, rfl⟩ := h
    exact ⟨rfl, by simp, by simp, by simp⟩
  | (a, b) :: ren, st, l, h => by
    simp only [normSt] at h
    split at h
    · rename_i n rows s l1 h1 h2
      simp only [Option.some.injEq, Prod.mk.injEq] at h
      obtain ⟨rfl, rfl⟩ := h
      obtain ⟨g1, g2, g3, g4⟩ := normSt_get h2
      refine ⟨by simp [g1], g2, fun b' o' hb => ?_, fun a' b' hab => ?_⟩
      · rcases List.mem_cons.1 hb with hb | hb
        · simp only [Prod.mk.injEq] at hb
          obtain ⟨rfl, rfl⟩ := hb
          exact ⟨a, _, by simp, h1, .inl ⟨rfl, rfl⟩⟩
        · obtain ⟨a', o, k1, k2, k3⟩ := g3 b' o' hb
          exact ⟨a', o, by simp [k1], k2, k3⟩
      · rcases List.mem_cons.1 hab with hab | hab
        · simp only [Prod.mk.injEq] at hab
          obtain ⟨rfl, rfl⟩ := hab
          exact ⟨_, h1⟩
        · exact g4 a' b' hab
    · rename_i n rows c s l1 h1 h2
      simp only [Option.some.injEq, Prod.mk.injEq] at h
      obtain ⟨rfl, rfl⟩ := h
      obtain ⟨g1, g2, g3, g4⟩ := normSt_get h2
      refine ⟨by simp [g1], g2, fun b' o' hb => ?_, fun a' b' hab => ?_⟩
      · rcases List.mem_cons.1 hb with hb | hb
        · simp only [Prod.mk.injEq] at hb
          obtain ⟨rfl, rfl⟩ := hb
          exact ⟨a, _, by simp, h1, .inl ⟨rfl, rfl⟩⟩
        · obtain ⟨a', o, k1, k2, k3⟩ := g3 b' o' hb
          exact ⟨a', o, by simp [k1], k2, k3⟩
      · rcases List.mem_cons.1 hab with hab | hab
        · simp only [Prod.mk.injEq] at hab
          obtain ⟨rfl, rfl⟩ := hab
          exact ⟨_, h1⟩
        · exact g4 a' b' hab
    · rename_i k es s l1 h1 h2
      simp only [Option.some.injEq, Prod.mk.injEq] at h
      obtain ⟨rfl, rfl⟩ := h
      obtain ⟨g1, g2, g3, g4⟩ := normSt_get h2
      refine ⟨by simp [g1], g2, fun b' o' hb => ?_, fun a' b' hab => ?_⟩
      · rcases List.mem_cons.1 hb with hb | hb
        · simp only [Prod.mk.injEq] at hb
          obtain ⟨rfl, rfl⟩ := hb
          exact ⟨a, _, by simp, h1, .inl ⟨rfl, rfl⟩⟩
        · obtain ⟨a', o, k1, k2, k3⟩ := g3 b' o' hb
          exact ⟨a', o, by simp [k1], k2, k3⟩
      · rcases List.mem_cons.1 hab with hab | hab
        · simp only [Prod.mk.injEq] at hab
          obtain ⟨rfl, rfl⟩ := hab
          exact ⟨_, h1⟩
        · exact g4 a' b' hab
    · rename_i k s l1 h1 h2
      simp only [Option.some.injEq, Prod.mk.injEq] at h
      obtain ⟨rfl, rfl⟩ := h
      obtain ⟨g1, g2, g3, g4⟩ := normSt_get h2
      refine ⟨by simp [g1], g2, fun b' o' hb => ?_, fun a' b' hab => ?_⟩
      · rcases List.mem_cons.1 hb with hb | hb
        · simp only [Prod.mk.injEq] at hb
          obtain ⟨rfl, rfl⟩ := hb
          exact ⟨a, _, by simp, h1, .inl ⟨rfl, rfl⟩⟩
        · obtain ⟨a', o, k1, k2, k3⟩ := g3 b' o' hb
          exact ⟨a', o, by simp [k1], k2, k3⟩
      · rcases List.mem_cons.1 hab with hab | hab
        · simp only [Prod.mk.injEq] at hab
          obtain ⟨rfl, rfl⟩ := hab
          exact ⟨_, h1⟩
        · exact g4 a' b' hab
    · rename_i cs s l1 h1 h2
      split at h
      · rename_i cs' l2 h3
        simp only [Option.some.injEq, Prod.mk.injEq] at h
        obtain ⟨rfl, rfl⟩ := h
        obtain ⟨g1, g2, g3, g4⟩ := normSt_get h2
        refine ⟨by simp [g1], fun p hp => ?_, fun b' o' hb => ?_, fun a' b' hab => ?_⟩
        · rcases List.mem_append.1 hp with hp | hp
          · exact renCells_new h3 p hp
          · exact g2 p hp
        · rcases List.mem_cons.1 hb with hb | hb
          · simp only [Prod.mk.injEq] at hb
            obtain ⟨rfl, rfl⟩ := hb
            exact ⟨a, _, by simp, h1, .inr ⟨cs, cs', l2, rfl, rfl, h3, fun p hp => by simp [hp]⟩⟩
          · obtain ⟨a', o, k1, k2, k3⟩ := g3 b' o' hb
            refine ⟨a', o, by simp [k1], k2, ?_⟩
            rcases k3 with k3 | ⟨ds, ds', l', q1, q2, q3, q4⟩
            · exact .inl k3
            · exact .inr ⟨ds, ds', l', q1, q2, q3, fun p hp => by simp [q4 p hp]⟩
        · rcases List.mem_cons.1 hab with hab | hab
          · simp only [Prod.mk.injEq] at hab
            obtain ⟨rfl, rfl⟩ := hab
            exact ⟨_, h1⟩
          · exact g4 a' b' hab
      · simp at h
    · simp at h

theorem mkSt_get : ∀ {l : List (Nat × E.Obj)} {i : Nat} {o : E.Obj}, mkSt l i = some o → (i, o) ∈ l
  | [], i, o, h => by simp [mkSt] at h
  | (k, p) :: l, i, o, h => by
    simp only [mkSt] at h
    cases hik : i == k with
    | true =>
      have : i = k := by simpa using hik
      subst this
      simp only [hik, cond_true, Option.some.injEq] at h
      subst h; simp
    | false =>
      simp only [hik, cond_false] at h
      exact List.mem_cons_of_mem _ (mkSt_get h)

theorem pair_unique {α : Type} : ∀ {l : List (Nat × α)}, nodupB (l.map (·.1)) = true → ∀ {i : Nat} {x y : α}, (i, x) ∈ l → (i, y) ∈ l → x = y
  | [], _, i, x, y, h, _ => by simp at h
  | (k, z) :: l, hn, i, x, y, h1, h2 => by
    simp only [List.map_cons, nodupB, Bool.and_eq_true, Bool.not_eq_true'] at hn
    have hk : k ∉ l.map (·.1) := by simpa using hn.1
    rcases List.mem_cons.1 h1 with h1 | h1 <;> rcases List.mem_cons.1 h2 with h2 | h2
    · simp only [Prod.mk.injEq] at h1 h2; rw [h1.2, h2.2]
    · simp only [Prod.mk.injEq] at h1; rw [← h1.1] at hk; exact absurd (List.mem_map.2 ⟨_, h2, rfl⟩) hk
    · simp only [Prod.mk.injEq] at h2; rw [← h2.1] at hk; exact absurd (List.mem_map.2 ⟨_, h1, rfl⟩) hk
    · exact pair_unique hn.2 h1 h2

/-- Who is behind a name. -/
def whose (ren : List (Nat × Nat)) (b : Nat) : Option Nat := match ren with
  | [] => none
  | (a, c) :: l => if c = b then some a else whose l b

theorem whose_mem : ∀ {ren : List (Nat × Nat)} {a b : Nat}, nodupB (ren.map (·.2)) = true → (a, b) ∈ ren → whose ren b = some a
  | [], a, b, _, h => by simp at h
  | (c, d) :: l, a, b, hn, h => by
    simp only [List.map_cons, nodupB, Bool.and_eq_true, Bool.not_eq_true'] at hn
    have hd : d ∉ l.map (·.2) := by simpa using hn.1
    simp only [whose]
    rcases List.mem_cons.1 h with h | h
    · simp only [Prod.mk.injEq] at h; rw [if_pos h.2.symm, h.1]
    · have : d ≠ b := fun e => hd (e ▸ List.mem_map.2 ⟨_, h, rfl⟩)
      rw [if_neg this]; exact whose_mem hn.2 h

theorem whose_none : ∀ {ren : List (Nat × Nat)} {b : Nat}, b ∉ ren.map (·.2) → whose ren b = none
  | [], b, _ => rfl
  | (c, d) :: l, b, h => by
    simp only [List.map_cons, List.mem_cons, not_or] at h
    simp only [whose]
    rw [if_neg (fun e => h.1 e.symm)]; exact whose_none h.2

theorem nodup_left {a b : List Nat} (h : nodupB (a ++ b) = true) : nodupB a = true := by
  induction a with
  | nil => rfl
  | cons x a ih =>
    simp only [List.cons_append, nodupB, Bool.and_eq_true, Bool.not_eq_true'] at h
    simp only [nodupB, Bool.and_eq_true, Bool.not_eq_true']
    refine ⟨?_, ih h.2⟩
    have : x ∉ a ++ b := by simpa using h.1
    simp only [List.mem_append, not_or] at this
    simpa using this.1

theorem nodup_apart {a b : List Nat} (h : nodupB (a ++ b) = true) : ∀ i ∈ a, i ∉ b := by
  induction a with
  | nil => intro i hi; simp at hi
  | cons x a ih =>
    simp only [List.cons_append, nodupB, Bool.and_eq_true, Bool.not_eq_true'] at h
    intro i hi
    rcases List.mem_cons.1 hi with rfl | hi
    · have : i ∉ a ++ b := by simpa using h.1
      simp only [List.mem_append, not_or] at this
      exact this.2
    · exact ih h.2 i hi

/-- WHAT IS KEPT OF A FRAME HOLDS OF IT. -/
theorem norm_St {k : Nat} {base : Nat} {X G : Nat → Prop} {τ : Nat → Gh} {σ : S} {a : Act} {w : World} {nm : Norm} {s : SL} (hs : St base X G τ σ a w) (h : norm k σ nm = some s) :
    (∃ τ', St base X G τ' (s.toS σ.n) a w ∧ ∀ i, i < k → τ' i = τ i) ∧ ∀ i, i < k → i ∈ s.ids := by
  unfold norm at h
  split at h
  · rename_i env l1 st l2 he hst
    simp only at h
    cases hb : nodupB (st.map (·.1) ++ (l1 ++ l2).map (·.1)) && (normIds k nm.ren && nodupB (nm.ren.map (·.1))) && ((l1 ++ l2).all fun p => Nat.ble k p.1) && (env.all fun p => subset p.2.ids (st.map (·.1) ++ (l1 ++ l2).map (·.1))) && (st.all fun p => subset (idsObj p.2) (st.map (·.1) ++ (l1 ++ l2).map (·.1))) with
    | false => simp only [hb, cond_false, reduceCtorEq] at h
    | true =>
      simp only [hb, cond_true, Option.some.injEq] at h
      subst h
      simp only [Bool.and_eq_true] at hb
      obtain ⟨⟨⟨⟨b1, b2, b2'⟩, b3⟩, b4⟩, b5⟩ := hb
      obtain ⟨e1, e2, e3⟩ := normEnv_get he
      obtain ⟨s1, s2, s3, s4⟩ := normSt_get hst
      have hnr : nodupB (nm.ren.map (·.2)) = true := by rw [← s1]; exact nodup_left b1
      let τ' : Nat → Gh := fun b => match whose nm.ren b with
        | some a => τ a
        | none => if b ∈ (l1 ++ l2).map (·.1) then ⟨none, none, 0, 0⟩ else τ b
      have hren : ∀ a b : Nat, (a, b) ∈ nm.ren → τ' b = τ a := by
        intro a b hab
        show (match whose nm.ren b with | some a => τ a | none => if b ∈ (l1 ++ l2).map (·.1) then ⟨none, none, 0, 0⟩ else τ b) = τ a
        rw [whose_mem hnr hab]
      have hrenId : ∀ a b : Nat, renId nm.ren a = some b → τ' b = τ a := fun a b h => hren a b (renId_mem h)
      have hfresh : ∀ p ∈ l1 ++ l2, τ' p.1 = ⟨none, none, 0, 0⟩ := by
        intro p hp
        have hpm : p.1 ∈ (l1 ++ l2).map (·.1) := List.mem_map.2 ⟨p, hp, rfl⟩
        have hnot : p.1 ∉ nm.ren.map (·.2) := by
          rw [← s1]
          exact fun h => nodup_apart b1 p.1 h hpm
        show (match whose nm.ren p.1 with | some a => τ a | none => if p.1 ∈ (l1 ++ l2).map (fun (p : Nat × E.Obj) => p.1) then (⟨none, none, 0, 0⟩ : Gh) else τ p.1) = ⟨none, none, 0, 0⟩
        rw [whose_none hnot, if_pos hpm]
      have hnewarr : ∀ p ∈ l1 ++ l2, ∃ n, p.2 = E.Obj.arr n [] := by
        intro p hp
        rcases List.mem_append.1 hp with hp | hp
        · exact e2 p hp
        · exact s2 p hp
      -- objects
      have hobj : ∀ b o', mkSt (st ++ (l1 ++ l2)) b = some o' → ((b, o') ∈ st ∧ b ∈ st.map (·.1)) ∨ ((b, o') ∈ l1 ++ l2) := by
        intro b o' hb
        rcases List.mem_append.1 (mkSt_get hb) with h | h
        · exact .inl ⟨h, List.mem_map.2 ⟨_, h, rfl⟩⟩
        · exact .inr h
      have hnoblk : ∀ b o', (b, o') ∈ l1 ++ l2 → (τ' b).blk = none := fun b o' hb => by rw [hfresh _ hb]
      refine ⟨?_, fun i hi => List.mem_append.2 (.inr (List.mem_range.2 hi))⟩
      have hnest : ∃ ζ, SubAt base X G τ' (mkSt (st ++ (l1 ++ l2))) w ζ := by
        have key : ∀ b o', mkSt (st ++ (l1 ++ l2)) b = some o' → o'.plain = false → ∃ a0, (a0, b) ∈ nm.ren ∧ σ.st a0 = some o' ∧ idsObj o' = [] := by
          intro b o' hb hp
          rcases hobj b o' hb with ⟨hbs, _⟩ | hbl
          · obtain ⟨a0, o, k1, k2, k3⟩ := s3 b o' hbs
            rcases k3 with ⟨hrb, rfl⟩ | ⟨cs, cs', l', _, e2, _⟩
            · exact ⟨a0, k1, k2, idsObj_rows hrb⟩
            · rw [plain_of_box e2] at hp; cases hp
          · obtain ⟨n, hn⟩ := hnewarr _ hbl
            simp only at hn
            rw [hn] at hp; cases hp
        refine Sub.step (fun b => (whose nm.ren b).getD 0) hs.mem.sub (fun b hb => ⟨hb, rfl⟩) (Nat.le_refl _) (fun _ _ h => h) (fun b o' hb hp => ?_) (fun b c o1 o2 hb hc hp1 hp2 he => ?_) (fun b _ hg _ _ => ⟨rfl, hg⟩) (fun b o' q hb hq => ?_)
        · obtain ⟨a0, k1, k2, k3⟩ := key b o' hb hp
          have hw : (whose nm.ren b).getD 0 = a0 := by rw [whose_mem hnr k1]; rfl
          exact ⟨by rw [hw]; exact k2, by rw [hw]; exact hren a0 b k1, fun i hi => (by rw [k3] at hi; simp at hi), fun _ _ => rfl⟩
        · obtain ⟨a1, k1, _⟩ := key b o1 hb hp1
          obtain ⟨a2, j1, _⟩ := key c o2 hc hp2
          rw [whose_mem hnr k1, whose_mem hnr j1] at he
          have : a1 = a2 := he
          subst this
          exact pair_unique b2' k1 j1
        · rcases hobj b o' hb with ⟨hbs, _⟩ | hbl
          · obtain ⟨a0, o, k1, k2, _⟩ := s3 b o' hbs
            rw [hren a0 b k1] at hq
            exact .inr ⟨a0, o, k2, hq⟩
          · rw [hnoblk b o' hbl] at hq; simp at hq
      refine ⟨τ', ⟨⟨hs.mem.gold, fun b o' hb => ?_, fun b o' q hb hq => ?_, fun b c o1 o2 q hb hc hq1 hq2 => ?_, hnest⟩, hs.base, hs.size, fun t => ?_, fun t i hi => ?_, fun b o' hb => ?_, hs.defers⟩, fun i hi => ?_⟩
      · rcases hobj b o' hb with ⟨hbs, _⟩ | hbl
        · obtain ⟨a0, o, k1, k2, k3⟩ := s3 b o' hbs
          have hok := hs.mem.ok a0 o k2
          rcases k3 with ⟨hrb, rfl⟩ | ⟨cs, cs', l', rfl, rfl, k4, k5⟩
          · exact Obj.ok_name hrb (hren a0 b k1) hok
          · simp only [Obj.ok, rowsOk] at hok ⊢
            rw [hren a0 b k1]
            obtain ⟨q, xs, t, fz, q1, q2, q3, q4, q5⟩ := hok
            exact ⟨q, xs, t, fz, q1, q2, q3, q4, renCells_rep hrenId k4 (fun p hp => hfresh p (List.mem_append.2 (.inr (k5 p hp)))) q5⟩
        · obtain ⟨n, hn⟩ := hnewarr _ hbl
          simp only at hn
          subst hn
          simp only [Obj.ok, rowsOk]
          rw [hfresh _ hbl]
          exact ⟨rfl, Nat.le_refl _, .inl ⟨rfl, rfl, rfl⟩⟩
      · rcases hobj b o' hb with ⟨hbs, _⟩ | hbl
        · obtain ⟨a0, o, k1, k2, _⟩ := s3 b o' hbs
          rw [hren a0 b k1] at hq
          exact hs.mem.own a0 o q k2 hq
        · rw [hnoblk b o' hbl] at hq; simp at hq
      · rcases hobj b o1 hb with ⟨hbs, _⟩ | hbl <;> rcases hobj c o2 hc with ⟨hcs, _⟩ | hcl
        · obtain ⟨a1, p1, k1, k2, _⟩ := s3 b o1 hbs
          obtain ⟨a2, p2, j1, j2, _⟩ := s3 c o2 hcs
          rw [hren a1 b k1] at hq1
          rw [hren a2 c j1] at hq2
          have := hs.mem.inj a1 a2 p1 p2 q k2 j2 hq1 hq2
          subst this
          exact pair_unique b2' k1 j1
        · rw [hnoblk c o2 hcl] at hq2; simp at hq2
        · rw [hnoblk b o1 hbl] at hq1; simp at hq1
        · rw [hnoblk b o1 hbl] at hq1; simp at hq1
      · show (mkEnv env t).rep w G τ' _
        rcases e1 t with h | ⟨l', h, h'⟩
        · rw [h]; simp only [V.rep]
        · exact renAt_rep hrenId h (fun p hp => hfresh p (List.mem_append.2 (.inl (h' p hp)))) (hs.env t)
      · rcases e3 t with h | h
        · simp only [SL.toS, h, V.ids, List.not_mem_nil] at hi
        · exact List.mem_append.2 (.inl (subset_spec (List.all_eq_true.1 b4 _ h) i hi))
      · rcases hobj b o' hb with ⟨hbs, hbm⟩ | hbl
        · exact ⟨List.mem_append.2 (.inl (List.mem_append.2 (.inl hbm))), fun j hj => List.mem_append.2 (.inl (subset_spec (List.all_eq_true.1 b5 _ hbs) j hj))⟩
        · obtain ⟨n, hn⟩ := hnewarr _ hbl
          simp only at hn
          subst hn
          exact ⟨List.mem_append.2 (.inl (List.mem_append.2 (.inr (List.mem_map.2 ⟨_, hbl, rfl⟩)))), fun j hj => by simp [idsObj] at hj⟩
      · show (match whose nm.ren i with | some a => τ a | none => if i ∈ (l1 ++ l2).map (fun (p : Nat × E.Obj) => p.1) then (⟨none, none, 0, 0⟩ : Gh) else τ i) = τ i
        cases hw : whose nm.ren i with
        | some a0 =>
          have hmem : ∀ {l : List (Nat × Nat)}, whose l i = some a0 → (a0, i) ∈ l := by
            intro l
            induction l with
            | nil => intro h; simp [whose] at h
            | cons p l ih =>
              intro h
              simp only [whose] at h
              by_cases hp : p.2 = i
              · rw [if_pos hp] at h; simp only [Option.some.injEq] at h; rw [← hp, ← h]; simp
              · rw [if_neg hp] at h; exact List.mem_cons_of_mem _ (ih h)
          have hm := List.all_eq_true.1 b2 _ (hmem hw)
          have hlt : Nat.blt i k = true := by simpa [Nat.blt_eq] using hi
          simp only [hlt, cond_true] at hm
          have : a0 = i := by simpa using hm
          rw [this]
        | none =>
          simp only
          rw [if_neg]
          intro hmem
          obtain ⟨p, hp, hpi⟩ := List.mem_map.1 hmem
          have := Nat.le_of_ble_eq_true (List.all_eq_true.1 b3 p hp)
          omega
  · simp at h

end Go.Proofs.YtinfjnnffmlpmaaGreatDoor.E

/- The engine, part Y (between R and S): two frames that are made one. -/
namespace Go.Proofs.YtinfjnnffmlpmaaGreatDoor.E
open Go
set_option linter.unusedSimpArgs false

mutual
theorem mergeV_rep {w : World} {G : Nat → Prop} {τ : Nat → Gh} {B : Bool} : ∀ {u v : V} {x : Value}, (bif B then u else v).rep w G τ x → (mergeV B u v).rep w G τ x
  | u, v, x, h => by
    unfold mergeV
    split
    · rename_i k m k' m'
      cases hk : decide (k = k') with
      | false => simp only [cond_false, V.rep]
      | true =>
        have : k = k' := of_decide_eq_true hk
        subst this
        cases B <;> simpa only [cond_true, cond_false] using h
    · cases B <;> simpa only [cond_true, cond_false] using h
    · cases B <;> simpa only [cond_true, cond_false] using h
    · cases B <;> simpa only [cond_true, cond_false] using h
    · rename_i cs cs'
      split
      · rename_i l hl
        have h' : ∃ xs, x = .agg xs ∧ repL w G τ (bif B then cs else cs') xs.toList := by cases B <;> simpa only [cond_true, cond_false, V.rep] using h
        obtain ⟨xs, e, hr⟩ := h'
        simp only [V.rep]
        exact ⟨xs, e, mergeL_rep hl hr⟩
      · simp only [V.rep]
    · cases B <;> simpa only [cond_true, cond_false] using h
    · rename_i n rows n' rows'
      cases hk : n == n' with
      | false => simp only [cond_false, V.rep]
      | true =>
        have : n = n' := by simpa using hk
        subst this
        cases B <;> simpa only [cond_true, cond_false] using h
    · rename_i n rows
      cases B with
      | true =>
        simp only [cond_true, V.rep, V.repI] at h ⊢
        subst h
        exact ⟨none, 0, rfl, Nat.le_refl _, .inl trivial⟩
      | false => simpa only [cond_true, cond_false] using h
    · rename_i n rows
      cases B with
      | false =>
        simp only [cond_false, V.rep, V.repI] at h ⊢
        subst h
        exact ⟨none, 0, rfl, Nat.le_refl _, .inl trivial⟩
      | true => simpa only [cond_true, cond_false] using h
    · rename_i i j
      cases hk : i == j with
      | false => simp only [cond_false, V.rep]
      | true =>
        have : i = j := by simpa using hk
        subst this
        cases B <;> simpa only [cond_true, cond_false] using h
    · rename_i i n r o i' n' r' o'
      cases hk : i == i' && (n == n' && o == o') with
      | false => simp only [cond_false, V.rep]
      | true =>
        simp only [Bool.and_eq_true, beq_iff_eq] at hk
        obtain ⟨rfl, rfl, rfl⟩ := hk
        cases B <;> simpa only [cond_true, cond_false] using h
    · rename_i g f c g' f' c'
      cases hk : g == g' with
      | false => simp only [cond_false, V.rep]
      | true =>
        have : g = g' := by simpa using hk
        subst this
        simp only [cond_true]
        split
        · rename_i f2 c2 hf hc
          have h' : ∃ xs ys, x = .func (.func g) xs ys ∧ repL w G τ (bif B then f else f') xs.toList ∧ repL w G τ (bif B then c else c') ys.toList := by cases B <;> simpa only [cond_true, cond_false, V.rep] using h
          obtain ⟨xs, ys, e, h1, h2⟩ := h'
          simp only [V.rep]
          exact ⟨xs, ys, e, mergeL_rep hf h1, mergeL_rep hc h2⟩
        · simp only [V.rep]
    · simp only [V.rep]
theorem mergeL_rep {w : World} {G : Nat → Prop} {τ : Nat → Gh} {B : Bool} : ∀ {us vs l : List V} {xs : List Value}, mergeL B us vs = some l → repL w G τ (bif B then us else vs) xs → repL w G τ l xs
  | [], [], l, xs, h, hr => by
    simp only [mergeL, Option.some.injEq] at h
    subst h
    cases B <;> simpa only [cond_true, cond_false] using hr
  | [], _ :: _, l, xs, h, _ => by simp [mergeL] at h
  | _ :: _, [], l, xs, h, _ => by simp [mergeL] at h
  | u :: us, v :: vs, l, xs, h, hr => by
    simp only [mergeL] at h
    split at h
    · rename_i l' hl
      simp only [Option.some.injEq] at h
      subst h
      cases xs with
      | nil => cases B <;> simp [repL] at hr
      | cons x xs =>
        have hr' : (bif B then u else v).rep w G τ x ∧ repL w G τ (bif B then us else vs) xs := by cases B <;> simpa only [cond_true, cond_false, repL] using hr
        simp only [repL]
        exact ⟨mergeV_rep hr'.1, mergeL_rep hl hr'.2⟩
    · simp at h
end

mutual
theorem mergeV_ids {B : Bool} : ∀ {u v : V}, ∀ i ∈ (mergeV B u v).ids, i ∈ (bif B then u else v).ids
  | u, v, i, hi => by
    unfold mergeV at hi
    split at hi
    · rename_i k m k' m'
      cases hk : decide (k = k') <;> simp [hk, V.ids] at hi
    · simp [V.ids] at hi
    · simp [V.ids] at hi
    · simp [V.ids] at hi
    · rename_i cs cs'
      split at hi
      · rename_i l hl
        simp only [V.ids] at hi
        have := mergeL_ids hl i hi
        cases B <;> simpa only [cond_true, cond_false, V.ids] using this
      · simp [V.ids] at hi
    · simp [V.ids] at hi
    · rename_i n rows n' rows'
      cases hk : n == n' <;> simp only [hk, cond_true, cond_false, V.ids] at hi <;> simp at hi
    · simp [V.ids] at hi
    · simp [V.ids] at hi
    · rename_i a b
      cases hk : a == b with
      | false => simp only [hk, cond_false, V.ids] at hi; simp at hi
      | true =>
        have : a = b := by simpa using hk
        subst this
        simp only [hk, cond_true] at hi
        cases B <;> simpa only [cond_true, cond_false] using hi
    · rename_i a n r o a' n' r' o'
      cases hk : a == a' && (n == n' && o == o') with
      | false => simp only [hk, cond_false, V.ids] at hi; simp at hi
      | true =>
        simp only [hk, cond_true, V.ids] at hi
        simp only [Bool.and_eq_true, beq_iff_eq] at hk
        obtain ⟨rfl, rfl, rfl⟩ := hk
        cases B <;> simpa only [cond_true, cond_false, V.ids] using hi
    · rename_i g f c g' f' c'
      cases hk : g == g' with
      | false => simp only [hk, cond_false, V.ids] at hi; simp at hi
      | true =>
        simp only [hk, cond_true] at hi
        split at hi
        · rename_i f2 c2 hf hc
          simp only [V.ids, List.mem_append] at hi
          rcases hi with hi | hi
          · have := mergeL_ids hf i hi
            cases B <;> (simp only [cond_true, cond_false, V.ids, List.mem_append] at this ⊢; exact .inl this)
          · have := mergeL_ids hc i hi
            cases B <;> (simp only [cond_true, cond_false, V.ids, List.mem_append] at this ⊢; exact .inr this)
        · simp [V.ids] at hi
    · simp [V.ids] at hi
theorem mergeL_ids {B : Bool} : ∀ {us vs l : List V}, mergeL B us vs = some l → ∀ i ∈ idsL l, i ∈ idsL (bif B then us else vs)
  | [], [], l, h, i, hi => by
    simp only [mergeL, Option.some.injEq] at h
    subst h
    simp [idsL] at hi
  | [], _ :: _, l, h, _, _ => by simp [mergeL] at h
  | _ :: _, [], l, h, _, _ => by simp [mergeL] at h
  | u :: us, v :: vs, l, h, i, hi => by
    simp only [mergeL] at h
    split at h
    · rename_i l' hl
      simp only [Option.some.injEq] at h
      subst h
      simp only [idsL, List.mem_append] at hi
      rcases hi with hi | hi
      · have := mergeV_ids i hi
        cases B <;> (simp only [cond_true, cond_false, idsL, List.mem_append] at this ⊢; exact .inl this)
      · have := mergeL_ids hl i hi
        cases B <;> (simp only [cond_true, cond_false, idsL, List.mem_append] at this ⊢; exact .inr this)
    · simp at h
end

theorem mergeO_ok {w : World} {G : Nat → Prop} {τ : Nat → Gh} {B : Bool} {id : Nat} {o1 o2 : Option E.Obj} {o : E.Obj} (h : mergeO B o1 o2 = some o) :
    ∃ p, (bif B then o1 else o2) = some p ∧ (∀ i ∈ idsObj o, i ∈ idsObj p) ∧ (p.ok w G τ id → o.ok w G τ id) := by
  unfold mergeO at h
  split at h
  · rename_i cs ds
    split at h
    · rename_i l hl
      simp only [Option.some.injEq] at h
      subst h
      refine ⟨.box (bif B then cs else ds), by cases B <;> rfl, fun i hi => mergeL_ids hl i hi, fun hok => ?_⟩
      simp only [Obj.ok, rowsOk] at hok ⊢
      obtain ⟨b, xs, t, fz, e1, e2, e3, e4, e5⟩ := hok
      exact ⟨b, xs, t, fz, e1, e2, e3, e4, mergeL_rep hl e5⟩
    · simp at h
  · rename_i n rows n' rows'
    cases hk : n == n' with
    | false => simp only [hk, cond_false, reduceCtorEq] at h
    | true =>
      have : n = n' := by simpa using hk
      subst this
      simp only [hk, cond_true, Option.some.injEq] at h
      subst h
      exact ⟨.arr n (bif B then rows else rows'), by cases B <;> rfl, fun i hi => by simp [idsObj] at hi, fun hok => hok⟩
  · simp at h

/-- What a run did not touch. -/
def Kept (D : List Nat) (σ σ' : S) : Prop := (∀ t, t ∉ D → σ'.env t = σ.env t) ∧ ∃ pre, σ'.ids = pre ++ σ.ids ∧ ∀ i, i ∉ pre → σ'.st i = σ.st i

theorem Kept.refl (D : List Nat) (σ : S) : Kept D σ σ := ⟨fun _ _ => rfl, [], rfl, fun _ _ => rfl⟩

theorem Kept.trans {D D' : List Nat} {σ σ1 σ2 : S} (h : Kept D σ σ1) (h' : Kept D' σ1 σ2) : Kept (D ++ D') σ σ2 := by
  obtain ⟨a1, p1, b1, c1⟩ := h
  obtain ⟨a2, p2, b2, c2⟩ := h'
  refine ⟨fun t ht => ?_, p2 ++ p1, by rw [b2, b1, List.append_assoc], fun i hi => ?_⟩
  · simp only [List.mem_append, not_or] at ht
    rw [a2 t ht.2, a1 t ht.1]
  · simp only [List.mem_append, not_or] at hi
    rw [c2 i hi.1, c1 i hi.2]

theorem Kept.mono {D D' : List Nat} {σ σ' : S} (h : Kept D σ σ') (hd : ∀ t ∈ D, t ∈ D') : Kept D' σ σ' :=
  ⟨fun t ht => h.1 t fun hm => ht (hd t hm), h.2⟩

theorem freshIds_of {σ σ1 : S} {pre : List Nat} (h : σ1.ids = pre ++ σ.ids) : freshIds σ σ1 = pre := by
  unfold freshIds
  rw [h, List.length_append]
  have : pre.length + σ.ids.length - σ.ids.length = pre.length := by omega
  rw [this, List.take_left']
  rfl

theorem Kept.merge {B : Bool} {σ σ1 σ2 : S} {D : List Nat} : Kept D σ (mergeS B σ D σ1 σ2) := by
  refine ⟨fun t ht => ?_, freshIds σ σ1 ++ freshIds σ σ2, rfl, fun i hi => ?_⟩
  · have : D.contains t = false := by simpa using ht
    simp only [mergeS, this, cond_false]
  · have : (freshIds σ σ1 ++ freshIds σ σ2).contains i = false := by simpa using hi
    simp only [mergeS, this, cond_false]

theorem St.merge {B : Bool} {base : Nat} {X G : Nat → Prop} {τ : Nat → Gh} {σ σ1 σ2 : S} {D : List Nat} {a : Act} {w : World} (h1 : Kept D σ σ1) (h2 : Kept D σ σ2) (n1 : σ1.n = σ.n) (n2 : σ2.n = σ.n)
    (hs : St base X G τ (bif B then σ1 else σ2) a w) : St base X G τ (mergeS B σ D σ1 σ2) a w := by
  obtain ⟨a1, p1, b1, c1⟩ := h1
  obtain ⟨a2, p2, b2, c2⟩ := h2
  have hpre : freshIds σ σ1 ++ freshIds σ σ2 = p1 ++ p2 := by rw [freshIds_of b1, freshIds_of b2]
  have henv : ∀ t, (bif B then σ1 else σ2).env t = bif B then σ1.env t else σ2.env t := fun t => by cases B <;> rfl
  have hst : ∀ t, (bif B then σ1 else σ2).st t = bif B then σ1.st t else σ2.st t := fun t => by cases B <;> rfl
  have hids : ∀ i, i ∈ (bif B then σ1 else σ2).ids → i ∈ (mergeS B σ D σ1 σ2).ids := by
    intro i hi
    show i ∈ (freshIds σ σ1 ++ freshIds σ σ2) ++ σ.ids
    rw [hpre]
    cases B with
    | true =>
      have hi : i ∈ σ1.ids := hi
      rw [b1] at hi
      simp only [List.mem_append] at hi ⊢
      rcases hi with hi | hi
      · exact .inl (.inl hi)
      · exact .inr hi
    | false =>
      have hi : i ∈ σ2.ids := hi
      rw [b2] at hi
      simp only [List.mem_append] at hi ⊢
      rcases hi with hi | hi
      · exact .inl (.inr hi)
      · exact .inr hi
  have hobj : ∀ i o, (mergeS B σ D σ1 σ2).st i = some o → ∃ p, (bif B then σ1 else σ2).st i = some p ∧ (∀ j ∈ idsObj o, j ∈ idsObj p) ∧ (p.ok w G τ i → o.ok w G τ i) := by
    intro i o ho
    simp only [mergeS, hpre] at ho
    cases hc : (p1 ++ p2).contains i with
    | true =>
      simp only [hc, cond_true] at ho
      rw [hst]
      exact mergeO_ok ho
    | false =>
      simp only [hc, cond_false] at ho
      have hni : i ∉ p1 ++ p2 := by simpa using hc
      simp only [List.mem_append, not_or] at hni
      refine ⟨o, ?_, fun _ h => h, fun h => h⟩
      rw [hst, c1 i hni.1, c2 i hni.2]
      cases B <;> exact ho
  have hnest : ∀ i o, (mergeS B σ D σ1 σ2).st i = some o → o.plain = false → (bif B then σ1 else σ2).st i = some o := by
    intro i o ho hp
    simp only [mergeS, hpre] at ho
    cases hc : (p1 ++ p2).contains i with
    | true =>
      simp only [hc, cond_true] at ho
      exfalso
      unfold mergeO at ho
      split at ho
      · split at ho
        · simp only [Option.some.injEq] at ho; subst ho; cases hp
        · simp at ho
      · rename_i n rows n' rows' _ _
        cases hn : n == n' with
        | true => simp only [hn, cond_true, Option.some.injEq] at ho; subst ho; cases hp
        | false => simp [hn] at ho
      · simp at ho
    | false =>
      simp only [hc, cond_false] at ho
      have hni : i ∉ p1 ++ p2 := by simpa using hc
      simp only [List.mem_append, not_or] at hni
      rw [hst, c1 i hni.1, c2 i hni.2]
      cases B <;> exact ho
  have hsub : ∃ ζ, SubAt base X G τ (mergeS B σ D σ1 σ2).st w ζ :=
    Sub.step (fun i => i) hs.mem.sub (fun b hb => ⟨hb, rfl⟩) (Nat.le_refl _) (fun _ _ h => h) (fun i o ho hp => ⟨hnest i o ho hp, rfl, fun _ _ => rfl, fun _ _ => rfl⟩) (fun i j _ _ _ _ _ _ h => h) (fun b _ hg _ _ => ⟨rfl, hg⟩)
      (fun i o b ho hb => by
        obtain ⟨p, k1, _, _⟩ := hobj i o ho
        exact .inr ⟨i, p, k1, hb⟩)
  refine ⟨⟨hs.mem.gold, fun i o ho => ?_, fun i o b ho hb => ?_, fun i j o p b hi hj h1 h2 => ?_, hsub⟩, hs.base, ?_, fun t => ?_, fun t i hi => ?_, fun i o ho => ?_, hs.defers⟩
  · obtain ⟨p, k1, _, k3⟩ := hobj i o ho
    exact k3 (hs.mem.ok i p k1)
  · obtain ⟨p, k1, _, _⟩ := hobj i o ho
    exact hs.mem.own i p b k1 hb
  · obtain ⟨p1, k1, _, _⟩ := hobj i o hi
    obtain ⟨p2, k2, _, _⟩ := hobj j p hj
    exact hs.mem.inj i j p1 p2 b k1 k2 h1 h2
  · rw [hs.size]
    show (bif B then σ1 else σ2).n = σ.n
    cases B
    · exact n2
    · exact n1
  · have := hs.env t
    rw [henv] at this
    cases hc : D.contains t with
    | true =>
      simp only [mergeS, hc, cond_true]
      exact mergeV_rep this
    | false =>
      simp only [mergeS, hc, cond_false]
      have ht : t ∉ D := by simpa using hc
      rw [a1 t ht, a2 t ht] at this
      cases B <;> exact this
  · have hi2 : i ∈ (bif B then σ1 else σ2).ids := by
      refine hs.ids t i ?_
      rw [henv]
      cases hc : D.contains t with
      | true =>
        simp only [mergeS, hc, cond_true] at hi
        exact mergeV_ids i hi
      | false =>
        simp only [mergeS, hc, cond_false] at hi
        have ht : t ∉ D := by simpa using hc
        rw [a1 t ht, a2 t ht]
        cases B <;> exact hi
    exact hids i hi2
  · obtain ⟨p, k1, k2, _⟩ := hobj i o ho
    obtain ⟨g1, g2⟩ := hs.objs i p k1
    exact ⟨hids i g1, fun j hj => hids j (g2 j (k2 j hj))⟩

theorem allP_spec : ∀ {ps : List Prop}, allP ps → ∀ p ∈ ps, p
  | [], _, p, hp => by simp at hp
  | [q], h, p, hp => by rw [List.mem_singleton] at hp; rw [hp]; exact h
  | q :: r :: l, h, p, hp => by
    obtain ⟨h1, h2⟩ := h
    rcases List.mem_cons.1 hp with rfl | hp
    · exact h1
    · exact allP_spec h2 p hp

theorem orP_true {B : Bool} {ps qs : List Prop} (h : ∀ p ∈ orP B ps qs, p) (hb : B = true) : ∀ p ∈ ps, p := by
  cases ps with
  | nil => simp
  | cons a l => exact allP_spec (h (B = true → allP (a :: l)) (by simp [orP]) hb)

theorem orP_false {B : Bool} {ps qs : List Prop} (h : ∀ p ∈ orP B ps qs, p) (hb : B = false) : ∀ p ∈ qs, p := by
  cases qs with
  | nil => simp
  | cons a l => exact allP_spec (h (B = false → allP (a :: l)) (by simp [orP]) hb)

end Go.Proofs.YtinfjnnffmlpmaaGreatDoor.E

/- The engine, part S: code, loops, functions. -/
namespace Go.Proofs.YtinfjnnffmlpmaaGreatDoor.E
open Go
set_option linter.unusedSimpArgs false

/-! ### Loops -/

theorem wp_of_loopWp {P : Program} {c : Code} {Q : Exit → Act → World → Prop} {a : Act} {w : World} (h : loopWp P c Q a w) : (Code.loop c).wp P Q a w :=
  fun b k cs => let ⟨e, a', w', q, r⟩ := h b k cs; ⟨e, a', w', q, .of_steps (.one step_loop) r⟩

theorem loopWp_step {P : Program} {c : Code} {Q : Exit → Act → World → Prop} {a : Act} {w : World} (h : c.wp P (Exit.then (loopWp P c Q) Q) a w) : loopWp P c Q a w := by
  intro b k cs
  obtain ⟨e, a₁, w₁, hq, harr⟩ := h b (.inLoop c :: k) cs
  cases e with
  | normal =>
    obtain ⟨e₂, a₂, w₂, hq₂, harr₂⟩ := hq b k cs
    exact ⟨e₂, a₂, w₂, hq₂, .of_steps (Steps.trans harr (.one step_inLoop)) harr₂⟩
  | exit id => exact ⟨_, a₁, w₁, hq, .pass (x := .inLoop c) rfl (fun _ _ => .inl (by simp)) harr⟩
  | goto l => exact ⟨_, a₁, w₁, hq, .pass (x := .inLoop c) rfl (fun _ _ => .inl (by simp)) harr⟩
  | ret => exact ⟨_, a₁, w₁, hq, .pass (x := .inLoop c) rfl (fun _ _ => .inl (by simp)) harr⟩
  | panic ch => exact ⟨_, a₁, w₁, hq, .pass (x := .inLoop c) rfl (fun _ _ => .inl (by simp)) harr⟩
  | outgrown => exact ⟨_, a₁, w₁, hq, .pass (x := .inLoop c) rfl (fun _ _ => .inl (by simp)) harr⟩

theorem loopWp_mono {P : Program} {c : Code} {Q Q' : Exit → Act → World → Prop} {a : Act} {w : World} (h : loopWp P c Q a w) (hq : ∀ e a w, Q e a w → Q' e a w) : loopWp P c Q' a w :=
  fun b k cs => let ⟨e, a', w', q, r⟩ := h b k cs; ⟨e, a', w', hq _ _ _ q, r⟩

/-- Where a run ends. -/
def Post (base : Nat) (X G : Nat → Prop) (τ : Nat → Gh) (w : World) (k : Nat) (σ' : S) (e : Ex) : Exit → Act → World → Prop :=
  fun e' a' w' => e' = e.at ∧ ∃ G' τ', St base X G' τ' σ' a' w' ∧ Ext base X G w G' w' ∧ ∀ i, i < k → τ' i = τ i

theorem Post.after {base : Nat} {X G G1 : Nat → Prop} {τ τ1 : Nat → Gh} {w w1 : World} {k : Nat} {σ' : S} {e : Ex} (he : Ext base X G w G1 w1) (ht : ∀ i, i < k → τ1 i = τ i) : ∀ e' a' w', Post base X G1 τ1 w1 k σ' e e' a' w' → Post base X G τ w k σ' e e' a' w' := by
  rintro e' a' w' ⟨h1, G', τ', h2, h3, h4⟩
  exact ⟨h1, G', τ', h2, he.trans h3, fun i hi => (h4 i hi).trans (ht i hi)⟩

theorem putSt_kept : ∀ {ws : List (Nat × Option E.Obj)} {st : Nat → Option E.Obj} {i : Nat}, i ∉ ws.map (·.1) → putSt st ws i = st i
  | [], _, _, _ => rfl
  | (j, o) :: ws, st, i, h => by
    simp only [List.map_cons, List.mem_cons, not_or] at h
    simp only [putSt]
    rw [putSt_kept h.2]
    have : (i == j) = false := by simpa using h.1
    simp [this]

theorem runOps_keeps {P : Program} {rid : Nat} {ops : Array Oper} {sc : List (Nat × List Ans × Option Bool)} : ∀ {is : List Nat} {σ σ' : S} {ls : List Log}, runOps P rid ops sc is σ = some (σ', ls) →
      σ'.n = σ.n ∧ (∀ t, t ∉ dstsOps ops → σ'.env t = σ.env t) ∧ ∃ pre, σ'.ids = pre ++ σ.ids ∧ ∀ i, i ∉ touchedAll ls → σ'.st i = σ.st i
  | [], σ, σ', ls, h => by
    simp only [runOps, Option.some.injEq, Prod.mk.injEq] at h
    obtain ⟨rfl, _⟩ := h
    exact ⟨rfl, fun _ _ => rfl, [], rfl, fun _ _ => rfl⟩
  | i :: is, σ, σ', ls, h => by
    obtain ⟨o, l, ls', h1, _, _, _, _, _, h7, h8⟩ := runOps_cons h
    obtain ⟨g1, g2, pre, g3, g4⟩ := runOps_keeps h8
    refine ⟨g1, fun t ht => ?_, pre ++ l.new, by rw [g3, List.append_assoc], fun j hj => ?_⟩
    · rw [g2 t ht]
      show putEnv σ.env o.dst l.v t = σ.env t
      cases hd : o.dst with
      | none => rfl
      | some d =>
        have : (t == d) = false := by
          simp only [beq_eq_false_iff_ne]
          rintro rfl
          refine ht (List.mem_filterMap.2 ⟨o, ?_, hd⟩)
          exact Array.mem_toList_iff.2 (Array.mem_of_getElem? h1)
        simp [putEnv, this]
    · subst h7
      simp only [touchedAll, List.mem_append, not_or] at hj
      rw [g4 j hj.2]
      exact putSt_kept hj.1

theorem runRegion_keeps {P : Program} {rid : Nat} {ops : Array Oper} {draw : Bool} {sc : List (Nat × List Ans × Option Bool)} {σ σ' : S} {ps : List Prop} (h : runRegion P rid ops draw sc σ = some (σ', ps)) : σ'.n = σ.n ∧ Kept (dstsOps ops) σ σ' := by
  have key : ∀ {σ2 : S} {ls : List Log}, runOps P rid ops sc (List.range ops.size) σ = some (σ2, ls) → (σ2.more (touchedAll ls)).n = σ.n ∧ Kept (dstsOps ops) σ (σ2.more (touchedAll ls)) := by
    intro σ2 ls hr
    obtain ⟨g1, g2, pre, g3, g4⟩ := runOps_keeps hr
    exact ⟨g1, g2, touchedAll ls ++ pre, by simp only [S.more, g3, List.append_assoc], fun i hi => g4 i fun hm => hi (List.mem_append.2 (.inl hm))⟩
  unfold runRegion at h
  split at h
  · simp at h
  · rename_i σ2 ls hr
    cases draw with
    | false =>
      simp only [cond_false, Option.some.injEq, Prod.mk.injEq] at h
      obtain ⟨rfl, rfl⟩ := h
      exact key hr
    | true =>
      simp only [cond_true] at h
      cases hb : edgesBack ops && calmAt ops (aheadOf ops) ((List.range ops.size).zip (ops.toList.zip ls)) with
      | false => simp only [hb, cond_false, reduceCtorEq] at h
      | true =>
        simp only [hb, cond_true, Option.some.injEq, Prod.mk.injEq] at h
        obtain ⟨rfl, rfl⟩ := h
        exact key hr

theorem runFk_keeps {P : Program} {rid : Nat} {ops : Array Oper} {draw : Bool} {au : List (Nat × List Ans × Option Bool)} : ∀ {fk : Fk} {σ σ' : S} {ps : List Prop}, runFk P rid ops draw au fk σ = some (σ', ps) → σ'.n = σ.n ∧ Kept (dstsOps ops) σ σ'
  | .leaf as, σ, σ', ps, h => runRegion_keeps h
  | .node B l r, σ, σ', ps, h => by
    simp only [runFk] at h
    split at h
    · simp only [Option.some.injEq, Prod.mk.injEq] at h
      obtain ⟨rfl, rfl⟩ := h
      exact ⟨rfl, Kept.merge⟩
    · simp at h

theorem plain_tab {sc sc' : List It} (h : sc.all It.plain = true) : (sc ++ tabTail sc').all It.plain = true := by
  simp [h, tabTail, It.plain]

theorem mergeR_spec {B : Bool} {σ σ' : S} {D : List Nat} {rest sc' : List It} {r1 r2 : Res} {e : Ex} {ps : List Prop} (h : mergeR B σ D rest r1 r2 = some (e, σ', sc', ps)) :
    ∃ σ1 σ2 s1 s2 ps1 ps2, r1 = some (e, σ1, s1, ps1) ∧ r2 = some (e, σ2, s2, ps2) ∧ σ' = mergeS B σ D σ1 σ2 ∧ sc' = rest ∧ ps = orP B ps1 ps2 := by
  unfold mergeR at h
  split at h
  · rename_i e1 σ1 s1 qs1 e2 σ2 s2 qs2
    cases hb0 : doneSc s1 && doneSc s2 && e1.same e2 with
    | false => simp only [hb0, cond_false, reduceCtorEq] at h
    | true =>
      simp only [hb0, cond_true, Option.some.injEq, Prod.mk.injEq] at h
      obtain ⟨rfl, rfl, rfl, rfl⟩ := h
      have hb : e1.same e2 = true := by simp only [Bool.and_eq_true] at hb0; exact hb0.2
      have : e2 = e1 := by
        unfold Ex.same at hb
        split at hb
        · rfl
        · rename_i i j; rw [show i = j by simpa using hb]
        · rfl
        · simp at hb
      subst this
      exact ⟨σ1, σ2, s1, s2, qs1, qs2, rfl, rfl, rfl, rfl, rfl⟩
  · simp at h

theorem inBlk_spec {id : Nat} {r : Res} {e : Ex} {σ : S} {sc : List It} {ps : List Prop} (h : inBlk id r = some (e, σ, sc, ps)) : ∃ e0, r = some (e0, σ, sc, ps) ∧ ((e0 = .exit id ∧ e = .normal) ∨ (e0 ≠ .exit id ∧ e = e0)) := by
  unfold inBlk at h
  split at h
  · rename_i id' σ' sc' ps'
    cases hb : id' == id with
    | true =>
      simp only [hb, cond_true, Option.some.injEq, Prod.mk.injEq] at h
      obtain ⟨rfl, rfl, rfl, rfl⟩ := h
      have : id' = id := by simpa using hb
      subst this
      exact ⟨_, rfl, .inl ⟨rfl, rfl⟩⟩
    | false =>
      simp only [hb, cond_false, Option.some.injEq, Prod.mk.injEq] at h
      obtain ⟨rfl, rfl, rfl, rfl⟩ := h
      have : id' ≠ id := by simpa using hb
      exact ⟨_, rfl, .inr ⟨fun h => this (by cases h; rfl), rfl⟩⟩
  · rename_i hne
    refine ⟨e, h, .inr ⟨?_, rfl⟩⟩
    rintro rfl
    exact hne _ _ _ _ h

theorem iter_keeps {D : List Nat} {f : List It → S → Res} (hf : ∀ sc σ e σ' sc' ps, f sc σ = some (e, σ', sc', ps) → sc.all It.plain = true → sc'.all It.plain = true ∧ σ'.n = σ.n ∧ Kept D σ σ') :
    ∀ (m : Nat) (sc : List It) (σ : S) (e : Ex) (σ' : S) (sc' : List It) (ps : List Prop), iter f m sc σ = some (e, σ', sc', ps) → sc.all It.plain = true → sc'.all It.plain = true ∧ σ'.n = σ.n ∧ Kept D σ σ'
  | 0, _, _, _, _, _, _, h, _ => by simp [iter] at h
  | m + 1, sc, σ, e, σ', sc', ps, h, hp => by
    simp only [iter] at h
    split at h
    · simp at h
    · rename_i σ1 sc1 ps1 h1
      split at h
      · simp at h
      · rename_i e2 σ2 sc2 qs h2
        simp only [Option.some.injEq, Prod.mk.injEq] at h
        obtain ⟨rfl, rfl, rfl, rfl⟩ := h
        obtain ⟨g1, g2, g3⟩ := hf _ _ _ _ _ _ h1 hp
        obtain ⟨k1, k2, k3⟩ := iter_keeps hf m sc1 σ1 e2 σ2 sc2 qs h2 g1
        exact ⟨k1, k2.trans g2, (g3.trans k3).mono fun t ht => by simpa using ht⟩
    · rename_i e1 σ1 sc1 ps1 hne h1
      simp only [Option.some.injEq, Prod.mk.injEq] at h
      obtain ⟨rfl, rfl, rfl, rfl⟩ := h
      exact hf _ _ _ _ _ _ h1 hp

theorem tailAt_plain {P : Program} {k : Nat} {b : Code} {sc : List It} {σ : S} (h : sc.all It.plain = true) : tailAt P k b sc σ = none := by
  unfold tailAt
  split
  · simp [It.plain] at h
  · rfl

theorem runC_keeps {P : Program} {k : Nat} : ∀ (c : Code) (sc : List It) (σ : S) (e : Ex) (σ' : S) (sc' : List It) (ps : List Prop), runC P k c sc σ = some (e, σ', sc', ps) → sc.all It.plain = true → sc'.all It.plain = true ∧ σ'.n = σ.n ∧ Kept (dstsC c) σ σ'
  | .skip, sc, σ, e, σ', sc', ps, h, hp => by
    simp only [runC, Option.some.injEq, Prod.mk.injEq] at h
    obtain ⟨rfl, rfl, rfl, rfl⟩ := h
    exact ⟨hp, rfl, Kept.refl _ _⟩
  | .exit id, sc, σ, e, σ', sc', ps, h, hp => by
    simp only [runC, Option.some.injEq, Prod.mk.injEq] at h
    obtain ⟨rfl, rfl, rfl, rfl⟩ := h
    exact ⟨hp, rfl, Kept.refl _ _⟩
  | .ret, sc, σ, e, σ', sc', ps, h, hp => by
    simp only [runC, Option.some.injEq, Prod.mk.injEq] at h
    obtain ⟨rfl, rfl, rfl, rfl⟩ := h
    exact ⟨hp, rfl, Kept.refl _ _⟩
  | .region rid ops draw, sc, σ, e, σ', sc', ps, h, hp => by
    have key : ∀ as rest, rest.all It.plain = true → (match runRegion P rid ops draw as σ with
      | some (σ', ps) => some (Ex.normal, σ', rest, ps)
      | none => (none : Res)) = some (e, σ', sc', ps) → sc'.all It.plain = true ∧ σ'.n = σ.n ∧ Kept (dstsC (.region rid ops draw)) σ σ' := by
      intro as rest hrest h
      split at h
      · rename_i σ2 ps2 h2
        simp only [Option.some.injEq, Prod.mk.injEq] at h
        obtain ⟨rfl, rfl, rfl, rfl⟩ := h
        exact ⟨hrest, runRegion_keeps h2⟩
      · simp at h
    unfold runC at h
    split at h
    · rename_i id' as rest
      have hrest : rest.all It.plain = true := by simp only [List.all_cons, Bool.and_eq_true] at hp; exact hp.2
      cases hb : id' == rid with
      | true => simp only [hb, cond_true] at h; exact key _ _ hrest h
      | false => simp only [hb, cond_false] at h; exact key _ _ hp h
    · rename_i id' fk rest
      have hrest : rest.all It.plain = true := by simp only [List.all_cons, Bool.and_eq_true] at hp; exact hp.2
      cases hb : id' == rid with
      | true =>
        simp only [hb, cond_true] at h
        split at h
        · rename_i σ2 ps2 h2
          simp only [Option.some.injEq, Prod.mk.injEq] at h
          obtain ⟨rfl, rfl, rfl, rfl⟩ := h
          exact ⟨hrest, runFk_keeps h2⟩
        · simp at h
      | false => simp only [hb, cond_false] at h; exact key _ _ hp h
    · exact key _ _ hp h
  | .seq x y, sc, σ, e, σ', sc', ps, h, hp => by
    simp only [runC] at h
    split at h
    · simp at h
    · rename_i σ1 sc1 ps1 h1
      rw [tailAt_plain (runC_keeps x _ _ _ _ _ _ h1 hp).1] at h
      dsimp only at h
      split at h
      · simp at h
      · rename_i e2 σ2 sc2 qs h2
        simp only [Option.some.injEq, Prod.mk.injEq] at h
        obtain ⟨rfl, rfl, rfl, rfl⟩ := h
        obtain ⟨g1, g2, g3⟩ := runC_keeps x _ _ _ _ _ _ h1 hp
        obtain ⟨k1, k2, k3⟩ := runC_keeps y _ _ _ _ _ _ h2 g1
        exact ⟨k1, k2.trans g2, g3.trans k3⟩
    · rename_i e1 σ1 sc1 ps1 hne h1
      simp only [Option.some.injEq, Prod.mk.injEq] at h
      obtain ⟨rfl, rfl, rfl, rfl⟩ := h
      obtain ⟨g1, g2, g3⟩ := runC_keeps x _ _ _ _ _ _ h1 hp
      exact ⟨g1, g2, g3.mono fun t ht => List.mem_append.2 (.inl ht)⟩
  | .cond c x y, sc, σ, e, σ', sc', ps, h, hp => by
    have key : (match rdO σ.env c with
      | .val (.bool true) => runC P k x sc σ
      | .val (.bool false) => runC P k y sc σ
      | _ => none) = some (e, σ', sc', ps) → sc'.all It.plain = true ∧ σ'.n = σ.n ∧ Kept (dstsC (.cond c x y)) σ σ' := by
      intro h
      split at h
      · obtain ⟨g1, g2, g3⟩ := runC_keeps x _ _ _ _ _ _ h hp
        exact ⟨g1, g2, g3.mono fun t ht => List.mem_append.2 (.inl ht)⟩
      · obtain ⟨g1, g2, g3⟩ := runC_keeps y _ _ _ _ _ _ h hp
        exact ⟨g1, g2, g3.mono fun t ht => List.mem_append.2 (.inr ht)⟩
      · simp at h
    unfold runC at h
    split at h
    · simp [It.plain] at hp
    · rename_i t sc1 sc2 rest
      cases hct : isTmp t c with
      | false => simp only [hct, cond_false] at h; exact key h
      | true =>
      simp only [hct, cond_true] at h
      simp only [List.all_cons, Bool.and_eq_true] at hp
      split at h
      · rename_i B hB
        cases hb : sc1.all It.plain && sc2.all It.plain with
        | false => simp only [hb, cond_false, reduceCtorEq] at h
        | true =>
          simp only [hb, cond_true] at h
          obtain ⟨σ1, σ2, s1, s2, ps1, ps2, _, _, rfl, rfl, _⟩ := mergeR_spec h
          exact ⟨hp.2, rfl, Kept.merge⟩
      · simp at h
    · exact key h
  | .block id body, sc, σ, e, σ', sc', ps, h, hp => by
    have key : inBlk id (runC P k body sc σ) = some (e, σ', sc', ps) → sc'.all It.plain = true ∧ σ'.n = σ.n ∧ Kept (dstsC (.block id body)) σ σ' := by
      intro h
      obtain ⟨e0, h0, _⟩ := inBlk_spec h
      exact runC_keeps body _ _ _ _ _ _ h0 hp
    unfold runC at h
    split at h
    · rename_i id' B sc1 sc2 rest
      have hrest : rest.all It.plain = true := by simp only [List.all_cons, Bool.and_eq_true] at hp; exact hp.2
      cases hb : id' == id with
      | false => simp only [hb, cond_false] at h; exact key h
      | true =>
        simp only [hb, cond_true] at h
        cases hb2 : sc1.all It.plain && sc2.all It.plain with
        | false => simp only [hb2, cond_false, reduceCtorEq] at h
        | true =>
          simp only [hb2, cond_true] at h
          obtain ⟨σ1, σ2, s1, s2, ps1, ps2, _, _, rfl, rfl, _⟩ := mergeR_spec h
          exact ⟨hrest, rfl, Kept.merge⟩
    · exact key h
  | .scope body, sc, σ, e, σ', sc', ps, h, hp => by
    simp only [runC] at h
    exact runC_keeps body _ _ _ _ _ _ h hp
  | .loop body, sc, σ, e, σ', sc', ps, h, hp => by
    unfold runC at h
    split at h
    · simp [It.plain] at hp
    · rename_i m rest
      have hrest : rest.all It.plain = true := by simp only [List.all_cons, Bool.and_eq_true] at hp; exact hp.2
      exact iter_keeps (fun sc σ e σ' sc' ps h hp => runC_keeps body sc σ e σ' sc' ps h hp) m rest σ e σ' sc' ps h hrest
    · simp at h
  | .label _, sc, σ, e, σ', sc', ps, h, _ => by simp [runC] at h
  | .goto _, sc, σ, e, σ', sc', ps, h, _ => by simp [runC] at h

/-- What a piece's run says, for every frame. -/
def Says (P : Program) (k : Nat) (c : Code) (σ : S) (e : Ex) (σ' : S) : Prop :=
  σ'.n = σ.n ∧ (∀ i, i < k → i ∈ σ'.ids) ∧ ∀ base X G τ a w, St base X G τ σ a w → c.wp P (Post base X G τ w k σ' e) a w

theorem region_says {P : Program} (hmix : P.follows .mixedOrders = true) {k : Nat} {rid : Nat} {ops : Array Oper} {draw : Bool} {sc : List (Nat × List Ans × Option Bool)} {σ σ' : S} {ps : List Prop} (hk : ∀ i, i < k → i ∈ σ.ids)
    (h : runRegion P rid ops draw sc σ = some (σ', ps)) (hp : ∀ p ∈ ps, p) : Says P k (.region rid ops draw) σ .normal σ' := by
  obtain ⟨h1, _, pre, h2, _⟩ := runRegion_keeps h
  exact ⟨h1, fun i hi => by rw [h2]; exact List.mem_append.2 (.inr (hk i hi)), fun base X G τ a w hs => runRegion_wp hmix h hp hs fun a' w' G' τ' k1 k2 k3 => ⟨rfl, G', τ', k1, k2, fun i hi => k3 i (hk i hi)⟩⟩

theorem iter_says {P : Program} {k : Nat} {body : Code} {f : List It → S → Res} (hf : ∀ sc σ e σ' sc' ps, f sc σ = some (e, σ', sc', ps) → (∀ p ∈ ps, p) → (∀ i, i < k → i ∈ σ.ids) → Says P k body σ e σ') :
    ∀ (m : Nat) (sc : List It) (σ : S) (e : Ex) (σ' : S) (sc' : List It) (ps : List Prop), iter f m sc σ = some (e, σ', sc', ps) → (∀ p ∈ ps, p) → (∀ i, i < k → i ∈ σ.ids) →
      σ'.n = σ.n ∧ (∀ i, i < k → i ∈ σ'.ids) ∧ ∀ base X G τ a w, St base X G τ σ a w → loopWp P body (Post base X G τ w k σ' e) a w
  | 0, _, _, _, _, _, _, h, _, _ => by simp [iter] at h
  | m + 1, sc, σ, e, σ', sc', ps, h, hp, hk => by
    simp only [iter] at h
    split at h
    · simp at h
    · rename_i σ1 sc1 ps1 h1
      split at h
      · simp at h
      · rename_i e2 σ2 sc2 qs h2
        simp only [Option.some.injEq, Prod.mk.injEq] at h
        obtain ⟨rfl, rfl, rfl, rfl⟩ := h
        obtain ⟨g1, g2, g3⟩ := hf _ _ _ _ _ _ h1 (fun p hm => hp p (List.mem_append.2 (.inl hm))) hk
        obtain ⟨k1, k2, k3⟩ := iter_says hf m sc1 σ1 e2 σ2 sc2 qs h2 (fun p hm => hp p (List.mem_append.2 (.inr hm))) g2
        refine ⟨k1.trans g1, k2, fun base X G τ a w hs => loopWp_step (wp_mono (g3 base X G τ a w hs) ?_)⟩
        rintro e' a' w' ⟨rfl, G', τ', q1, q2, q3⟩
        exact loopWp_mono (k3 base X G' τ' a' w' q1) (Post.after q2 q3)
    · rename_i e1 σ1 sc1 ps1 hne h1
      simp only [Option.some.injEq, Prod.mk.injEq] at h
      obtain ⟨rfl, rfl, rfl, rfl⟩ := h
      obtain ⟨g1, g2, g3⟩ := hf _ _ _ _ _ _ h1 hp hk
      refine ⟨g1, g2, fun base X G τ a w hs => loopWp_step (wp_mono (g3 base X G τ a w hs) ?_)⟩
      rintro e' a' w' ⟨rfl, hrest⟩
      cases e1 with
      | normal => exact (hne rfl).elim
      | exit id => exact ⟨rfl, hrest⟩
      | ret => exact ⟨rfl, hrest⟩

theorem Says.merge {P : Program} {k : Nat} {c : Code} {B : Bool} {σ σ1 σ2 : S} {D : List Nat} {e : Ex} (hk : ∀ i, i < k → i ∈ σ.ids) (k1 : Kept D σ σ1) (k2 : Kept D σ σ2) (h1 : B = true → Says P k c σ e σ1) (h2 : B = false → Says P k c σ e σ2)
    (n1 : σ1.n = σ.n) (n2 : σ2.n = σ.n) : Says P k c σ e (mergeS B σ D σ1 σ2) := by
  refine ⟨rfl, fun i hi => List.mem_append.2 (.inr (hk i hi)), fun base X G τ a w hs => ?_⟩
  have h : c.wp P (Post base X G τ w k (bif B then σ1 else σ2) e) a w := by
    cases B with
    | true => exact (h1 rfl).2.2 base X G τ a w hs
    | false => exact (h2 rfl).2.2 base X G τ a w hs
  refine wp_mono h ?_
  rintro e' a' w' ⟨rfl, G', τ', q1, q2, q3⟩
  exact ⟨rfl, G', τ', St.merge k1 k2 n1 n2 q1, q2, q3⟩

theorem runFk_says {P : Program} (hmix : P.follows .mixedOrders = true) {k : Nat} {rid : Nat} {ops : Array Oper} {draw : Bool} {au : List (Nat × List Ans × Option Bool)} : ∀ {fk : Fk} {σ σ' : S} {ps : List Prop}, (∀ i, i < k → i ∈ σ.ids) → runFk P rid ops draw au fk σ = some (σ', ps) → (∀ p ∈ ps, p) → Says P k (.region rid ops draw) σ .normal σ'
  | .leaf as, σ, σ', ps, hk, h, hp => region_says hmix hk h hp
  | .node B l r, σ, σ', ps, hk, h, hp => by
    simp only [runFk] at h
    split at h
    · rename_i σ1 ps1 σ2 ps2 h1 h2
      simp only [Option.some.injEq, Prod.mk.injEq] at h
      obtain ⟨rfl, rfl⟩ := h
      obtain ⟨n1, k1⟩ := runFk_keeps h1
      obtain ⟨n2, k2⟩ := runFk_keeps h2
      exact Says.merge hk k1 k2 (fun hb => runFk_says hmix hk h1 (orP_true hp hb)) (fun hb => runFk_says hmix hk h2 (orP_false hp hb)) n1 n2
    · simp at h

theorem toS_range {k n : Nat} {s : SL} (h : subset (List.range k) s.ids = true) : ∀ i, i < k → i ∈ (s.toS n).ids := fun i hi => subset_spec h i (List.mem_range.2 hi)

theorem tailAt_says {P : Program} {k : Nat} {b : Code} {sc : List It} {σ : S} {e : Ex} {σ' : S} {sc' : List It} {ps : List Prop} (h : tailAt P k b sc σ = some (some (e, σ', sc', ps))) (hp : ∀ p ∈ ps, p) : Says P k b σ e σ' := by
  unfold tailAt at h
  split at h
  · rename_i id nm e2 s2 rest
    cases hb : firstReg b == id with
    | false => simp only [hb, cond_false, reduceCtorEq] at h
    | true =>
      simp only [hb, cond_true, Option.some.injEq] at h
      split at h
      · rename_i s0 hn
        cases hb : subset (List.range k) s2.ids with
        | false => simp only [hb, cond_false, reduceCtorEq] at h
        | true =>
          simp only [hb, cond_true, Option.some.injEq, Prod.mk.injEq] at h
          obtain ⟨rfl, rfl, rfl, rfl⟩ := h
          refine ⟨rfl, toS_range hb, fun base X G τ a w hs => ?_⟩
          obtain ⟨⟨τ1, q1, q2⟩, q3⟩ := norm_St hs hn
          have hc : CodeC P k σ.n b s0 e2 s2 := hp _ (by simp)
          refine wp_mono (hc base X G τ1 a w q1) ?_
          rintro e' a' w' ⟨rfl, G', τ', r1, r2, r3⟩
          exact ⟨rfl, G', τ', r1, r2, fun i hi => (r3 i hi).trans (q2 i hi)⟩
      · simp at h
  · simp at h

theorem runC_says {P : Program} (hmix : P.follows .mixedOrders = true) {k : Nat} : ∀ (c : Code) (sc : List It) (σ : S) (e : Ex) (σ' : S) (sc' : List It) (ps : List Prop), runC P k c sc σ = some (e, σ', sc', ps) → (∀ p ∈ ps, p) → (∀ i, i < k → i ∈ σ.ids) → Says P k c σ e σ'
  | .skip, sc, σ, e, σ', sc', ps, h, _, hk => by
    simp only [runC, Option.some.injEq, Prod.mk.injEq] at h
    obtain ⟨rfl, rfl, rfl, rfl⟩ := h
    exact ⟨rfl, hk, fun base X G τ a w hs => wp_skip ⟨rfl, G, τ, hs, Ext.refl _ _ _ _, fun _ _ => rfl⟩⟩
  | .exit id, sc, σ, e, σ', sc', ps, h, _, hk => by
    simp only [runC, Option.some.injEq, Prod.mk.injEq] at h
    obtain ⟨rfl, rfl, rfl, rfl⟩ := h
    exact ⟨rfl, hk, fun base X G τ a w hs => wp_exit ⟨rfl, G, τ, hs, Ext.refl _ _ _ _, fun _ _ => rfl⟩⟩
  | .ret, sc, σ, e, σ', sc', ps, h, _, hk => by
    simp only [runC, Option.some.injEq, Prod.mk.injEq] at h
    obtain ⟨rfl, rfl, rfl, rfl⟩ := h
    exact ⟨rfl, hk, fun base X G τ a w hs => wp_ret ⟨rfl, G, τ, hs, Ext.refl _ _ _ _, fun _ _ => rfl⟩⟩
  | .region rid ops draw, sc, σ, e, σ', sc', ps, h, hp, hk => by
    have key : ∀ as rest, (match runRegion P rid ops draw as σ with
      | some (σ', ps) => some (Ex.normal, σ', rest, ps)
      | none => (none : Res)) = some (e, σ', sc', ps) → Says P k (.region rid ops draw) σ e σ' := by
      intro as rest h
      split at h
      · rename_i σ2 ps2 h2
        simp only [Option.some.injEq, Prod.mk.injEq] at h
        obtain ⟨rfl, rfl, rfl, rfl⟩ := h
        exact region_says hmix hk h2 hp
      · simp at h
    unfold runC at h
    split at h
    · rename_i id' as rest
      cases hb : id' == rid with
      | true => simp only [hb, cond_true] at h; exact key _ _ h
      | false => simp only [hb, cond_false] at h; exact key _ _ h
    · rename_i id' fk rest
      cases hb : id' == rid with
      | true =>
        simp only [hb, cond_true] at h
        split at h
        · rename_i σ2 ps2 h2
          simp only [Option.some.injEq, Prod.mk.injEq] at h
          obtain ⟨rfl, rfl, rfl, rfl⟩ := h
          exact runFk_says hmix hk h2 hp
        · simp at h
      | false => simp only [hb, cond_false] at h; exact key _ _ h
    · exact key _ _ h
  | .seq x y, sc, σ, e, σ', sc', ps, h, hp, hk => by
    simp only [runC] at h
    split at h
    · simp at h
    · rename_i σ1 sc1 ps1 h1
      split at h
      · simp at h
      · rename_i e2 σ2 sc2 qs h2
        simp only [Option.some.injEq, Prod.mk.injEq] at h
        obtain ⟨rfl, rfl, rfl, rfl⟩ := h
        obtain ⟨g1, g2, g3⟩ := runC_says hmix x _ _ _ _ _ _ h1 (fun p hm => hp p (List.mem_append.2 (.inl hm))) hk
        obtain ⟨k1, k2, k3⟩ := tailAt_says h2 (fun p hm => hp p (List.mem_append.2 (.inr hm)))
        refine ⟨k1.trans g1, k2, fun base X G τ a w hs => wp_seq (wp_mono (g3 base X G τ a w hs) ?_)⟩
        rintro e' a' w' ⟨rfl, G', τ', q1, q2, q3⟩
        exact wp_mono (k3 base X G' τ' a' w' q1) (Post.after q2 q3)
      split at h
      · simp at h
      · rename_i e2 σ2 sc2 qs h2
        simp only [Option.some.injEq, Prod.mk.injEq] at h
        obtain ⟨rfl, rfl, rfl, rfl⟩ := h
        obtain ⟨g1, g2, g3⟩ := runC_says hmix x _ _ _ _ _ _ h1 (fun p hm => hp p (List.mem_append.2 (.inl hm))) hk
        obtain ⟨k1, k2, k3⟩ := runC_says hmix y _ _ _ _ _ _ h2 (fun p hm => hp p (List.mem_append.2 (.inr hm))) g2
        refine ⟨k1.trans g1, k2, fun base X G τ a w hs => wp_seq (wp_mono (g3 base X G τ a w hs) ?_)⟩
        rintro e' a' w' ⟨rfl, G', τ', q1, q2, q3⟩
        exact wp_mono (k3 base X G' τ' a' w' q1) (Post.after q2 q3)
    · rename_i e1 σ1 sc1 ps1 hne h1
      simp only [Option.some.injEq, Prod.mk.injEq] at h
      obtain ⟨rfl, rfl, rfl, rfl⟩ := h
      obtain ⟨g1, g2, g3⟩ := runC_says hmix x _ _ _ _ _ _ h1 hp hk
      refine ⟨g1, g2, fun base X G τ a w hs => wp_seq (wp_mono (g3 base X G τ a w hs) ?_)⟩
      rintro e' a' w' ⟨rfl, hrest⟩
      cases e1 with
      | normal => exact (hne rfl).elim
      | exit id => exact ⟨rfl, hrest⟩
      | ret => exact ⟨rfl, hrest⟩
  | .cond c x y, sc, σ, e, σ', sc', ps, h, hp, hk => by
    have key : (match rdO σ.env c with
      | .val (.bool true) => runC P k x sc σ
      | .val (.bool false) => runC P k y sc σ
      | _ => none) = some (e, σ', sc', ps) → Says P k (.cond c x y) σ e σ' := by
      intro h
      split at h
      · rename_i hc
        obtain ⟨g1, g2, g3⟩ := runC_says hmix x _ _ _ _ _ _ h hp hk
        refine ⟨g1, g2, fun base X G τ a w hs => wp_cond_true ?_ (g3 base X G τ a w hs)⟩
        have := rd_rep hs.env c
        rw [hc] at this; simp only [V.rep] at this
        exact this
      · rename_i hc
        obtain ⟨g1, g2, g3⟩ := runC_says hmix y _ _ _ _ _ _ h hp hk
        refine ⟨g1, g2, fun base X G τ a w hs => wp_cond_false ?_ (g3 base X G τ a w hs)⟩
        have := rd_rep hs.env c
        rw [hc] at this; simp only [V.rep] at this
        exact this
      · simp at h
    unfold runC at h
    split at h
    · rename_i nm e2 s2 rest
      split at h
      · rename_i s0 hn
        cases hb : subset (List.range k) s2.ids with
        | false => simp only [hb, cond_false, reduceCtorEq] at h
        | true =>
          simp only [hb, cond_true, Option.some.injEq, Prod.mk.injEq] at h
          obtain ⟨rfl, rfl, rfl, rfl⟩ := h
          refine ⟨rfl, toS_range hb, fun base X G τ a w hs => ?_⟩
          obtain ⟨⟨τ1, q1, q2⟩, q3⟩ := norm_St hs hn
          have hc : CodeC P k σ.n (.cond c x y) s0 e2 s2 := hp _ (by simp)
          refine wp_mono (hc base X G τ1 a w q1) ?_
          rintro e' a' w' ⟨rfl, G', τ', r1, r2, r3⟩
          exact ⟨rfl, G', τ', r1, r2, fun i hi => (r3 i hi).trans (q2 i hi)⟩
      · simp at h
    · rename_i t sc1 sc2 rest
      cases hct : isTmp t c with
      | false => simp only [hct, cond_false] at h; exact key h
      | true =>
      simp only [hct, cond_true] at h
      split at h
      · rename_i B hB
        cases hb : sc1.all It.plain && sc2.all It.plain with
        | false => simp only [hb, cond_false, reduceCtorEq] at h
        | true =>
          simp only [hb, cond_true] at h
          simp only [Bool.and_eq_true] at hb
          obtain ⟨σ1, σ2, s1, s2, ps1, ps2, h1, h2, rfl, rfl, rfl⟩ := mergeR_spec h
          obtain ⟨_, n1, k1⟩ := runC_keeps x _ _ _ _ _ _ h1 (plain_tab hb.1)
          obtain ⟨_, n2, k2⟩ := runC_keeps y _ _ _ _ _ _ h2 (plain_tab hb.2)
          refine Says.merge hk (k1.mono fun t ht => List.mem_append.2 (.inl ht)) (k2.mono fun t ht => List.mem_append.2 (.inr ht)) (fun hbt => ?_) (fun hbf => ?_) n1 n2
          · obtain ⟨g1, g2, g3⟩ := runC_says hmix x _ _ _ _ _ _ h1 (orP_true hp hbt) hk
            refine ⟨g1, g2, fun base X G τ a w hs => wp_cond_true ?_ (g3 base X G τ a w hs)⟩
            have := rd_rep hs.env c
            rw [hB, hbt] at this; simp only [V.rep] at this
            exact this
          · obtain ⟨g1, g2, g3⟩ := runC_says hmix y _ _ _ _ _ _ h2 (orP_false hp hbf) hk
            refine ⟨g1, g2, fun base X G τ a w hs => wp_cond_false ?_ (g3 base X G τ a w hs)⟩
            have := rd_rep hs.env c
            rw [hB, hbf] at this; simp only [V.rep] at this
            exact this
      · simp at h
    · exact key h
  | .block id body, sc, σ, e, σ', sc', ps, h, hp, hk => by
    have key : ∀ {sc sc' : List It} {σ' : S} {e : Ex} {ps : List Prop}, inBlk id (runC P k body sc σ) = some (e, σ', sc', ps) → (∀ p ∈ ps, p) → Says P k (.block id body) σ e σ' := by
      intro sc sc' σ' e ps h hp
      obtain ⟨e0, h0, hcase⟩ := inBlk_spec h
      obtain ⟨g1, g2, g3⟩ := runC_says hmix body _ _ _ _ _ _ h0 hp hk
      refine ⟨g1, g2, fun base X G τ a w hs => wp_block (wp_mono (g3 base X G τ a w hs) ?_)⟩
      rintro e' a' w' ⟨rfl, hrest⟩
      rcases hcase with ⟨rfl, rfl⟩ | ⟨hne, rfl⟩
      · show Exit.inBlock id _ (.exit id) a' w'
        simp only [Exit.inBlock, if_true]
        exact ⟨rfl, hrest⟩
      · cases e with
        | normal => exact ⟨rfl, hrest⟩
        | exit id' =>
          have hb' : ¬ id' = id := fun h => hne (by rw [h])
          show Exit.inBlock id _ (.exit id') a' w'
          simp only [Exit.inBlock, hb', if_false]
          exact ⟨rfl, hrest⟩
        | ret => exact ⟨rfl, hrest⟩
    unfold runC at h
    split at h
    · rename_i id' B sc1 sc2 rest
      cases hb : id' == id with
      | false => simp only [hb, cond_false] at h; exact key h hp
      | true =>
        simp only [hb, cond_true] at h
        cases hb2 : sc1.all It.plain && sc2.all It.plain with
        | false => simp only [hb2, cond_false, reduceCtorEq] at h
        | true =>
          simp only [hb2, cond_true] at h
          simp only [Bool.and_eq_true] at hb2
          obtain ⟨σ1, σ2, s1, s2, ps1, ps2, h1, h2, rfl, rfl, rfl⟩ := mergeR_spec h
          obtain ⟨e1, h01, _⟩ := inBlk_spec h1
          obtain ⟨e2, h02, _⟩ := inBlk_spec h2
          obtain ⟨_, n1, k1⟩ := runC_keeps body _ _ _ _ _ _ h01 (plain_tab hb2.1)
          obtain ⟨_, n2, k2⟩ := runC_keeps body _ _ _ _ _ _ h02 (plain_tab hb2.2)
          exact Says.merge hk k1 k2 (fun hbt => key h1 (orP_true hp hbt)) (fun hbf => key h2 (orP_false hp hbf)) n1 n2
    · exact key h hp
  | .scope body, sc, σ, e, σ', sc', ps, h, hp, hk => by
    simp only [runC] at h
    obtain ⟨g1, g2, g3⟩ := runC_says hmix body _ _ _ _ _ _ h hp hk
    refine ⟨g1, g2, fun base X G τ a w hs => wp_scope_straight (wp_mono (g3 base X G τ a w hs) ?_)⟩
    rintro e' a' w' ⟨rfl, hrest⟩
    cases e with
    | normal => exact ⟨rfl, hrest⟩
    | exit id' => exact ⟨rfl, hrest⟩
    | ret => exact ⟨rfl, hrest⟩
  | .loop body, sc, σ, e, σ', sc', ps, h, hp, hk => by
    unfold runC at h
    split at h
    · rename_i nm e2 s2 rest
      split at h
      · rename_i s0 hn
        cases hb : subset (List.range k) s2.ids with
        | false => simp only [hb, cond_false, reduceCtorEq] at h
        | true =>
          simp only [hb, cond_true, Option.some.injEq, Prod.mk.injEq] at h
          obtain ⟨rfl, rfl, rfl, rfl⟩ := h
          refine ⟨rfl, toS_range hb, fun base X G τ a w hs => ?_⟩
          obtain ⟨⟨τ1, q1, q2⟩, q3⟩ := norm_St hs hn
          have hc : LoopC P k σ.n body s0 e2 s2 := hp _ (by simp)
          refine wp_of_loopWp (loopWp_mono (hc base X G τ1 a w q1) ?_)
          rintro e' a' w' ⟨rfl, G', τ', r1, r2, r3⟩
          exact ⟨rfl, G', τ', r1, r2, fun i hi => (r3 i hi).trans (q2 i hi)⟩
      · simp at h
    · rename_i m rest
      obtain ⟨g1, g2, g3⟩ := iter_says (fun sc σ e σ' sc' ps h hp hk => runC_says hmix body sc σ e σ' sc' ps h hp hk) m rest σ e σ' sc' ps h hp hk
      exact ⟨g1, g2, fun base X G τ a w hs => wp_of_loopWp (g3 base X G τ a w hs)⟩
    · simp at h
  | .label _, sc, σ, e, σ', sc', ps, h, _, _ => by simp [runC] at h
  | .goto _, sc, σ, e, σ', sc', ps, h, _, _ => by simp [runC] at h

end Go.Proofs.YtinfjnnffmlpmaaGreatDoor.E

/- The engine, part T: a function's contract, from its run. -/
namespace Go.Proofs.YtinfjnnffmlpmaaGreatDoor.E
open Go
set_option linter.unusedSimpArgs false

theorem repL_fixAll {P : Program} {w : World} {G : Nat → Prop} {τ : Nat → Gh} : ∀ {ts : List TypeId} {vs : List V} {xs : List Value}, repL w G τ vs xs → repL w G τ (fixAll P ts vs) xs
  | [], vs, xs, h => by simpa only [fixAll] using h
  | t :: ts, [], xs, h => by simpa only [fixAll] using h
  | t :: ts, v :: vs, [], h => by simp only [repL] at h
  | t :: ts, v :: vs, x :: xs, h => by
    simp only [repL] at h
    simp only [fixAll, repL]
    exact ⟨rep_fixV h.1, repL_fixAll h.2⟩

/-- The result of one result variable. -/
def resultSem (tmps : Array Value) : ResultVar → Sem Value
  | .tmp t => pure (tmps.getD t Go.undef)
  | .cell a t => do loadVar t (← asAddr (tmps.getD a Go.undef))

theorem resultOf_run {P : Program} {base : Nat} {X G : Nat → Prop} {τ : Nat → Gh} {σ : S} {a : Act} {w : World} (hs : St base X G τ σ a w) {r : ResultVar} {v : V} (h : resultOf P σ r = some v) :
    ∃ x, (resultSem a.tmps r).run P w = .ok x w ∧ v.rep w G τ x := by
  cases r with
  | tmp t =>
    simp only [resultOf, Option.some.injEq] at h
    subst h
    exact ⟨_, by simp [resultSem, Sem.run_pure], hs.env t⟩
  | cell t ty =>
    simp only [resultOf] at h
    split at h
    · rename_i id n off he
      split at h
      · rename_i cells hst
        have hr := hs.env t
        rw [he] at hr
        simp only [V.rep] at hr
        obtain ⟨b, hb, hv⟩ := hr
        have hok := hs.mem.ok id _ hst
        simp only [Obj.ok, rowsOk] at hok
        obtain ⟨b', xs, ty', fz, e1, e2, _, _, e5⟩ := hok
        rw [hb] at e1
        cases e1
        obtain ⟨x, hx, hrep⟩ := takeCells_load (o := 0) (b := b) e5 (fun i x hi => by rw [Nat.zero_add, cell_of_heap e2]; simpa using hi) h
        refine ⟨x, ?_, hrep⟩
        simp only [resultSem, Sem.run_bind, hv, asAddr, Nat.zero_mul]
        rw [Nat.zero_add] at hx ⊢
        simpa [Sem.run_pure] using hx
      · simp at h
    · simp at h

theorem results_list {P : Program} {base : Nat} {X G : Nat → Prop} {τ : Nat → Gh} {σ : S} {a : Act} {w : World} (hs : St base X G τ σ a w) : ∀ {l : List ResultVar} {vs : List V}, allSome (resultOf P σ) l = some vs →
    ∃ xs, (l.mapM (resultSem a.tmps)).run P w = .ok xs w ∧ repL w G τ vs xs
  | [], vs, h => by
    simp only [allSome, Option.some.injEq] at h
    subst h
    exact ⟨[], by simp [Sem.run_pure], by simp only [repL]⟩
  | r :: l, vs, h => by
    simp only [allSome] at h
    cases h1 : resultOf P σ r with
    | none => simp [h1] at h
    | some v =>
      cases h2 : allSome (resultOf P σ) l with
      | none => simp [h1, h2] at h
      | some vs' =>
        simp only [h1, h2, Option.some.injEq] at h
        subst h
        obtain ⟨x, hx, hr⟩ := resultOf_run hs h1
        obtain ⟨xs, hxs, hrs⟩ := results_list hs h2
        refine ⟨x :: xs, ?_, by simp only [repL]; exact ⟨hr, hrs⟩⟩
        simp [List.mapM_cons, Sem.run_bind, hx, hxs, Sem.run_pure]

theorem results_run {P : Program} {base : Nat} {X G : Nat → Prop} {τ : Nat → Gh} {σ : S} {a : Act} {w : World} (hs : St base X G τ σ a w) {fn : Func} {vs : List V} (h : allSome (resultOf P σ) fn.results.toList = some vs) :
    ∃ xs : List Value, repL w G τ vs xs ∧ (results fn a.tmps).run P w = .ok (if h : xs.length = 1 then xs[0] else .tuple xs.toArray) w := by
  obtain ⟨xs, hx, hr⟩ := results_list hs h
  refine ⟨xs, hr, ?_⟩
  have e : results fn a.tmps = (do
      let vs ← fn.results.mapM (resultSem a.tmps)
      pure (if h : vs.size = 1 then vs[0] else .tuple vs)) := by
    unfold results
    congr 1
  rw [e, Array.mapM_eq_mapM_toList]
  simp only [Sem.run_bind, map_eq_pure_bind, hx, Sem.run_pure, Result.andThen_ok]
  simp

theorem finObjs_get {st : Nat → Option E.Obj} (names : List Nat) : ∀ {l : List Nat} {os : List (Option E.Obj)}, finObjs st names l = some os →
    os.length = l.length ∧ ∀ (j : Nat) (o' : E.Obj), os[j]? = some (some o') → ∃ (id : Nat) (o : E.Obj), l[j]? = some id ∧ st id = some o ∧ ((o.rowsB = true ∧ o' = o) ∨ ∃ cs cs' rs', o = .box cs ∧ o' = .box cs' ∧ (passL names false cs).run st = some (cs', rs'))
  | [], os, h => by
    simp only [finObjs, Option.some.injEq] at h
    subst h
    exact ⟨rfl, by simp⟩
  | id :: l, os, h => by
    simp only [finObjs] at h
    split at h
    · simp at h
    · rename_i os2 h2
      obtain ⟨g1, g2⟩ := finObjs_get names h2
      split at h
      · simp only [Option.some.injEq] at h
        subst h
        refine ⟨by simp [g1], fun j o' hj => ?_⟩
        cases j with
        | zero => simp at hj
        | succ j => obtain ⟨i, o2, k⟩ := g2 j o' (by simpa using hj); exact ⟨i, o2, by simpa using k⟩
      · rename_i n rows hst
        simp only [Option.some.injEq] at h
        subst h
        refine ⟨by simp [g1], fun j o' hj => ?_⟩
        cases j with
        | zero => simp at hj; subst hj; exact ⟨id, _, by simp, hst, .inl ⟨rfl, rfl⟩⟩
        | succ j => obtain ⟨i, o2, k⟩ := g2 j o' (by simpa using hj); exact ⟨i, o2, by simpa using k⟩
      · rename_i n rows c hst
        simp only [Option.some.injEq] at h
        subst h
        refine ⟨by simp [g1], fun j o' hj => ?_⟩
        cases j with
        | zero => simp at hj; subst hj; exact ⟨id, _, by simp, hst, .inl ⟨rfl, rfl⟩⟩
        | succ j => obtain ⟨i, o2, k⟩ := g2 j o' (by simpa using hj); exact ⟨i, o2, by simpa using k⟩
      · rename_i k es hst
        simp only [Option.some.injEq] at h
        subst h
        refine ⟨by simp [g1], fun j o' hj => ?_⟩
        cases j with
        | zero => simp at hj; subst hj; exact ⟨id, _, by simp, hst, .inl ⟨rfl, rfl⟩⟩
        | succ j => obtain ⟨i, o2, k⟩ := g2 j o' (by simpa using hj); exact ⟨i, o2, by simpa using k⟩
      · rename_i k hst
        simp only [Option.some.injEq] at h
        subst h
        refine ⟨by simp [g1], fun j o' hj => ?_⟩
        cases j with
        | zero => simp at hj; subst hj; exact ⟨id, _, by simp, hst, .inl ⟨rfl, rfl⟩⟩
        | succ j => obtain ⟨i, o2, k⟩ := g2 j o' (by simpa using hj); exact ⟨i, o2, by simpa using k⟩
      · simp at h
      · rename_i cells hst
        split at h
        · rename_i cs rs hp
          simp only [Option.some.injEq] at h
          subst h
          refine ⟨by simp [g1], fun j o' hj => ?_⟩
          cases j with
          | zero => simp at hj; subst hj; exact ⟨id, _, by simp, hst, .inr ⟨cells, cs, rs, rfl, rfl, hp⟩⟩
          | succ j => obtain ⟨i, o2, k⟩ := g2 j o' (by simpa using hj); exact ⟨i, o2, by simpa using k⟩
        · simp at h

/-- What is given away at the end. -/
theorem Mem.given {base : Nat} {X G : Nat → Prop} {τ : Nat → Gh} {st : Nat → Option E.Obj} {w : World} {names lent : List Nat} {os : List (Option E.Obj)}
    (hm : Mem base X G τ st w) (hn : nodupB names = true) (hl : ∀ i ∈ lent, i ∉ names) (h : finObjs st names names = some os) :
    Mem base X (giveG G τ st lent) (tauOf τ names) (objsAt' os) w := by
  obtain ⟨hlen, hget0⟩ := finObjs_get names h
  have hget : ∀ (j : Nat) (o' : E.Obj), objsAt' os j = some o' → ∃ (id : Nat) (o : E.Obj), names[j]? = some id ∧ st id = some o ∧ ((o.rowsB = true ∧ o' = o) ∨ ∃ cs cs' rs', o = .box cs ∧ o' = .box cs' ∧ (passL names false cs).run st = some (cs', rs')) := by
    intro j o' hj
    refine hget0 j o' ?_
    simp only [objsAt'] at hj
    split at hj
    · rename_i q hq; rw [hq, hj]
    · simp at hj
  have htau : ∀ j id, names[j]? = some id → tauOf τ names j = τ id := fun j id hj => by simp [tauOf, hj]
  have hnest : ∀ (j : Nat) (o' : E.Obj), objsAt' os j = some o' → o'.plain = false → ∃ id, names[j]? = some id ∧ st id = some o' ∧ idsObj o' = [] := by
    intro j o' hj hp
    obtain ⟨id, o, g1, g2, g3⟩ := hget j o' hj
    rcases g3 with ⟨hrb, rfl⟩ | ⟨cs, cs', rs', _, e2, _⟩
    · exact ⟨id, g1, g2, idsObj_rows hrb⟩
    · rw [plain_of_box e2] at hp; cases hp
  refine ⟨(Mem.give hm lent).gold, fun j o' hj => ?_, fun j o' b hj hb => ?_, fun i j o1 o2 b h1 h2 hb1 hb2 => ?_,
    Sub.step (fun j => names.getD j 0) hm.sub (fun b hb => ⟨.inl hb, rfl⟩) (Nat.le_refl _) (fun _ _ h => h) (fun j o' hj hp => ?_) (fun i j o1 o2 h1 h2 hp1 hp2 he => ?_) (fun b _ hg _ hj => ⟨rfl, fun hgg => ?_⟩) (fun j o' b hj hb => ?_)⟩
  rotate_left 3
  · obtain ⟨id, g1, g2, g3⟩ := hnest j o' hj hp
    have hd : names.getD j 0 = id := by simp [List.getD_eq_getElem?_getD, g1]
    exact ⟨by rw [hd]; exact g2, by rw [hd]; exact htau j id g1, fun i hi => (by rw [g3] at hi; simp at hi), fun _ _ => rfl⟩
  · obtain ⟨id1, g1, _⟩ := hnest i o1 h1 hp1
    obtain ⟨id2, k1, _⟩ := hnest j o2 h2 hp2
    have hd1 : names.getD i 0 = id1 := by simp [List.getD_eq_getElem?_getD, g1]
    have hd2 : names.getD j 0 = id2 := by simp [List.getD_eq_getElem?_getD, k1]
    have he' : names.getD i 0 = names.getD j 0 := he
    rw [hd1, hd2] at he'
    subst he'
    exact nodupB_spec hn i j id1 g1 k1
  · rcases hgg with hgg | ⟨id, _, ⟨n, rows, h⟩, hb⟩
    · exact hg hgg
    · exact hj id _ h hb
  · obtain ⟨id, o, g1, g2, _⟩ := hget j o' hj
    rw [htau j id g1] at hb
    exact .inr ⟨id, o, g2, hb⟩
  · obtain ⟨id, o, g1, g2, g3⟩ := hget j o' hj
    have hin := List.mem_of_getElem? g1
    have hok := hm.ok id o g2
    have hnG : ∀ b, (τ id).blk = some b → giveG G τ st lent b → G b := by
      intro b hb hg
      rcases hg with hg | ⟨id', hid', ⟨n, rows, hs⟩, hb'⟩
      · exact hg
      · exact absurd (hm.inj id' id _ o b hs g2 hb' hb) (fun e => hl id' hid' (e ▸ hin))
    rcases g3 with ⟨hrb, rfl⟩ | ⟨cs, cs', rs', rfl, rfl, hp⟩
    · refine Obj.ok_mono (τ := fun _ => τ id) (τ' := tauOf τ names) (id := j) (fun b hb => ⟨.inl hb, rfl⟩) (fun b hb => ⟨rfl, hnG b hb⟩) (htau j id g1) (fun i hi => by rw [idsObj_rows hrb] at hi; simp at hi) ?_
      exact Obj.ok_name hrb rfl hok
    · simp only [Obj.ok, rowsOk] at hok ⊢
      rw [htau j id g1]
      obtain ⟨b, xs, t, fz, e1, e2, e3, e4, e5⟩ := hok
      exact ⟨b, xs, t, fz, e1, e2, fun hg => e3 (hnG b e1 hg), e4, passL_rep hm names lent false hp (fun i hi hni => absurd (pass_ids2 names hp i hi) hni) e5⟩
  · obtain ⟨id, o, g1, g2, _⟩ := hget j o' hj
    rw [htau j id g1] at hb
    exact hm.own id o b g2 hb
  · obtain ⟨id1, p1, g1, g2, _⟩ := hget i o1 h1
    obtain ⟨id2, p2, k1, k2, _⟩ := hget j o2 h2
    rw [htau i id1 g1] at hb1
    rw [htau j id2 k1] at hb2
    have := hm.inj id1 id2 p1 p2 b g2 k2 hb1 hb2
    subst this
    exact nodupB_spec hn i j id1 g1 k1

theorem passTop_rep {base : Nat} {X G : Nat → Prop} {τ : Nat → Gh} {st : Nat → Option E.Obj} {w : World} (hm : Mem base X G τ st w) (ids lent : List Nat) {v v' : V} {rs : List Nat} {x : Value}
    (h : (passTop ids v).run st = some (v', rs)) (hl : ∀ i ∈ v.ids, i ∉ ids → i ∈ lent) (hr : v.rep w G τ x) : v'.rep w (giveG G τ st lent) (tauOf τ ids) x := by
  unfold passTop at h
  split at h
  · rename_i vs
    obtain ⟨cs', r1, r2, h1, h2, _⟩ := T.run_bind_some h
    simp only [T.run, Option.some.injEq, Prod.mk.injEq] at h2
    obtain ⟨rfl, _⟩ := h2
    simp only [V.rep] at hr ⊢
    obtain ⟨xs, e, hr⟩ := hr
    exact ⟨xs, e, passL_rep hm ids lent true h1 (fun i hi => hl i (by simpa only [V.ids] using hi)) hr⟩
  · exact pass_rep hm ids lent true h hl hr

theorem idsL_get : ∀ {args : List V} {t : Nat} {a : V} {i : Nat}, args[t]? = some a → i ∈ a.ids → i ∈ idsL args
  | [], t, a, i, h, _ => by simp at h
  | c :: cs, t, a, i, h, hi => by
    simp only [idsL, List.mem_append]
    cases t with
    | zero => simp at h; subst h; exact .inl hi
    | succ t => exact .inr (idsL_get (by simpa using h) hi)

/-- THE VERIFIER IS SOUND. -/
theorem vc {P : Program} (hmix : P.follows .mixedOrders = true) {f : FuncId} {args : List V} {objs : List E.Obj} {sc : List It} {exports : List Nat} {r : V} {objs' : List (Option E.Obj)} {ps : List Prop}
    (h : runF P f args objs sc exports = some (r, objs', ps)) (hp : ∀ p ∈ ps, p) : Contract P f args objs r objs' := by
  unfold runF at h
  split at h
  · rename_i fn hfn
    split at h
    · rename_i c hc
      simp only at h
      cases hb : subset (idsL args) (List.range objs.length) && (objs.all fun o => subset (idsObj o) (List.range objs.length)) && (fn.name != "runtime.NumGoroutine") with
      | false => simp only [hb, cond_false, reduceCtorEq] at h
      | true =>
        simp only [hb, cond_true] at h
        simp only [Bool.and_eq_true] at hb
        obtain ⟨⟨b1, b2⟩, b3⟩ := hb
        split at h
        · rename_i e σ rest ps2 hrun
          have hdone : doneSc rest = true := by
            cases hd : doneSc rest with
            | true => rfl
            | false => simp [hd] at h
          simp only [hdone, Bool.true_and] at h
          have hex : e = .normal ∨ e = .ret := by
            cases e with
            | normal => exact .inl rfl
            | ret => exact .inr rfl
            | exit id => simp at h
          have h : (match allSome (resultOf P σ) fn.results.toList with
              | some vs => (match (passTop (List.range objs.length ++ exports) (match fixAll P fn.resultTypes.toList vs with
                  | [v] => v
                  | vs => .tup vs)).run σ.st, finObjs σ.st (List.range objs.length ++ exports) (List.range objs.length ++ exports) with
                | some (v, _), some os => bif nodupB (List.range objs.length ++ exports) then some (v, os, ps2) else none
                | _, _ => none)
              | none => none) = some (r, objs', ps) := by
            rcases hex with rfl | rfl
            · exact h
            · exact h
          split at h
          · rename_i vs hvs
            split at h
            · rename_i v rs os hv hos
              cases hn : nodupB (List.range objs.length ++ exports) with
              | false => simp only [hn, cond_false, reduceCtorEq] at h
              | true =>
                simp only [hn, cond_true, Option.some.injEq, Prod.mk.injEq] at h
                obtain ⟨rfl, rfl, rfl⟩ := h
                obtain ⟨_, _, hsays⟩ := runC_says hmix c _ _ _ _ _ _ hrun hp (fun i hi => List.mem_range.2 hi)
                refine ⟨⟨fn, hfn, by simpa using b3, by simp [hc]⟩, fun w G X τ vals hm hX ha => calls_of_wp hfn hc ?_⟩
                have hlen := repL_length ha
                have hsize : vals.size = args.length := by rw [hlen]; simp
                have hst0 : St w.heap.size X G τ ⟨max args.length fn.ntmps, fun t => args.getD t .undef, objsAt objs, List.range objs.length⟩
                    { tmps := vals ++ Array.replicate (fn.ntmps - vals.size) Go.undef, defers := [] } w := by
                  refine ⟨hm, Nat.le_refl _, ?_, fun t => ?_, fun t i hi => ?_, fun i o ho => ?_, rfl⟩
                  · simp [hsize]; omega
                  · show (args.getD t .undef).rep w G τ _
                    rw [List.getD_eq_getElem?_getD]
                    cases ht : args[t]? with
                    | none => simp only [Option.getD_none, V.rep]
                    | some a =>
                      obtain ⟨x, hx, hr⟩ := repL_get ha t a ht
                      have : (vals ++ Array.replicate (fn.ntmps - vals.size) Go.undef).getD t Go.undef = x := by
                        have hlt : t < vals.size := by
                          rw [hsize]; exact (List.getElem?_eq_some_iff.1 ht).1
                        have hx' : vals[t]? = some x := by simpa using hx
                        rw [Array.getD_eq_getD_getElem?, Array.getElem?_append_left hlt, hx']
                        rfl
                      rw [this]
                      simpa using hr
                  · have hi : i ∈ (args.getD t .undef).ids := hi
                    rw [List.getD_eq_getElem?_getD] at hi
                    cases ht : args[t]? with
                    | none => simp [ht, V.ids] at hi
                    | some a =>
                      simp only [ht, Option.getD_some] at hi
                      refine subset_spec b1 i ?_
                      exact idsL_get ht hi
                  · have ho' : objs[i]? = some o := ho
                    refine ⟨List.mem_range.2 (List.getElem?_eq_some_iff.1 ho').1, ?_⟩
                    exact subset_spec (List.all_eq_true.1 b2 o (List.mem_of_getElem? ho'))
                refine wp_mono (hsays _ _ _ _ _ _ hst0) ?_
                rintro e' a' w' ⟨rfl, G', τ', hs', hext, hτ⟩
                obtain ⟨xs, hxs, hres⟩ := results_run hs' hvs
                have hfx := repL_fixAll (P := P) (ts := fn.resultTypes.toList) hxs
                let names := List.range objs.length ++ exports
                let rv : V := match fixAll P fn.resultTypes.toList vs with
                  | [v] => v
                  | vs => .tup vs
                have hrv : rv.rep w' G' τ' (if h : xs.length = 1 then xs[0] else .tuple xs.toArray) := by
                  have hl := repL_length hfx
                  show V.rep w' G' τ' (match fixAll P fn.resultTypes.toList vs with
                    | [v] => v
                    | vs => .tup vs) _
                  generalize fixAll P fn.resultTypes.toList vs = vs2 at hfx hl ⊢
                  split
                  · rename_i v1
                    match xs, hfx with
                    | [x], hfx => simp only [repL] at hfx; exact hfx.1
                    | [], hfx => simp [repL] at hfx
                    | _ :: _ :: _, hfx => simp [repL] at hfx
                  · rename_i hne
                    have : ¬ xs.length = 1 := by
                      intro h1
                      match vs2, hl with
                      | [v1], _ => exact hne v1 rfl
                      | [], hl => simp at hl; omega
                      | _ :: _ :: _, hl => simp at hl; omega
                    rw [dif_neg this]
                    simp only [V.rep]
                    exact ⟨xs.toArray, rfl, by simpa using hfx⟩
                let lent := rv.ids.filter fun i => !names.contains i
                have hlent : ∀ i ∈ lent, i ∉ names := by
                  intro i hi
                  have := (List.mem_filter.1 hi).2
                  simpa using this
                have hfinal := passTop_rep hs'.mem names lent hv (fun i hi hni => List.mem_filter.2 ⟨hi, by simpa using hni⟩) hrv
                have hmem := Mem.given hs'.mem hn hlent hos
                have hpost : bodyPost P fn (fun e w'_1 => ∃ v_1 G' τ', e = .returned v_1 ∧ Ext w.heap.size X G w G' w'_1 ∧ (∀ i, i < objs.length → τ' i = τ i) ∧ v.rep w'_1 G' τ' v_1 ∧ Mem w.heap.size X G' τ' (objsAt' os) w'_1) .normal a' w' := by
                  refine ⟨hs'.defers, _, hres, _, giveG G' τ' σ.st lent, tauOf τ' names, rfl, ?_, fun i hi => ?_, hfinal, hmem⟩
                  · refine ⟨hext.os, hext.tape, hext.output, hext.size, hext.block, fun b hb => ⟨.inl (hext.keep b hb).1, (hext.keep b hb).2⟩, fun b hb => ?_⟩
                    rcases hb with hb | ⟨id, _, ⟨n, rows, hs⟩, hb⟩
                    · exact hext.grow b hb
                    · rcases hs'.mem.own id _ b hs hb with h | h
                      · exact .inr (.inr h)
                      · exact .inr (.inl h)
                  · have : names[i]? = some i := by
                      show (List.range objs.length ++ exports)[i]? = some i
                      rw [List.getElem?_append_left (by simpa using hi)]
                      simp [hi]
                    simp only [tauOf, this]
                    exact hτ i hi
                rcases hex with rfl | rfl
                · exact hpost
                · exact hpost
            · simp at h
          · simp at h
        · simp at h
    · simp at h
  · simp at h

end Go.Proofs.YtinfjnnffmlpmaaGreatDoor.E

/- The engine, part U: loops by their rounds. -/
namespace Go.Proofs.YtinfjnnffmlpmaaGreatDoor.E
open Go
set_option linter.unusedSimpArgs false

theorem runTo_says {P : Program} (hmix : P.follows .mixedOrders = true) {k n : Nat} {c : Code} {sc : List It} {s s' : SL} {nm : Norm} {e : Ex} {ps : List Prop} (h : runTo P k n c sc s nm = some (e, s', ps)) (hp : ∀ p ∈ ps, p) : CodeC P k n c s e s' := by
  unfold runTo at h
  cases hb : subset (List.range k) s.ids with
  | false => simp only [hb, cond_false, reduceCtorEq] at h
  | true =>
    simp only [hb, cond_true] at h
    split at h
    · rename_i e2 σ rest ps2 hrun
      cases hd : doneSc rest with
      | false => simp only [hd, cond_false, reduceCtorEq] at h
      | true =>
      simp only [hd, cond_true] at h
      split at h
      · rename_i s2 hn
        simp only [Option.some.injEq, Prod.mk.injEq] at h
        obtain ⟨rfl, rfl, rfl⟩ := h
        obtain ⟨g1, g2, g3⟩ := runC_says hmix c _ _ _ _ _ _ hrun hp (toS_range hb)
        intro base X G τ a w hs
        refine wp_mono (g3 base X G τ a w hs) ?_
        rintro e' a' w' ⟨rfl, G', τ', q1, q2, q3⟩
        obtain ⟨⟨τ1, r1, r2⟩, _⟩ := norm_St q1 hn
        refine ⟨rfl, G', τ1, ?_, q2, fun i hi => (r2 i hi).trans (q3 i hi)⟩
        have : σ.n = n := g1
        rw [this] at r1
        exact r1
      · simp at h
    · simp at h

/-- A round that leaves the loop. -/
theorem LoopC.last {P : Program} {k n : Nat} {c : Code} {s s' : SL} {e : Ex} (h : CodeC P k n c s e s') (he : e ≠ .normal) : LoopC P k n c s e s' := by
  intro base X G τ a w hs
  refine loopWp_step (wp_mono (h base X G τ a w hs) ?_)
  rintro e' a' w' ⟨rfl, hrest⟩
  cases e with
  | normal => exact (he rfl).elim
  | exit id => exact ⟨rfl, hrest⟩
  | ret => exact ⟨rfl, hrest⟩

/-- A round behind which the loop goes on. -/
theorem LoopC.next {P : Program} {k n : Nat} {c : Code} {s s1 s' : SL} {e : Ex} (h : CodeC P k n c s .normal s1) (hr : LoopC P k n c s1 e s') : LoopC P k n c s e s' := by
  intro base X G τ a w hs
  refine loopWp_step (wp_mono (h base X G τ a w hs) ?_)
  rintro e' a' w' ⟨rfl, G', τ', q1, q2, q3⟩
  refine loopWp_mono (hr base X G' τ' a' w' q1) ?_
  rintro e' a' w' ⟨rfl, G2, τ2, r1, r2, r3⟩
  exact ⟨rfl, G2, τ2, r1, q2.trans r2, fun i hi => (r3 i hi).trans (q3 i hi)⟩

end Go.Proofs.YtinfjnnffmlpmaaGreatDoor.E

/- The engine, part W: what is handed in, as terms. -/
namespace Go.Proofs.YtinfjnnffmlpmaaGreatDoor.E
open Go
set_option linter.unusedSimpArgs false

def catFields (T : TypeId → List V → Prop) : List Field → List V → Prop
  | [], vs => vs = []
  | f :: fs, vs => ∃ a b, vs = a ++ b ∧ T f.type a ∧ catFields T fs b

def catN (T : List V → Prop) : Nat → List V → Prop
  | 0, vs => vs = []
  | n + 1, vs => ∃ a b, vs = a ++ b ∧ T a ∧ catN T n b

mutual
/-- How many values and letters a reading holds. -/
def bulk {H : Type} : DataW H → Nat
  | .lit (.string bytes) => bytes.length + 1
  | .lit _ => 1
  | .nil => 1
  | .ptr d => bulk d + 1
  | .slice elems spare => bulkAll elems + bulkAll spare + 1
  | .agg parts => bulkAll parts + 1
  | .iface _ d => bulk d + 1
  | .map entries => bulkEntries entries + 1
  | .held _ => 1
def bulkAll {H : Type} : List (DataW H) → Nat
  | [] => 0
  | d :: r => bulk d + bulkAll r
def bulkEntries {H : Type} : List (Lit × DataW H) → Nat
  | [] => 0
  | x :: r => bulkEntry x + bulkEntries r
def bulkEntry {H : Type} : Lit × DataW H → Nat
  | (.string bytes, d) => bytes.length + bulk d + 1
  | (_, d) => bulk d + 1
end

/-- No slice, and no text, of a reading is longer than B. -/
def SzOk {H : Type} (B : Nat) (d : DataW H) : Prop := maxLen ≤ B ∨ bulk d ≤ B

theorem bulk_one {H : Type} (d : DataW H) : 1 ≤ bulk d := by
  cases d with
  | lit l => cases l <;> simp [bulk]
  | _ => simp [bulk]
theorem bulkAll_len {H : Type} : ∀ l : List (DataW H), l.length ≤ bulkAll l
  | [] => Nat.zero_le _
  | d :: r => by have := bulk_one d; have := bulkAll_len r; simp only [bulkAll, List.length_cons]; omega
theorem bulkAll_mem {H : Type} {d : DataW H} : ∀ {l : List (DataW H)}, d ∈ l → bulk d ≤ bulkAll l
  | x :: r, h => by
    simp only [bulkAll]
    rcases List.mem_cons.1 h with rfl | h
    · omega
    · have := bulkAll_mem h; omega
theorem SzOk.all {H : Type} {B : Nat} {xs : List (DataW H × List MemPlace)} {d : DataW H} (h : SzOk B d) (hd : bulkAll (xs.map (·.1)) ≤ bulk d) : ∀ y ∈ xs, SzOk B y.1 := by
  intro y hy
  rcases h with h | h
  · exact .inl h
  · exact .inr (Nat.le_trans (bulkAll_mem (List.mem_map_of_mem hy)) (Nat.le_trans hd h))

mutual
/-- No slice, and no text, of a term is longer than B. -/
def V.bnd (B : Nat) : V → Prop
  | .sl _ rows => rows.length ≤ B ∧ bndRs B rows
  | .val x => match x with
    | .string s => s.size ≤ B
    | .int k n => (Lit.int k n).wf = true
    | _ => True
  | .agg cs => bndL B cs
  | _ => True
def bndRs (B : Nat) : List (List V) → Prop
  | [] => True
  | r :: rs => bndL B r ∧ bndRs B rs
def bndL (B : Nat) : List V → Prop
  | [] => True
  | c :: cs => c.bnd B ∧ bndL B cs
end
mutual
/-- How many values and letters a term holds. -/
def V.sz : V → Nat
  | .sl _ rows => szRs rows + 1
  | .val x => match x with
    | .string s => s.size + 1
    | _ => 1
  | .agg cs => szL cs
  | _ => 1
def szRs : List (List V) → Nat
  | [] => 0
  | r :: rs => szL r + szRs rs
def szL : List V → Nat
  | [] => 0
  | c :: cs => c.sz + szL cs
end
theorem szL_append : ∀ (xs ys : List V), szL (xs ++ ys) = szL xs + szL ys
  | [], ys => by simp [szL]
  | x :: xs, ys => by rw [List.cons_append, szL, szL, szL_append xs ys]; omega
theorem bndRs_mem {B : Nat} : ∀ {rs : List (List V)}, bndRs B rs → ∀ r ∈ rs, bndL B r
  | r :: rs, h, x, hx => by
    simp only [bndRs] at h
    rcases List.mem_cons.1 hx with rfl | hx
    · exact h.1
    · exact bndRs_mem h.2 x hx
theorem bndRs_of {B : Nat} : ∀ {rs : List (List V)}, (∀ r ∈ rs, bndL B r) → bndRs B rs
  | [], _ => by simp only [bndRs]
  | r :: rs, h => by simp only [bndRs]; exact ⟨h r (by simp), bndRs_of fun x hx => h x (by simp [hx])⟩
theorem bndL_append {B : Nat} : ∀ {as bs : List V}, bndL B as → bndL B bs → bndL B (as ++ bs)
  | [], _, _, h => by simpa using h
  | a :: as, bs, h, k => by simp only [bndL] at h; simp only [List.cons_append, bndL]; exact ⟨h.1, bndL_append h.2 k⟩

/-- The cells of a value of a type, as terms. -/
def Typed (P : Program) (B : Nat) : Nat → TypeId → List V → Prop
  | 0, _, _ => False
  | d + 1, t, vs => match P.underlying t with
    | some .bool => ∃ b, vs = [.val (.bool b)]
    | some (.int k) => ∃ n, vs = [.val (.int k n)] ∧ (Lit.int k n).wf = true
    | some .string => ∃ s, vs = [.val (.string s)] ∧ s.size ≤ B
    | some (.slice e) => ∃ rows, vs = [.sl (P.cellsOf e) rows] ∧ rows.length ≤ B ∧ ∀ r ∈ rows, Typed P B d e r
    | some (.struct fs) => catFields (Typed P B d) fs.toList vs
    | some (.array n e) => catN (Typed P B d e) n vs
    | _ => False

def tiles (P : Program) : Nat → List Field → Nat → Bool
  | o, [], n => o == n
  | o, f :: fs, n => f.offset == o && tiles P (o + P.cellsOf f.type) fs n

theorem bnd_fields {B : Nat} {T : TypeId → List V → Prop} (h : ∀ t vs, T t vs → bndL B vs) : ∀ {fs : List Field} {vs : List V}, catFields T fs vs → bndL B vs
  | [], vs, hv => by simp only [catFields] at hv; subst hv; simp only [bndL]
  | f :: fs, vs, hv => by
    simp only [catFields] at hv
    obtain ⟨a, b, rfl, h1, h2⟩ := hv
    exact bndL_append (h _ _ h1) (bnd_fields h h2)
theorem bnd_elems {B : Nat} {T : List V → Prop} (h : ∀ vs, T vs → bndL B vs) : ∀ {n : Nat} {vs : List V}, catN T n vs → bndL B vs
  | 0, vs, hv => by simp only [catN] at hv; subst hv; simp only [bndL]
  | n + 1, vs, hv => by
    simp only [catN] at hv
    obtain ⟨a, b, rfl, h1, h2⟩ := hv
    exact bndL_append (h _ h1) (bnd_elems h h2)
theorem typed_bnd {P : Program} {B : Nat} : ∀ (d : Nat) (t : TypeId) (vs : List V), Typed P B d t vs → bndL B vs
  | 0, _, _, h => by simp only [Typed] at h
  | d + 1, t, vs, h => by
    simp only [Typed] at h
    split at h
    · obtain ⟨b, rfl⟩ := h; simp [bndL, V.bnd]
    · obtain ⟨n, rfl, hw⟩ := h; simp only [bndL, V.bnd, and_true]; exact hw
    · obtain ⟨s, rfl, hs⟩ := h; simp [bndL, V.bnd, hs]
    · obtain ⟨rows, rfl, h1, h2⟩ := h
      simp only [bndL, V.bnd, and_true]
      exact ⟨h1, bndRs_of fun r hr => typed_bnd d _ r (h2 r hr)⟩
    · exact bnd_fields (fun t vs => typed_bnd d t vs) h
    · exact bnd_elems (fun vs => typed_bnd d _ vs) h
    · exact h.elim

/-- Types whose values are read so. -/
def readable (P : Program) : Nat → TypeId → Bool
  | 0, _ => false
  | d + 1, t => match P.underlying t with
    | some .bool => true
    | some (.int _) => true
    | some .string => true
    | some (.slice e) => Nat.ble 1 (P.cellsOf e) && readable P d e
    | some (.struct fs) => tiles P 0 fs.toList (P.cellsOf t) && fs.toList.all fun f => readable P d f.type
    | some (.array n e) => n * P.cellsOf e == P.cellsOf t && readable P d e
    | _ => false

theorem repCells_at {w : World} {G : Nat → Prop} {b : Nat} : ∀ {cs : List V} {xs : List Value} {o : Nat}, repIL w G cs xs → (∀ i x, xs[i]? = some x → w.cell? ⟨b, o + i, none⟩ = some x) → repCells w G b o cs
  | [], [], _, _, _ => by simp only [repCells]
  | [], _ :: _, _, hr, _ => by simp only [repIL] at hr
  | _ :: _, [], _, hr, _ => by simp only [repIL] at hr
  | c :: cs, x :: xs, o, hr, h => by
    simp only [repIL] at hr
    simp only [repCells]
    refine ⟨⟨x, by simpa using h 0 x (by simp), hr.1.2, hr.1.1⟩, repCells_at hr.2 fun i y hy => ?_⟩
    have := h (i + 1) y (by simpa using hy)
    rwa [show o + (i + 1) = o + 1 + i by omega] at this

section
variable {H : Type} {enc : TypeId × Value → H} {P : Program} {w : World}

/-- Every block that is there. -/
def Old (w : World) : Nat → Prop := fun b => b < w.heap.size

theorem cell_old {a : Addr} {x : Value} (h : w.cell? a = some x) : a.spot = none ∧ a.block < w.heap.size := by
  unfold World.cell? at h
  split at h
  · rename_i hb
    refine ⟨?_, lt_of_get hb⟩
    cases hs : a.spot with
    | none => rfl
    | some s => simp [hs] at h
  · simp at h

theorem mapM_len {α β : Type} {f : α → Option β} : ∀ {l : List α} {ys : List β}, l.mapM f = some ys → ys.length = l.length
  | [], ys, h => by simp at h; subst h; rfl
  | a :: l, ys, h => by
    rw [List.mapM_cons] at h
    cases h1 : f a with
    | none => simp [h1] at h
    | some x =>
      cases h2 : l.mapM f with
      | none => simp [h1, h2] at h
      | some xs =>
        obtain rfl : x :: xs = ys := by simpa [h1, h2] using h
        simp [mapM_len h2]

theorem rows_of {T : List V → Prop} {Q : DataW H × List MemPlace → Prop} {a : Addr} {n : Nat} (hn : 1 ≤ n) : ∀ (len k : Nat) (elems : List (DataW H × List MemPlace)) (f : List Value → Option (DataW H × List MemPlace)),
    (∀ x ∈ elems, Q x) → (∀ cs x, Q x → f cs = some x → ∃ vs, T vs ∧ repIL w (Old w) vs cs ∧ szL vs ≤ bulk x.1) →
    ((List.range' k len).mapM fun i => (w.cells? 0 (a.add (i * n)) n).bind f) = some elems →
    ∃ rows : List (List V), rows.length = len ∧ (∀ r ∈ rows, T r) ∧ (len = 0 ∨ (a.block < w.heap.size ∧ (k = 0 → a.spot = none))) ∧ repRows w (Old w) n a.block (a.off + k * n) rows ∧ szRs rows ≤ bulkAll (elems.map (·.1))
  | 0, k, elems, f, _, hf, h => ⟨[], rfl, by simp, .inl rfl, by simp only [repRows], Nat.zero_le _⟩
  | len + 1, k, elems, f, hQ, hf, h => by
    rw [List.range'_succ, List.mapM_cons] at h
    cases h1 : (w.cells? 0 (a.add (k * n)) n).bind f with
    | none => simp [h1] at h
    | some x =>
      cases h2 : (List.range' (k + 1) len).mapM fun i => (w.cells? 0 (a.add (i * n)) n).bind f with
      | none => simp [h1, h2] at h
      | some xs =>
        obtain ⟨cs, hcs, hfx⟩ := Option.bind_eq_some_iff.1 h1
        obtain rfl : x :: xs = elems := by simpa [h1, h2] using h
        obtain ⟨vs, hT, hrep, hz⟩ := hf cs x (hQ x (by simp)) hfx
        obtain ⟨rows, e1, e2, e3, e4, e5⟩ := rows_of (Q := Q) hn len (k + 1) xs f (fun y hy => hQ y (by simp [hy])) hf h2
        obtain ⟨_, hl, hc⟩ := World.cells?_some hcs
        have hcell : ∀ i y, cs[i]? = some y → w.cell? ((a.add (k * n)).add i) = some y := by
          intro i y hy
          have hi : i < n := by rw [← hl]; exact (List.getElem?_eq_some_iff.1 hy).1
          rw [hc i hi, hy]
        have h0 : ∃ y, cs[0]? = some y := ⟨cs[0]'(by omega), by simp⟩
        obtain ⟨y, hy⟩ := h0
        have hold := cell_old (hcell 0 y hy)
        have hblk : a.block < w.heap.size := by
          have := hold.2
          simp only [Addr.add] at this
          split at this <;> (try split at this) <;> simpa using this
        refine ⟨vs :: rows, by simp [e1], ?_, .inr ⟨hblk, fun hk => ?_⟩, ?_, by simp only [szRs, List.map_cons, bulkAll]; omega⟩
        · intro r hr
          rcases List.mem_cons.1 hr with rfl | hr
          · exact hT
          · exact e2 r hr
        · subst hk
          have := hold.1
          simpa [Addr.add] using this
        · simp only [repRows]
          refine ⟨by rw [repIL_length hrep, hl], repCells_at hrep fun i y hy => ?_, ?_⟩
          · have := hcell i y hy
            have hsp := (cell_old this).1
            rw [← this]
            congr 1
            simp only [Addr.add] at hsp ⊢
            by_cases hkn : k * n = 0
            · simp only [hkn, if_true, Nat.add_zero] at hsp ⊢
              by_cases hi : i = 0
              · simp only [hi, if_true, Nat.add_zero] at hsp ⊢
                cases a; simp_all
              · simp only [hi, if_false]
            · simp only [hkn, if_false]
              by_cases hi : i = 0
              · simp only [hi, if_true, Nat.add_zero]
              · simp only [hi, if_false]
          · rw [show a.off + k * n + n = a.off + (k + 1) * n by rw [Nat.succ_mul]; omega]
            exact e4

theorem fields_of {T : TypeId → List V → Prop} {Q : DataW H × List MemPlace → Prop} {cs : List Value} {N : Nat} (hN : cs.length = N) : ∀ (fs : List Field) (o : Nat) (xs : List (DataW H × List MemPlace)) (f : TypeId → List Value → Option (DataW H × List MemPlace)),
    (∀ x ∈ xs, Q x) → (∀ g ∈ fs, ∀ cs x, Q x → f g.type cs = some x → cs.length = P.cellsOf g.type → ∃ vs, T g.type vs ∧ repIL w (Old w) vs cs ∧ szL vs ≤ bulk x.1) →
    tiles P o fs N = true → (fs.mapM fun g => f g.type ((cs.drop g.offset).take (P.cellsOf g.type))) = some xs →
    o ≤ N ∧ ∃ vs, catFields T fs vs ∧ repIL w (Old w) vs (cs.drop o) ∧ szL vs ≤ bulkAll (xs.map (·.1))
  | [], o, xs, f, _, _, ht, _ => by
    simp only [tiles, beq_iff_eq] at ht
    refine ⟨by omega, [], rfl, ?_, Nat.zero_le _⟩
    rw [List.drop_eq_nil_of_le (by omega)]
    simp only [repIL]
  | g :: fs, o, xs, f, hQ, hf, ht, h => by
    simp only [tiles, Bool.and_eq_true, beq_iff_eq] at ht
    rw [List.mapM_cons] at h
    cases h1 : f g.type ((cs.drop g.offset).take (P.cellsOf g.type)) with
    | none => simp [h1] at h
    | some x =>
      cases h2 : fs.mapM fun g => f g.type ((cs.drop g.offset).take (P.cellsOf g.type)) with
      | none => simp [h1, h2] at h
      | some xs2 =>
        obtain rfl : x :: xs2 = xs := by simpa [h1, h2] using h
        obtain ⟨hle, vs2, k1, k2, k3⟩ := fields_of (Q := Q) hN fs (o + P.cellsOf g.type) xs2 f (fun y hy => hQ y (by simp [hy])) (fun g' hg' => hf g' (by simp [hg'])) ht.2 h2
        rw [ht.1] at h1
        obtain ⟨vs1, j1, j2, j3⟩ := hf g (by simp) _ x (hQ x (by simp)) h1 (by simp; omega)
        refine ⟨by omega, vs1 ++ vs2, ⟨vs1, vs2, rfl, j1, k1⟩, ?_, by rw [szL_append]; simp only [List.map_cons, bulkAll]; omega⟩
        rw [show cs.drop o = (cs.drop o).take (P.cellsOf g.type) ++ cs.drop (o + P.cellsOf g.type) by rw [← List.drop_drop, List.take_append_drop]]
        exact repIL_append j2 k2

theorem elems_of {T : List V → Prop} {Q : DataW H × List MemPlace → Prop} {cs : List Value} {n m : Nat} : ∀ (len k : Nat) (xs : List (DataW H × List MemPlace)) (f : List Value → Option (DataW H × List MemPlace)),
    (∀ x ∈ xs, Q x) → (∀ cs x, Q x → f cs = some x → cs.length = m → ∃ vs, T vs ∧ repIL w (Old w) vs cs ∧ szL vs ≤ bulk x.1) →
    cs.length = (k + len) * m → ((List.range' k len).mapM fun i => f ((cs.drop (i * m)).take m)) = some xs →
    ∃ vs, catN T len vs ∧ repIL w (Old w) vs (cs.drop (k * m)) ∧ szL vs ≤ bulkAll (xs.map (·.1))
  | 0, k, xs, f, _, _, hl, _ => by
    refine ⟨[], rfl, ?_, Nat.zero_le _⟩
    rw [List.drop_eq_nil_of_le (by simp at hl; omega)]
    simp only [repIL]
  | len + 1, k, xs, f, hQ, hf, hl, h => by
    rw [List.range'_succ, List.mapM_cons] at h
    cases h1 : f ((cs.drop (k * m)).take m) with
    | none => simp [h1] at h
    | some x =>
      cases h2 : (List.range' (k + 1) len).mapM fun i => f ((cs.drop (i * m)).take m) with
      | none => simp [h1, h2] at h
      | some xs2 =>
        obtain rfl : x :: xs2 = xs := by simpa [h1, h2] using h
        obtain ⟨vs2, k1, k2, k3⟩ := elems_of (n := n) (Q := Q) len (k + 1) xs2 f (fun y hy => hQ y (by simp [hy])) hf (by rw [hl]; congr 1; omega) h2
        have hlen : ((cs.drop (k * m)).take m).length = m := by
          have : (k + (len + 1)) * m = k * m + (len * m + m) := by rw [Nat.add_mul, Nat.succ_mul]
          simp [hl]; omega
        obtain ⟨vs1, j1, j2, j3⟩ := hf _ x (hQ x (by simp)) h1 hlen
        refine ⟨vs1 ++ vs2, ⟨vs1, vs2, rfl, j1, k1⟩, ?_, by rw [szL_append]; simp only [List.map_cons, bulkAll]; omega⟩
        rw [show cs.drop (k * m) = (cs.drop (k * m)).take m ++ cs.drop ((k + 1) * m) by rw [Nat.succ_mul, ← List.drop_drop, List.take_append_drop]]
        exact repIL_append j2 k2

theorem trod_terms (B : Nat) : ∀ (d fuel : Nat) (t : TypeId) (cs : List Value) (x : DataW H × List MemPlace), SzOk B x.1 → readable P d t = true → cs.length = P.cellsOf t → DataW.trod enc P w 0 (fun _ => true) true fuel t cs = some x → ∃ vs, Typed P B d t vs ∧ repIL w (Old w) vs cs ∧ szL vs ≤ bulk x.1
  | 0, _, _, _, _, _, h, _, _ => by simp [readable] at h
  | d + 1, 0, _, _, _, _, _, _, h => by simp [DataW.trod] at h
  | d + 1, fuel + 1, t, cs, x, hB, hr, hl, h => by
    cases hu : P.underlying t with
    | none => simp [readable, hu] at hr
    | some ty =>
      cases ty with
      | bool =>
        simp only [DataW.trod, hu] at h
        split at h <;> try (simp_all; done)
        rename_i b _
        simp only [Typed, hu]
        exact ⟨_, ⟨b, rfl⟩, by simp [repIL, V.repI, Value.oneCell'], bulk_one _⟩
      | int k =>
        simp only [DataW.trod, hu] at h
        split at h <;> try (simp_all; done)
        rename_i k' n he
        split at h
        · rename_i hk
          simp only [Typed, hu]
          obtain ⟨rfl, hwf⟩ := hk
          simp only [Option.some.injEq, TypeDesc.int.injEq] at he
          subst he
          exact ⟨_, ⟨n, rfl, hwf⟩, by simp [repIL, V.repI, Value.oneCell'], bulk_one _⟩
        · simp at h
      | string =>
        simp only [DataW.trod, hu] at h
        split at h <;> try (simp_all; done)
        rename_i s _
        split at h
        · rename_i hk
          simp only [Typed, hu]
          simp only [Option.some.injEq] at h
          subst h
          refine ⟨_, ⟨s, rfl, ?_⟩, by simp [repIL, V.repI, Value.oneCell'], by simp only [szL, V.sz, bulk, Array.length_toList]; exact Nat.le_refl _⟩
          rcases hB with hB | hB
          · omega
          · simp only [bulk, Array.length_toList] at hB
            have : s.size = s.data.size := rfl
            omega
        · simp at h
      | slice e =>
        simp only [readable, hu, Bool.and_eq_true] at hr
        have hn := Nat.le_of_ble_eq_true hr.1
        simp only [DataW.trod, hu] at h
        split at h <;> try (simp_all; done)
        · simp only [Typed, hu]
          exact ⟨[.sl (P.cellsOf e) []], ⟨[], rfl, Nat.zero_le _, fun r hr => by simp at hr⟩, by simp [repIL, V.repI, Value.oneCell'], bulk_one _⟩
        · rename_i e' a len cap he
          simp only [Option.some.injEq, TypeDesc.slice.injEq] at he
          subst he
          split at h
          · rename_i hc
            obtain ⟨elems, h1, h9⟩ := Option.bind_eq_some_iff.1 h
            obtain ⟨rest, _, h10⟩ := Option.map_eq_some_iff.1 h9
            have hq1 : bulkAll (elems.map (·.1)) + 1 ≤ bulk x.1 := by rw [← h10]; simp only [bulk]; omega
            have hq : bulkAll (elems.map (·.1)) ≤ bulk x.1 := by omega
            have hlen9 : len ≤ B := by
              rcases hB with hB | hB
              · omega
              · have q1 := bulkAll_len (elems.map (·.1))
                have q2 := mapM_len h1
                simp at q1 q2
                omega
            rw [List.range_eq_range'] at h1
            obtain ⟨rows, e1, e2, e3, e4, e6⟩ := rows_of (w := w) (T := Typed P B d e) (Q := fun y => SzOk B y.1) hn len 0 elems (fun cs => if cs.length = P.cellsOf e then DataW.trod enc P w 0 (fun _ => true) true fuel e cs else none) (hB.all hq) (fun cs x hQ hx => by
              split at hx
              · rename_i hl2; exact trod_terms B d fuel e cs x hQ hr.2 hl2 hx
              · simp at hx) (by
              rw [← h1]
              congr 1
              funext i
              cases hcs : w.cells? 0 (a.add (i * P.cellsOf e)) (P.cellsOf e) with
              | none => rfl
              | some cs => simp only [Option.bind_some, (World.cells?_some hcs).2.1, if_true])
            simp only [Typed, hu]
            refine ⟨[.sl (P.cellsOf e) rows], ⟨rows, rfl, by omega, e2⟩, ?_, by simp only [szL, V.sz]; omega⟩
            simp only [repIL, V.repI, Value.oneCell', and_true]
            refine ⟨some a, cap, by rw [e1], by omega, ?_⟩
            rcases e3 with e3 | ⟨e3, e5⟩
            · left
              exact List.length_eq_zero_iff.1 (by omega)
            · right
              refine ⟨a.block, a.off, ?_, e3, by simpa using e4⟩
              have := e5 rfl
              cases a; simp_all
          · simp at h
      | struct fs =>
        simp only [readable, hu, Bool.and_eq_true] at hr
        simp only [DataW.trod, hu] at h
        split at h <;> try (simp_all; done)
        obtain ⟨xs, h1, h9⟩ := Option.map_eq_some_iff.1 h
        have hq : bulkAll (xs.map (·.1)) ≤ bulk x.1 := by rw [← h9]; simp only [bulk]; omega
        obtain ⟨_, vs, k1, k2, k3⟩ := fields_of (w := w) (T := Typed P B d) (Q := fun y => SzOk B y.1) hl fs.toList 0 xs (fun t cs => DataW.trod enc P w 0 (fun _ => true) true fuel t cs) (hB.all hq) (fun g hg cs x hQ hx hl2 => trod_terms B d fuel g.type cs x hQ (List.all_eq_true.1 hr.2 g hg) hl2 hx) hr.1 h1
        simp only [Typed, hu]
        exact ⟨vs, k1, by simpa using k2, Nat.le_trans k3 hq⟩
      | array n e =>
        simp only [readable, hu, Bool.and_eq_true, beq_iff_eq] at hr
        simp only [DataW.trod, hu] at h
        split at h <;> try (simp_all; done)
        obtain ⟨xs, h1, h9⟩ := Option.map_eq_some_iff.1 h
        have hq : bulkAll (xs.map (·.1)) ≤ bulk x.1 := by rw [← h9]; simp only [bulk]; omega
        rw [List.range_eq_range'] at h1
        obtain ⟨vs, k1, k2, k3⟩ := elems_of (w := w) (n := n) (T := Typed P B d e) (Q := fun y => SzOk B y.1) (m := P.cellsOf e) n 0 xs (fun cs => DataW.trod enc P w 0 (fun _ => true) true fuel e cs) (hB.all hq) (fun cs x hQ hx hl2 => trod_terms B d fuel e cs x hQ hr.2 hl2 hx) (by rw [hl, ← hr.1]; simp) h1
        simp only [Typed, hu]
        exact ⟨vs, k1, by simpa using k2, Nat.le_trans k3 hq⟩
      | _ => simp [readable, hu] at hr

end

end Go.Proofs.YtinfjnnffmlpmaaGreatDoor.E

/- The engine, part X: a row, from a contract. -/
namespace Go.Proofs.YtinfjnnffmlpmaaGreatDoor.E
open Go
set_option linter.unusedSimpArgs false

def I (n : Int) : V := .val (.int .i64 n)
def Bo (b : Bool) : V := .val (.bool b)
def Sg (s : ByteArray) : V := .val (.string s)

theorem vcP {P : Program} (hmix : P.follows .mixedOrders = true) {f : FuncId} {args : List V} {objs : List E.Obj} (sc : List It) (exports : List Nat) {r : V} {objs' : List (Option E.Obj)} (ps : List Prop)
    (h : runF P f args objs sc exports = some (r, objs', ps)) (hp : allP ps) : Contract P f args objs r objs' := vc hmix h (allP_spec hp)

theorem runP {P : Program} (hmix : P.follows .mixedOrders = true) {k n : Nat} {c : Code} (sc : List It) {s s' : SL} (nm : Norm) {e : Ex} (ps : List Prop) (h : runTo P k n c sc s nm = some (e, s', ps)) (hp : allP ps) : CodeC P k n c s e s' :=
  runTo_says hmix h (allP_spec hp)

/-- A proposition with its proof. -/
structure Pf where
  {p : Prop}
  h : p

theorem pfs : ∀ (l : List Pf), ∀ p ∈ l.map Pf.p, p
  | [], _, h => nomatch h
  | x :: l, p, h => by
    rcases List.mem_cons.1 h with rfl | h
    · exact x.h
    · exact pfs l p h

theorem vcS {P : Program} (hmix : P.follows .mixedOrders = true) {f : FuncId} {args : List V} {objs : List E.Obj} (sc : List It) (exports : List Nat) {r : V} {objs' : List (Option E.Obj)} (l : List Pf)
    (h : runF P f args objs sc exports = some (r, objs', l.map Pf.p) := by kernel_rfl) : Contract P f args objs r objs' := vc hmix h (pfs l)

theorem runS {P : Program} (hmix : P.follows .mixedOrders = true) {k n : Nat} {c : Code} (sc : List It) {s s' : SL} (nm : Norm) {e : Ex} (l : List Pf) (h : runTo P k n c sc s nm = some (e, s', l.map Pf.p) := by kernel_rfl) : CodeC P k n c s e s' :=
  runTo_says hmix h (pfs l)

theorem nn (i : Nat) : (0 : Int) ≤ Int.ofNat i := Int.natCast_nonneg i
theorem dlt {i n : Nat} (h : i < n) : decide (Int.ofNat i < Int.ofNat n) = true := decide_eq_true (Int.ofNat_lt.2 h)
theorem dge {i n : Nat} (h : n ≤ i) : decide (Int.ofNat i < Int.ofNat n) = false := decide_eq_false fun q => Nat.not_lt.2 h (Int.ofNat_lt.1 q)
theorem dltm {α β : Type} (f : α → β) {i : Nat} {l : List α} (h : i < l.length) : decide (Int.ofNat i < Int.ofNat (l.map f).length) = true := dlt (by rwa [List.length_map])
theorem dgem {α β : Type} (f : α → β) {i : Nat} {l : List α} (h : l.length ≤ i) : decide (Int.ofNat i < Int.ofNat (l.map f).length) = false := dge (by rwa [List.length_map])
theorem ltm {α β : Type} (f : α → β) {i : Nat} {l : List α} (h : i < l.length) : Int.ofNat i < Int.ofNat (l.map f).length := Int.ofNat_lt.2 (by rwa [List.length_map])
theorem gtm {α β : Type} (f : α → β) {i : Nat} {l : List α} {x : α} (h : l[i]? = some x) : (l.map f)[i]? = some (f x) := by rw [List.getElem?_map, h]; rfl
theorem w64 (n : Nat) (h : n < 4611686018427387904) : IntKind.i64.wrap (Int.ofNat n) = Int.ofNat n := by
  simp only [IntKind.wrap, IntKind.signed, IntKind.bits, Int.ofNat_eq_natCast]
  simp
  omega
theorem lenm {α β : Type} (f : α → β) (l : List α) : Int.ofNat (l.map f).length = Int.ofNat l.length := by rw [List.length_map]

def TypedArg (P : Program) (B : Nat) (t : TypeId) (v : V) : Prop := match P.underlying t with
  | some (.struct _) => ∃ cs, v = .agg cs ∧ Typed P B 14 t cs
  | some (.array _ _) => ∃ cs, v = .agg cs ∧ Typed P B 14 t cs
  | _ => Typed P B 14 t [v]

def oneB (P : Program) (t : TypeId) : Bool := match P.underlying t with
  | some (.struct _) => true
  | some (.array _ _) => true
  | _ => P.cellsOf t == 1

def TypedArgs (P : Program) (B : Nat) : List TypeId → List V → Prop
  | [], vs => vs = []
  | t :: ts, vs => ∃ v us, vs = v :: us ∧ TypedArg P B t v ∧ TypedArgs P B ts us

theorem arg_bnd {P : Program} {B : Nat} {t : TypeId} {v : V} (h : TypedArg P B t v) : v.bnd B := by
  unfold TypedArg at h
  split at h
  · obtain ⟨cs, rfl, h⟩ := h; simp only [V.bnd]; exact typed_bnd _ _ _ h
  · obtain ⟨cs, rfl, h⟩ := h; simp only [V.bnd]; exact typed_bnd _ _ _ h
  · have := typed_bnd _ _ _ h; simp only [bndL, and_true] at this; exact this
theorem args_bnd {P : Program} {B : Nat} : ∀ {ts : List TypeId} {vs : List V}, TypedArgs P B ts vs → bndL B vs
  | [], vs, h => by simp only [TypedArgs] at h; subst h; simp only [bndL]
  | t :: ts, vs, h => by
    simp only [TypedArgs] at h
    obtain ⟨v, us, rfl, h1, h2⟩ := h
    simp only [bndL]
    exact ⟨arg_bnd h1, args_bnd h2⟩

theorem typed_int {P : Program} {B : Nat} {t : TypeId} {k : IntKind} {d : Nat} {vs : List V} (hu : P.underlying t = some (.int k)) (h : Typed P B (d + 1) t vs) : ∃ n, vs = [.val (.int k n)] ∧ (Lit.int k n).wf = true := by
  simpa only [Typed, hu] using h
theorem typed_bool {P : Program} {B : Nat} {t : TypeId} {d : Nat} {vs : List V} (hu : P.underlying t = some .bool) (h : Typed P B (d + 1) t vs) : ∃ b, vs = [.val (.bool b)] := by
  simpa only [Typed, hu] using h
theorem typed_string {P : Program} {B : Nat} {t : TypeId} {d : Nat} {vs : List V} (hu : P.underlying t = some .string) (h : Typed P B (d + 1) t vs) : ∃ s, vs = [.val (.string s)] ∧ s.size ≤ B := by
  simpa only [Typed, hu] using h
theorem typed_slice {P : Program} {B : Nat} {t e : TypeId} {d : Nat} {vs : List V} (hu : P.underlying t = some (.slice e)) (h : Typed P B (d + 1) t vs) : ∃ rows, vs = [.sl (P.cellsOf e) rows] ∧ rows.length ≤ B ∧ ∀ r ∈ rows, Typed P B d e r := by
  simpa only [Typed, hu] using h
theorem typed_struct {P : Program} {B : Nat} {t : TypeId} {fs : Array Field} {d : Nat} {vs : List V} (hu : P.underlying t = some (.struct fs)) (h : Typed P B (d + 1) t vs) : catFields (Typed P B d) fs.toList vs := by
  simpa only [Typed, hu] using h
theorem typed_array {P : Program} {B : Nat} {t e : TypeId} {n d : Nat} {vs : List V} (hu : P.underlying t = some (.array n e)) (h : Typed P B (d + 1) t vs) : catN (Typed P B d e) n vs := by
  simpa only [Typed, hu] using h
theorem arg_struct {P : Program} {B : Nat} {t : TypeId} {fs : Array Field} {v : V} (hu : P.underlying t = some (.struct fs)) (h : TypedArg P B t v) : ∃ cs, v = .agg cs ∧ Typed P B 14 t cs := by
  simpa only [TypedArg, hu] using h
theorem arg_array {P : Program} {B : Nat} {t e : TypeId} {n : Nat} {v : V} (hu : P.underlying t = some (.array n e)) (h : TypedArg P B t v) : ∃ cs, v = .agg cs ∧ Typed P B 14 t cs := by
  simpa only [TypedArg, hu] using h
theorem arg_int {P : Program} {B : Nat} {t : TypeId} {k : IntKind} {v : V} (hu : P.underlying t = some (.int k)) (h : TypedArg P B t v) : ∃ n, v = .val (.int k n) ∧ (Lit.int k n).wf = true := by
  have h : Typed P B 14 t [v] := by simpa only [TypedArg, hu] using h
  obtain ⟨n, e, w⟩ := typed_int hu h
  cases e
  exact ⟨n, rfl, w⟩
theorem arg_bool {P : Program} {B : Nat} {t : TypeId} {v : V} (hu : P.underlying t = some .bool) (h : TypedArg P B t v) : ∃ b, v = .val (.bool b) := by
  have h : Typed P B 14 t [v] := by simpa only [TypedArg, hu] using h
  obtain ⟨n, e⟩ := typed_bool hu h
  cases e
  exact ⟨n, rfl⟩
theorem arg_string {P : Program} {B : Nat} {t : TypeId} {v : V} (hu : P.underlying t = some .string) (h : TypedArg P B t v) : ∃ s, v = .val (.string s) ∧ s.size ≤ B := by
  have h : Typed P B 14 t [v] := by simpa only [TypedArg, hu] using h
  obtain ⟨n, e, w⟩ := typed_string hu h
  cases e
  exact ⟨n, rfl, w⟩
theorem arg_slice {P : Program} {B : Nat} {t e : TypeId} {v : V} (hu : P.underlying t = some (.slice e)) (h : TypedArg P B t v) : ∃ rows, v = .sl (P.cellsOf e) rows ∧ rows.length ≤ B ∧ ∀ r ∈ rows, Typed P B 13 e r := by
  have h : Typed P B 14 t [v] := by simpa only [TypedArg, hu] using h
  obtain ⟨n, e, w⟩ := typed_slice hu h
  cases e
  exact ⟨n, rfl, w⟩

section
variable {H : Type} {enc : TypeId × Value → H} {P : Program} {w : World}

theorem arg_terms {B : Nat} {t : TypeId} {v : Value} {d : DataW H} {ps : List MemPlace} {base : Nat} {τ : Nat → Gh} (hB : SzOk B d) (hr : readable P 14 t = true) (ho : oneB P t = true) (hw : Value.okWide P w .any base t v)
    (h : DataW.Trod enc P w 0 (fun _ => true) true t v d ps) : ∃ u, TypedArg P B t u ∧ u.rep w (Old w) τ v ∧ u.sz ≤ bulk d := by
  obtain ⟨fuel, h⟩ := h
  unfold TypedArg
  have one : v.cells.toList = [v] → v.cells.toList.length = P.cellsOf t → ∃ u, Typed P B 14 t [u] ∧ u.rep w (Old w) τ v ∧ u.sz ≤ bulk d := by
    intro h1 h2
    obtain ⟨vs, k1, k2, k3⟩ := trod_terms B 14 fuel t v.cells.toList (d, ps) hB hr h2 h
    rw [h1] at k2
    match vs, k2, k3 with
    | [u], k2, k3 =>
      simp only [repIL] at k2
      simp only [szL, Nat.add_zero] at k3
      exact ⟨u, k1, rep_of_repI k2.1.1, k3⟩
    | [], k2, _ => simp [repIL] at k2
    | _ :: _ :: _, k2, _ => simp [repIL] at k2
  have whole : (∃ cs, v = .agg cs ∧ cs.size = P.cellsOf t ∧ Row.okWide P w .any base t cs) → ∃ u, (∃ cs, u = V.agg cs ∧ Typed P B 14 t cs) ∧ u.rep w (Old w) τ v ∧ u.sz ≤ bulk d := by
    rintro ⟨cs, rfl, h2, _⟩
    obtain ⟨vs, k1, k2, k3⟩ := trod_terms B 14 fuel t cs.toList (d, ps) hB hr (by simpa using h2) (by simpa [Value.cells] using h)
    exact ⟨.agg vs, ⟨vs, rfl, k1⟩, by simp only [V.rep]; exact ⟨cs, rfl, repL_of_repIL k2⟩, by simp only [V.sz]; exact k3⟩
  cases hu : P.underlying t with
  | none => simp [readable, hu] at hr
  | some ty =>
    unfold oneB at ho
    unfold Value.okWide at hw
    rw [hu] at ho hw
    cases ty with
    | struct fs => exact whole hw
    | array n e => exact whole hw
    | bool =>
      simp only [Cell.okWide, hu, Cell.ok] at hw
      simp only [beq_iff_eq] at ho
      split at hw <;> first | exact hw.elim | exact one rfl (by rw [ho]; rfl) | simp_all
    | int k =>
      simp only [Cell.okWide, hu, Cell.ok] at hw
      simp only [beq_iff_eq] at ho
      split at hw <;> first | exact hw.elim | exact one rfl (by rw [ho]; rfl) | simp_all
    | string =>
      simp only [Cell.okWide, hu, Cell.ok] at hw
      simp only [beq_iff_eq] at ho
      split at hw <;> first | exact hw.elim | exact one rfl (by rw [ho]; rfl) | simp_all
    | slice e =>
      simp only [Cell.okWide, hu, Cell.ok] at hw
      simp only [beq_iff_eq] at ho
      split at hw <;> first | exact hw.elim | exact one rfl (by rw [ho]; rfl) | simp_all
    | _ => simp [readable, hu] at hr

theorem args_terms {B : Nat} {τ : Nat → Gh} {base : Nat} : ∀ {ts : List TypeId} {vs : List Value} {ds : List (DataW H)} {ps : List MemPlace}, DataW.TrodAll enc P w 0 (fun _ => true) true ts vs ds ps →
    (∀ (j : Nat) (t : TypeId) (v : Value), ts[j]? = some t → vs[j]? = some v → Value.okWide P w .any base t v) → (ts.all fun t => readable P 14 t && oneB P t) = true → (∀ d ∈ ds, SzOk B d) →
    ds.length = ts.length ∧ ∃ us, TypedArgs P B ts us ∧ repL w (Old w) τ us vs ∧ szL us ≤ bulkAll ds
  | [], vs, ds, ps, h, _, _, _ => by
    obtain ⟨rfl, rfl, rfl⟩ := ChangeShapes.trodAll_nil h
    exact ⟨rfl, [], rfl, by simp only [repL], Nat.zero_le _⟩
  | t :: ts, vs, ds, ps, h, hw, hr, hB => by
    obtain ⟨v, vs1, d, ds1, a, b, rfl, rfl, rfl, h1, h2⟩ := ChangeShapes.trodAll_cons h
    simp only [List.all_cons, Bool.and_eq_true] at hr
    obtain ⟨k1, us, k2, k3, k4⟩ := args_terms h2 (fun j t' v' ht hv => hw (j + 1) t' v' (by simpa using ht) (by simpa using hv)) hr.2 (fun d hd => hB d (by simp [hd]))
    obtain ⟨u, j1, j2, j3⟩ := arg_terms (B := B) (τ := τ) (hB d (by simp)) hr.1.1 hr.1.2 (hw 0 t v rfl rfl) h1
    exact ⟨by simp [k1], u :: us, ⟨u, us, rfl, j1, k2⟩, by simp only [repL]; exact ⟨j2, k3⟩, by simp only [szL, bulkAll]; omega⟩

theorem trodAll_below {w w' : World} (hl : laidOutB P = true) (hb : RowKit.Below w.heap.size w w') : ∀ {ts : List TypeId} {vs : List Value} {ds : List (DataW H)} {ps : List MemPlace}, DataW.TrodAll enc P w 0 (fun _ => true) true ts vs ds ps →
    (ts.all fun t => P.readableRec t && decide (t < P.types.size)) = true → (∀ x ∈ ps, x.block < w.heap.size) → DataW.TrodAll enc P w' 0 (fun b => decide (b < w.heap.size)) true ts vs ds ps
  | [], vs, ds, ps, h, _, _ => by
    obtain ⟨rfl, rfl, rfl⟩ := ChangeShapes.trodAll_nil h
    simp [DataW.TrodAll]
  | t :: ts, vs, ds, ps, h, hr, hp => by
    obtain ⟨v, vs1, d, ds1, a, b, rfl, rfl, rfl, h1, h2⟩ := ChangeShapes.trodAll_cons h
    simp only [List.all_cons, Bool.and_eq_true, decide_eq_true_eq] at hr
    exact ⟨a, b, RowKit.Below.trod hl hr.1.1 hr.1.2 h1 hb (fun x hx => hp x (by simp [hx])), trodAll_below hl hb h2 hr.2 (fun x hx => hp x (by simp [hx])), rfl⟩

theorem Mem.none (w : World) : Mem w.heap.size (fun _ => False) (Old w) (fun _ => ⟨none, none, 0, 0⟩) (objsAt []) w :=
  ⟨fun _ h => h, fun _ _ h => by simp [objsAt] at h, fun _ _ _ h => by simp [objsAt] at h, fun _ _ _ _ _ h => by simp [objsAt] at h,
    fun _ => [], ⟨fun _ _ h => by simp [objsAt] at h, fun _ _ _ h => by simp [objsAt] at h, fun _ _ _ h => by simp [objsAt] at h, fun _ _ _ _ _ h => by simp [objsAt] at h⟩⟩

/-- A law's row, from its contract. -/
theorem row_of0 (B : Nat) (Z : Option Nat) {f : FuncId} {fn : Func} {s : ChangeSpec} {apart handsOn fresh : Bool} {tb : TypeId}
    (hl : laidOutB P = true) (hvars : s.vars = []) (hpar : (fn.params.toList.all fun t => readable P 14 t && oneB P t) = true) (hpar2 : (fn.params.toList.all fun t => P.readableRec t && decide (t < P.types.size)) = true)
    (hres : fn.resultTypes = #[tb]) (htb : P.underlying tb = some .bool)
    (hs : ∀ ds : List (DataW H), ds.length = fn.params.toList.length → s.fn H ds = { results := [.lit (.bool true)], args := ds })
    (hc : ∀ us, TypedArgs P B fn.params.toList us → (∀ z, Z = some z → szL us ≤ z) → Contract P f us [] (.val (.bool true)) []) :
    ∀ (W : World) (base : Nat) (args : Array Value) (ds gs : List (DataW H)) (before : List MemPlace),
      (∀ (j : Nat) t v, fn.params[j]? = some t → args[j]? = some v → Value.okWide P W .any base t v) →
      DataW.Whole enc P fn.params.toList s.vars apart W args.toList ds gs before → (∀ d ∈ ds, SzOk B d) → (∀ z, Z = some z → bulkAll ds ≤ z) →
      Calls P f args W fun e W' => ∃ v, e = .returned v ∧ s.post enc P fn apart fresh handsOn false W args v W' := by
  intro W base args ds gs before hval hW hB hZ
  have hW' := hW
  obtain ⟨p, q, hA, hV, rfl, hfz, hnd⟩ := hW
  obtain ⟨hlen, us, hT, hrep, hz⟩ := args_terms (B := B) (τ := fun _ => ⟨none, none, 0, 0⟩) hA (fun j t v ht hv => hval j t v (by simpa using ht) (by simpa using hv)) hpar hB
  rw [hvars] at hV
  obtain ⟨rfl, rfl⟩ : gs = [] ∧ q = [] := by
    cases gs with
    | nil => exact ⟨rfl, hV⟩
    | cons g gs => exact hV.elim
  have hcall := (hc us hT fun z h => Nat.le_trans hz (hZ z h)).calls W (Old W) (fun _ => False) (fun _ => ⟨none, none, 0, 0⟩) args (Mem.none W) (fun _ h => h.elim) hrep
  refine Calls.mono hcall ?_
  rintro e W' ⟨v, G', τ', rfl, hext, _, hv, _⟩
  simp only [V.rep, V.repI] at hv
  subst hv
  have hb : RowKit.Below W.heap.size W W' := ⟨hext.os, hext.tape, hext.output, hext.size, fun k hk => hext.block k hk (fun h => h)⟩
  have hlt : ∀ x ∈ p, x.block < W.heap.size := fun x hx => hW'.lt x (by simpa using hx)
  have e1 : s.fn H (ds ++ []) = { results := [.lit (.bool true)], args := ds } := by rw [List.append_nil]; exact hs ds hlen
  refine ⟨_, rfl, ds, [], p ++ [], [], p, [], hW', ?_, ?_, ?_, ?_, fun h => by cases h⟩
  · rw [e1, hres]
    exact ⟨[], [], RowKit.shut_bool htb true, rfl, rfl⟩
  · rw [e1]
    exact trodAll_below hl hb hA hpar2 hlt
  · rw [hvars, e1]
    exact rfl
  · exact hb.frame _


/-- A law's row, from its contract. -/
theorem row_of {f : FuncId} {fn : Func} {s : ChangeSpec} {apart handsOn fresh : Bool} {tb : TypeId}
    (hl : laidOutB P = true) (hvars : s.vars = []) (hpar : (fn.params.toList.all fun t => readable P 14 t && oneB P t) = true) (hpar2 : (fn.params.toList.all fun t => P.readableRec t && decide (t < P.types.size)) = true)
    (hres : fn.resultTypes = #[tb]) (htb : P.underlying tb = some .bool)
    (hs : ∀ ds : List (DataW H), ds.length = fn.params.toList.length → s.fn H ds = { results := [.lit (.bool true)], args := ds })
    (hc : ∀ us, TypedArgs P maxLen fn.params.toList us → Contract P f us [] (.val (.bool true)) []) :
    ∀ (W : World) (base : Nat) (args : Array Value) (ds gs : List (DataW H)) (before : List MemPlace),
      (∀ (j : Nat) t v, fn.params[j]? = some t → args[j]? = some v → Value.okWide P W .any base t v) →
      DataW.Whole enc P fn.params.toList s.vars apart W args.toList ds gs before →
      Calls P f args W fun e W' => ∃ v, e = .returned v ∧ s.post enc P fn apart fresh handsOn false W args v W' :=
  fun W base args ds gs before hval hW => row_of0 maxLen none hl hvars hpar hpar2 hres htb hs (fun us h _ => hc us h) W base args ds gs before hval hW (fun _ _ => .inl (Nat.le_refl _)) (fun z h => by cases h)

theorem bulkAll_left {H : Type} : ∀ (ds gs : List (DataW H)), bulkAll ds ≤ bulkAll (ds ++ gs)
  | [], _ => Nat.zero_le _
  | d :: ds, gs => by simp only [List.cons_append, bulkAll]; have := bulkAll_left ds gs; omega
/-- A law's row, from its contract, where what comes in is small. -/
theorem row_upto {B : Nat} {f : FuncId} {fn : Func} {s : ChangeSpec} {apart handsOn fresh : Bool} {tb : TypeId}
    (hl : laidOutB P = true) (hvars : s.vars = []) (hpar : (fn.params.toList.all fun t => readable P 14 t && oneB P t) = true) (hpar2 : (fn.params.toList.all fun t => P.readableRec t && decide (t < P.types.size)) = true)
    (hres : fn.resultTypes = #[tb]) (htb : P.underlying tb = some .bool)
    (hs : ∀ ds : List (DataW H), ds.length = fn.params.toList.length → s.fn H ds = { results := [.lit (.bool true)], args := ds })
    (hc : ∀ us, TypedArgs P B fn.params.toList us → Contract P f us [] (.val (.bool true)) []) :
    ∀ (W : World) (base : Nat) (args : Array Value) (ds gs : List (DataW H)) (before : List MemPlace),
      (∀ (j : Nat) t v, fn.params[j]? = some t → args[j]? = some v → Value.okWide P W .any base t v) →
      DataW.Whole enc P fn.params.toList s.vars apart W args.toList ds gs before → bulkAll (ds ++ gs) ≤ B →
      Calls P f args W fun e W' => ∃ v, e = .returned v ∧ s.post enc P fn apart fresh handsOn false W args v W' :=
  fun W base args ds gs before hval hW hB => row_of0 B none hl hvars hpar hpar2 hres htb hs (fun us h _ => hc us h) W base args ds gs before hval hW (fun d hd => .inr (Nat.le_trans (bulkAll_mem (by simp [hd])) hB)) (fun z h => by cases h)

/-- As row_upto; the arguments' sizes, added up, are small, too. -/
theorem row_upto2 {B : Nat} {f : FuncId} {fn : Func} {s : ChangeSpec} {apart handsOn fresh : Bool} {tb : TypeId}
    (hl : laidOutB P = true) (hvars : s.vars = []) (hpar : (fn.params.toList.all fun t => readable P 14 t && oneB P t) = true) (hpar2 : (fn.params.toList.all fun t => P.readableRec t && decide (t < P.types.size)) = true)
    (hres : fn.resultTypes = #[tb]) (htb : P.underlying tb = some .bool)
    (hs : ∀ ds : List (DataW H), ds.length = fn.params.toList.length → s.fn H ds = { results := [.lit (.bool true)], args := ds })
    (hc : ∀ us, TypedArgs P B fn.params.toList us → szL us ≤ B → Contract P f us [] (.val (.bool true)) []) :
    ∀ (W : World) (base : Nat) (args : Array Value) (ds gs : List (DataW H)) (before : List MemPlace),
      (∀ (j : Nat) t v, fn.params[j]? = some t → args[j]? = some v → Value.okWide P W .any base t v) →
      DataW.Whole enc P fn.params.toList s.vars apart W args.toList ds gs before → bulkAll (ds ++ gs) ≤ B →
      Calls P f args W fun e W' => ∃ v, e = .returned v ∧ s.post enc P fn apart fresh handsOn false W args v W' :=
  fun W base args ds gs before hval hW hB => row_of0 B (some B) hl hvars hpar hpar2 hres htb hs (fun us h hz => hc us h (hz B rfl)) W base args ds gs before hval hW (fun d hd => .inr (Nat.le_trans (bulkAll_mem (by simp [hd])) hB)) (fun z h => by cases h; exact Nat.le_trans (bulkAll_left ds gs) hB)

end
end Go.Proofs.YtinfjnnffmlpmaaGreatDoor.E

/- Contracts of library functions: what all of them use. -/
namespace Go.Proofs.YtinfjnnffmlpmaaGreatDoor.E
open Go
set_option linter.unusedSimpArgs false

theorem Sub.plain {base : Nat} {X G : Nat → Prop} {τ : Nat → Gh} {st : Nat → Option E.Obj} {w : World} (h : ∀ i p, st i = some p → p.plain = true) : ∃ σ, SubAt base X G τ st w σ := by
  have no : ∀ {i p}, st i = some p → p.plain = false → False := fun hi hp => by rw [h _ _ hi] at hp; cases hp
  exact ⟨fun _ => [], ⟨fun i p hi hp => (no hi hp).elim, fun i p b hi hp => (no hi hp).elim, fun i p b hi hp => (no hi hp).elim, fun i j p q b hi _ hp => (no hi hp).elim⟩⟩

/-- Fewer objects. -/
theorem Sub.less {base : Nat} {X G : Nat → Prop} {τ : Nat → Gh} {st st' : Nat → Option E.Obj} {w : World} (hm : ∃ σ, SubAt base X G τ st w σ) (h : ∀ i p, st' i = some p → p.plain = false → st i = some p)
    (h2 : ∀ i p, st' i = some p → ∃ q, st i = some q) : ∃ σ, SubAt base X G τ st' w σ :=
  Sub.step (fun i => i) hm (fun b hb => ⟨hb, rfl⟩) (Nat.le_refl _) (fun _ _ h => h) (fun i o hi hp => ⟨h i o hi hp, rfl, fun _ _ => rfl, fun _ _ => rfl⟩) (fun i j _ _ _ _ _ _ h => h) (fun b _ hg _ _ => ⟨rfl, hg⟩)
    (fun i o b hi hb => by obtain ⟨q, hq⟩ := h2 i o hi; exact .inr ⟨i, q, hq, hb⟩)

/-- What is said of an object need not be said. -/
theorem Contract.drop0 {P : Program} {f : FuncId} {args : List V} {objs : List E.Obj} {r : V} {o : Option E.Obj} {os : List (Option E.Obj)} (h : Contract P f args objs r (o :: os)) : Contract P f args objs r (none :: os) := by
  refine ⟨h.goes, fun w G X τ vals hm hX ha => Calls.mono (h.calls w G X τ vals hm hX ha) ?_⟩
  rintro e w' ⟨v, G', τ', rfl, h1, h2, h3, h4⟩
  have sub : ∀ i p, objsAt' (none :: os) i = some p → objsAt' (o :: os) i = some p := by
    intro i p hp
    cases i with
    | zero => simp [objsAt'] at hp
    | succ i => simpa [objsAt'] using hp
  exact ⟨v, G', τ', rfl, h1, h2, h3, h4.gold, fun i p hp => h4.ok i p (sub i p hp), fun i p b hp => h4.own i p b (sub i p hp), fun i j p q b hp hq => h4.inj i j p q b (sub i p hp) (sub j q hq), Sub.less h4.sub (fun i p hp _ => sub i p hp) (fun i p hp => ⟨p, sub i p hp⟩)⟩

/-- A slice that is owned, by its block: however much room there is. -/
theorem Contract.own {P : Program} {f : FuncId} {args : List V} {objs : List E.Obj} {n : Nat} {rows : List (List V)} {r : V} {os : List (Option E.Obj)}
    (h : ∀ c, rows.length ≤ c → Contract P f (.vw 0 n 0 rows.length :: args) (.blk n rows c :: objs) r os) : Contract P f (.own 0 :: args) (.arr n rows :: objs) r os := by
  refine ⟨(h _ (Nat.le_refl _)).goes, fun w G X τ vals hm hX ha => ?_⟩
  have hok := hm.ok 0 _ rfl
  simp only [Obj.ok] at hok
  have hc := h (τ 0).cap hok.2.1
  have sub : ∀ i p, objsAt (.blk n rows (τ 0).cap :: objs) i = some p → (i = 0 ∧ p = .blk n rows (τ 0).cap) ∨ (i ≠ 0 ∧ objsAt (.arr n rows :: objs) i = some p) := by
    intro i p hp
    cases i with
    | zero => left; simp [objsAt] at hp; exact ⟨rfl, hp.symm⟩
    | succ i => right; exact ⟨by omega, by simpa [objsAt] using hp⟩
  have tot : ∀ i p, objsAt (.blk n rows (τ 0).cap :: objs) i = some p → ∃ q, objsAt (.arr n rows :: objs) i = some q := by
    intro i p hp
    rcases sub i p hp with ⟨rfl, _⟩ | ⟨_, h⟩
    · exact ⟨_, rfl⟩
    · exact ⟨_, h⟩
  refine Calls.mono (hc.calls w G X τ vals ⟨hm.gold, fun i p hp => ?_, fun i p b hp => ?_, fun i j p q b hp hq => ?_, Sub.less hm.sub (fun i p hp hpl => ?_) tot⟩ hX ?_) ?_
  · rcases sub i p hp with ⟨rfl, rfl⟩ | ⟨_, h⟩
    · simp only [Obj.ok]; exact ⟨trivial, hok.2⟩
    · exact hm.ok i p h
  · obtain ⟨q, hq⟩ := tot i p hp
    exact hm.own i q b hq
  · obtain ⟨p', hp'⟩ := tot i p hp
    obtain ⟨q', hq'⟩ := tot j q hq
    exact hm.inj i j p' q' b hp' hq'
  · rcases sub i p hp with ⟨_, rfl⟩ | ⟨_, h⟩
    · cases hpl
    · exact h
  · cases hv : vals.toList with
    | nil => rw [hv] at ha; simp only [repL] at ha
    | cons x xs =>
      rw [hv] at ha
      simp only [repL] at ha ⊢
      refine ⟨?_, ha.2⟩
      have h1 := ha.1
      simp only [V.rep, Gh.hdr, hok.1] at h1
      simp only [V.rep]
      refine ⟨fit_of hok.2, _, h1, Nat.zero_le _, hok.2.1, .inl ?_⟩
      rcases hok.2.2 with ⟨_, e2, _⟩ | ⟨b, _, _, _, _, e2, _⟩
      · rw [e2]; rfl
      · rw [e2]; simp [add_plain]
  · rintro e w' ⟨v, G', τ', rfl, h1, h2, h3, h4⟩
    exact ⟨v, G', τ', rfl, h1, fun i hi => h2 i (by simpa using hi), h3, h4⟩

theorem i64_small {n : Int} (h : -9223372036854775808 ≤ n ∧ n ≤ 9223372036854775807) : IntKind.i64.wrap n = n := Go.IntWalk.i64_in _ h

theorem over_app {X Y S : List (List V)} {a : Nat} (h : a = X.length) : over (X ++ Y) a S = X ++ S ++ Y.drop S.length := by
  subst h
  unfold over
  rw [List.take_left', List.drop_append, List.drop_of_length_le (by omega)]
  · simp
  · rfl

theorem ins1 {rows : List (List V)} {row z : List V} {k a m : Nat} (ha : a = k) (hk : k ≤ rows.length) (hm : 0 < m) :
    over (rows.take k ++ List.replicate (rows.length + 1 - k) z) a (List.take m [row]) = rows.take k ++ row :: List.replicate (rows.length - k) z := by
  have e2 : List.take m [row] = [row] := List.take_of_length_le (by simp; omega)
  rw [e2, over_app (by simp; omega)]
  simp only [List.length_cons, List.length_nil, List.append_assoc, List.cons_append, List.nil_append, List.drop_replicate]
  congr 3
  omega

theorem ins2 {rows : List (List V)} {row z : List V} {k a b m : Nat} (ha : a = k + 1) (hb : b = k) (hk : k ≤ rows.length) (hm : rows.length - k ≤ m) :
    over (rows.take k ++ row :: List.replicate (rows.length - k) z) a (List.take m (List.drop b rows)) = rows.take k ++ row :: rows.drop k := by
  subst ha hb
  rw [List.take_of_length_le (i := m) (l := List.drop b rows) (by simp; omega)]
  have e : rows.take b ++ row :: List.replicate (rows.length - b) z = (rows.take b ++ [row]) ++ List.replicate (rows.length - b) z := by simp
  rw [e, over_app (by simp; omega)]
  simp

theorem ins3 {rows : List (List V)} {k a b m : Nat} (ha : a = k + 1) (hb : b = k) (hk : k < rows.length) (hm : rows.length - k ≤ m) :
    over rows a (List.take m (List.drop b rows)) = rows.take (k + 1) ++ rows.drop k := by
  subst ha hb
  rw [List.take_of_length_le (i := m) (l := List.drop b rows) (by simp; omega)]
  unfold over
  rw [List.drop_of_length_le (i := b + 1 + (List.drop b rows).length) (by simp; omega)]
  simp

theorem ins4 {rows : List (List V)} {row : List V} {k a m : Nat} (ha : a = k) (hk : k < rows.length) (hm : 0 < m) :
    over (rows.take (k + 1) ++ rows.drop k) a (List.take m [row]) = rows.take k ++ row :: rows.drop k := by
  subst ha
  have e2 : List.take m [row] = [row] := List.take_of_length_le (by simp; omega)
  rw [e2]
  unfold over
  have h1 : (rows.take (a + 1) ++ rows.drop a).take a = rows.take a := by rw [List.take_append_of_le_length (by simp; omega), List.take_take]; congr 1; omega
  have h2 : (rows.take (a + 1) ++ rows.drop a).drop (a + [row].length) = rows.drop a := by
    rw [List.drop_append, List.drop_of_length_le (by simp; omega)]
    simp only [List.length_cons, List.length_nil, List.length_take, List.nil_append]
    rw [show a + (0 + 1) - min (a + 1) rows.length = 0 by omega]; rfl
  rw [h1, h2]
  simp

/-- A slice without rows is nil, or it is not. -/
theorem Contract.slNil {P : Program} {f : FuncId} {args : List V} {objs : List E.Obj} {n : Nat} {r : V} {os : List (Option E.Obj)} (h1 : ∀ c, Contract P f (.val (.slice none 0 c) :: args) objs r os) (h2 : ∀ A c, Contract P f (.val (.slice (some A) 0 c) :: args) objs r os) : Contract P f (.sl n [] :: args) objs r os := by
  refine ⟨(h1 0).goes, fun w G X τ vals hm hX ha => ?_⟩
  cases hv : vals.toList with
  | nil => rw [hv] at ha; simp only [repL] at ha
  | cons x xs =>
    have ha' := ha
    rw [hv] at ha
    simp only [repL] at ha
    have h := ha.1
    simp only [V.rep, V.repI] at h
    obtain ⟨a, cap, hx, _, _⟩ := h
    cases a with
    | some A =>
      refine (h2 A cap).calls w G X τ vals hm hX ?_
      rw [hv]
      simp only [repL]
      exact ⟨by simp only [V.rep, V.repI]; exact hx, ha.2⟩
    | none =>
      refine (h1 cap).calls w G X τ vals hm hX ?_
      rw [hv]
      simp only [repL]
      exact ⟨by simp only [V.rep, V.repI]; exact hx, ha.2⟩

/-- A slice that is nil is one without rows. -/
theorem Contract.ofNil {P : Program} {f : FuncId} {args : List V} {objs : List E.Obj} {n c : Nat} {r : V} {os : List (Option E.Obj)} (h : Contract P f (.sl n [] :: args) objs r os) : Contract P f (.val (.slice none 0 c) :: args) objs r os := by
  refine ⟨h.goes, fun w G X τ vals hm hX ha => h.calls w G X τ vals hm hX ?_⟩
  cases hv : vals.toList with
  | nil => rw [hv] at ha; simp only [repL] at ha
  | cons x xs =>
    rw [hv] at ha
    simp only [repL] at ha ⊢
    refine ⟨?_, ha.2⟩
    have h := ha.1
    simp only [V.rep, V.repI] at h ⊢
    exact ⟨none, c, h, Nat.zero_le _, .inl trivial⟩

/-- What is made and owned may be read only from then on. -/
theorem Contract.froze {P : Program} {f : FuncId} {args : List V} {n : Nat} {rows : List (List V)} (h : Contract P f args [] (.own 0) [some (.arr n rows)]) : Contract P f args [] (.sl n rows) [] := by
  refine ⟨h.goes, fun w G X τ vals hm hX ha => Calls.mono (h.calls w G X τ vals hm hX ha) ?_⟩
  rintro e w' ⟨v, G', τ', rfl, h1, h2, h3, h4⟩
  have hok := h4.ok 0 _ rfl
  simp only [Obj.ok, rowsOk] at hok
  simp only [V.rep, Gh.hdr] at h3
  have hmo : ∀ b, G' b → (G' b ∨ (τ' 0).blk = some b) ∧ w'.heap[b]? = w'.heap[b]? := fun b hb => ⟨.inl hb, rfl⟩
  refine ⟨v, fun b => G' b ∨ (τ' 0).blk = some b, τ', rfl, ⟨h1.os, h1.tape, h1.output, h1.size, h1.block, fun b hb => ⟨.inl (h1.keep b hb).1, (h1.keep b hb).2⟩, ?_⟩, fun i hi => by simp at hi, ?_, ⟨?_, ?_, ?_, ?_, Sub.plain (fun i p hi => by simp [objsAt'] at hi)⟩⟩
  · rintro b (hb | hb)
    · exact h1.grow b hb
    · rcases h4.own 0 _ b rfl hb with h | h
      · exact .inr (.inr h)
      · exact .inr (.inl h)
  · simp only [V.rep, V.repI]
    rw [h3, hok.1]
    refine ⟨_, _, rfl, hok.2.1, ?_⟩
    rcases hok.2.2 with ⟨_, _, hc⟩ | ⟨b, xs, t, fz, hb, ha', _, _, _, _, hr⟩
    · left
      have := hok.2.1
      rw [hc] at this
      exact List.length_eq_zero_iff.1 (by omega)
    · exact .inr ⟨b, 0, ha', .inr hb, repRows_mono hmo n b rfl 0 rows hr⟩
  · rintro b (hb | hb)
    · exact h4.gold b hb
    · rcases hok.2.2 with ⟨hn, _⟩ | ⟨b', xs, t, fz, hb', _, hh, _⟩
      · rw [hn] at hb; cases hb
      · rw [hb'] at hb; cases hb
        exact (Array.getElem?_eq_some_iff.1 hh).1
  · intro i o hi; simp [objsAt'] at hi
  · intro i o b hi; simp [objsAt'] at hi
  · intro i j o o' b hi; simp [objsAt'] at hi

/-! ### what is said less exactly -/

/-- Whatever is said by the one is said by the other. -/
def subV (a b : V) : Prop := ∀ (w : World) (G : Nat → Prop) (x : Value), a.repI w G x → b.repI w G x
def subR : List V → List V → Prop
  | [], [] => True
  | a :: as, b :: bs => subV a b ∧ subR as bs
  | _, _ => False
def subRs : List (List V) → List (List V) → Prop
  | [], [] => True
  | a :: as, b :: bs => subR a b ∧ subRs as bs
  | _, _ => False
theorem subV.rfl {a : V} : subV a a := fun _ _ _ h => h
theorem subR.rfl : ∀ {a : List V}, subR a a
  | [] => trivial
  | _ :: _ => ⟨subV.rfl, subR.rfl⟩
theorem subV.nil {n c : Nat} : subV (.val (.slice none 0 c)) (.sl n []) := by
  intro w G x h
  simp only [V.repI] at h ⊢
  exact ⟨none, c, h, Nat.zero_le _, .inl trivial⟩
theorem subR.last {cs : List V} {a b : V} (h : subV a b) : subR (cs ++ [a]) (cs ++ [b]) := by
  induction cs with
  | nil => exact ⟨h, trivial⟩
  | cons c cs ih => exact ⟨subV.rfl, ih⟩
theorem subR.len : ∀ {a b : List V}, subR a b → a.length = b.length
  | [], [], _ => Eq.refl _
  | _ :: _, _ :: _, h => by simp [subR.len h.2]
  | [], _ :: _, h => h.elim
  | _ :: _, [], h => h.elim
theorem subRs.len : ∀ {a b : List (List V)}, subRs a b → a.length = b.length
  | [], [], _ => Eq.refl _
  | _ :: _, _ :: _, h => by simp [subRs.len h.2]
  | [], _ :: _, h => h.elim
  | _ :: _, [], h => h.elim
theorem subR.cells {w : World} {G : Nat → Prop} {b : Nat} : ∀ {cs ds : List V}, subR cs ds → ∀ {o : Nat}, repCells w G b o cs → repCells w G b o ds
  | [], [], _, _, h => h
  | c :: cs, d :: ds, hs, o, h => by
    simp only [repCells] at h ⊢
    obtain ⟨⟨x, h1, h2, h3⟩, h4⟩ := h
    exact ⟨⟨x, h1, h2, hs.1 w G x h3⟩, hs.2.cells h4⟩
  | [], _ :: _, h, _, _ => h.elim
  | _ :: _, [], h, _, _ => h.elim
theorem subRs.rows {w : World} {G : Nat → Prop} {n b : Nat} : ∀ {rs ss : List (List V)}, subRs rs ss → ∀ {o : Nat}, repRows w G n b o rs → repRows w G n b o ss
  | [], [], _, _, h => h
  | c :: cs, d :: ds, hs, o, h => by
    simp only [repRows] at h ⊢
    exact ⟨by rw [← hs.1.len]; exact h.1, hs.1.cells h.2.1, hs.2.rows h.2.2⟩
  | [], _ :: _, h, _, _ => h.elim
  | _ :: _, [], h, _, _ => h.elim
theorem subRs.sl {n : Nat} {rs ss : List (List V)} (h : subRs rs ss) : subV (.sl n rs) (.sl n ss) := by
  intro w G x hx
  simp only [V.repI] at hx ⊢
  obtain ⟨a, cap, h1, h2, h3⟩ := hx
  refine ⟨a, cap, by rw [← h.len]; exact h1, by rw [← h.len]; exact h2, ?_⟩
  rcases h3 with h3 | ⟨b, o, h4, h5, h6⟩
  · subst h3
    cases ss with
    | nil => exact .inl _root_.rfl
    | cons _ _ => exact h.elim
  · exact .inr ⟨b, o, h4, h5, h.rows h6⟩
def subA (a b : V) : Prop := ∀ (w : World) (G : Nat → Prop) (τ : Nat → Gh) (x : Value), a.rep w G τ x → b.rep w G τ x
theorem subA.rfl {a : V} : subA a a := fun _ _ _ _ h => h
theorem subA.nil {n c : Nat} : subA (.val (.slice none 0 c)) (.sl n []) := by
  intro w G τ x h
  simp only [V.rep] at h ⊢
  exact subV.nil w G x h
theorem subRs.arg {n : Nat} {rs ss : List (List V)} (h : subRs rs ss) : subA (.sl n rs) (.sl n ss) := by
  intro w G τ x hx
  simp only [V.rep] at hx ⊢
  exact h.sl w G x hx
def subAs : List V → List V → Prop
  | [], [] => True
  | a :: as, b :: bs => subA a b ∧ subAs as bs
  | _, _ => False
theorem subAs.rfl : ∀ {a : List V}, subAs a a
  | [] => trivial
  | _ :: _ => ⟨subA.rfl, subAs.rfl⟩
theorem subAs.repL {w : World} {G : Nat → Prop} {τ : Nat → Gh} : ∀ {as bs : List V} {xs : List Value}, subAs as bs → E.repL w G τ as xs → E.repL w G τ bs xs
  | [], [], _, _, h => h
  | a :: as, b :: bs, [], _, h => by simp only [E.repL] at h
  | a :: as, b :: bs, x :: xs, hs, h => by
    simp only [E.repL] at h ⊢
    exact ⟨hs.1 w G τ x h.1, hs.2.repL h.2⟩
  | [], _ :: _, _, h, _ => h.elim
  | _ :: _, [], _, h, _ => h.elim
/-- A contract for arguments of which less is known is one for those of which more is. -/
theorem Contract.subs {P : Program} {f : FuncId} {args args' : List V} {objs : List E.Obj} {r : V} {os : List (Option E.Obj)} (h : Contract P f args objs r os) (hs : subAs args' args) : Contract P f args' objs r os :=
  ⟨h.goes, fun w G X τ vals hm hX ha => h.calls w G X τ vals hm hX (hs.repL ha)⟩

def idxI {α : Type} (p : α → Bool) (l : List α) : Int := match l.findIdx? p with
  | some j => (j : Int)
  | none => -1

theorem del1 {rows : List (List V)} {i b m : Nat} (hb : b = i) (hi : i ≤ m) : over rows b (List.take (rows.length - m) (List.drop m rows)) = rows.take i ++ rows.drop m ++ rows.drop (i + (rows.length - m)) := by
  subst hb
  rw [List.take_of_length_le (by simp)]
  unfold over
  simp
theorem del2 {rows : List (List V)} {z : List V} {i j : Nat} (hi : i ≤ j) (hj : j ≤ rows.length) :
    over (rows.take i ++ rows.drop j ++ rows.drop (i + (rows.length - j))) (i + (rows.length - j)) (List.replicate (rows.length - (i + (rows.length - j))) z) = rows.take i ++ rows.drop j ++ List.replicate (j - i) z := by
  have e1 : rows.length - (i + (rows.length - j)) = j - i := by omega
  have e2 : List.drop (i + (rows.length - j) + (j - i)) rows = [] := List.drop_of_length_le (by omega)
  rw [over_app (by simp; omega), e1]
  simp only [List.length_replicate, List.drop_drop, e2, List.append_nil]
theorem del3 {rows : List (List V)} {z : List V} {i j : Nat} (hi : i ≤ j) (hj : j ≤ rows.length) :
    List.take (i + (rows.length - j)) (rows.take i ++ rows.drop j ++ List.replicate (j - i) z) = rows.take i ++ rows.drop j := by
  rw [List.take_left' (by simp; omega)]

/-- A loop that goes through a list. -/
theorem LoopC.fold {P : Program} {k n : Nat} {c : Code} {α σ : Type} (l : List α) (step : σ → α → σ) (inv : Nat → σ → Prop) (S : σ → Nat → SL) {e : Ex} (he : e ≠ .normal)
    (hround : ∀ (i : Nat) (s : σ) (x : α), l[i]? = some x → i < l.length → inv i s → CodeC P k n c (S s i) .normal (S (step s x) (i + 1)) ∧ inv (i + 1) (step s x))
    (hend : ∀ s, inv l.length s → CodeC P k n c (S s l.length) e (S s l.length)) (s : σ) (h0 : inv 0 s) : LoopC P k n c (S s 0) e (S (l.foldl step s) l.length) := by
  have key : ∀ (m i : Nat) (s : σ), i + m = l.length → inv i s → LoopC P k n c (S s i) e (S ((l.drop i).foldl step s) l.length) := by
    intro m
    induction m with
    | zero =>
      intro i s hi h
      have : i = l.length := by omega
      subst this
      rw [List.drop_length]
      exact LoopC.last (hend s h) he
    | succ m ih =>
      intro i s hi h
      have hlt : i < l.length := by omega
      obtain ⟨r, h'⟩ := hround i s l[i] (by simp [hlt]) hlt h
      rw [List.drop_eq_getElem_cons hlt, List.foldl_cons]
      exact LoopC.next r (ih (i + 1) _ (by omega) h')
  have := key l.length 0 s (by omega) h0
  simpa only [List.drop_zero] using this

/-- What holds all along. -/
theorem foldl_inv {α σ : Type} (step : σ → α → σ) (inv : Nat → σ → Prop) : ∀ (l : List α) (i : Nat) (s : σ), inv i s → (∀ i s x, x ∈ l → inv i s → inv (i + 1) (step s x)) → inv (i + l.length) (l.foldl step s)
  | [], i, s, h, _ => h
  | x :: l, i, s, h, hs => by
    rw [List.foldl_cons, List.length_cons, show i + (l.length + 1) = (i + 1) + l.length by omega]
    exact foldl_inv step inv l (i + 1) _ (hs i s x (by simp) h) fun i s y hy => hs i s y (by simp [hy])

theorem u64_small {n : Int} (h : 0 ≤ n ∧ n ≤ 9223372036854775807) : IntKind.u64.wrap n = n := by
  simp only [IntKind.wrap]
  simp [IntKind.signed, IntKind.bits]
  omega

theorem clear1 {α : Type} {f : α → List V} {R : List α} {L i a m : Nat} {z : List V} (hR : R.length = L) (hi : i ≤ L) (ha : a = i) (hm : m = L - i) : over (R.map f) a (List.replicate m z) = (R.take i).map f ++ List.replicate (L - i) z := by
  subst ha hm
  unfold over
  rw [List.drop_of_length_le (by simp; omega)]
  simp [List.map_take]
theorem clear2 {α : Type} {f : α → List V} {R K : List α} {L i m : Nat} {z : List V} (hR : R.length = L) (hi : i ≤ L) (hK : R.take i = K) (hm : m = i) : List.take m ((R.take i).map f ++ List.replicate (L - i) z) = K.map f := by
  subst hm
  rw [List.take_left' (by simp; omega), hK]
theorem setRow {α : Type} (f : α → List V) (R : List α) (i : Nat) (x : α) : (R.map f).set i (f x) = (R.set i x).map f := by simp [List.map_set]

/-- A loop that goes through a list and may stop at an element. -/
theorem LoopC.search {P : Program} {k n : Nat} {c : Code} {α : Type} (l : List α) (bad : Nat → α → Bool) (S T : Nat → SL) {e1 e2 : Ex} (he1 : e1 ≠ .normal) (he2 : e2 ≠ .normal)
    (hgo : ∀ (i : Nat) (x : α), l[i]? = some x → i < l.length → bad i x = false → CodeC P k n c (S i) .normal (S (i + 1)))
    (hstop : ∀ (i : Nat) (x : α), l[i]? = some x → i < l.length → bad i x = true → CodeC P k n c (S i) e1 (T i))
    (hend : CodeC P k n c (S l.length) e2 (S l.length)) :
    (∃ i x, l[i]? = some x ∧ bad i x = true ∧ (∀ j y, j < i → l[j]? = some y → bad j y = false) ∧ LoopC P k n c (S 0) e1 (T i)) ∨ ((∀ i x, l[i]? = some x → bad i x = false) ∧ LoopC P k n c (S 0) e2 (S l.length)) := by
  have key : ∀ (m i : Nat), i + m = l.length → (∀ j y, j < i → l[j]? = some y → bad j y = false) →
      (∃ i' x, l[i']? = some x ∧ bad i' x = true ∧ (∀ j y, j < i' → l[j]? = some y → bad j y = false) ∧ LoopC P k n c (S i) e1 (T i')) ∨ ((∀ i x, l[i]? = some x → bad i x = false) ∧ LoopC P k n c (S i) e2 (S l.length)) := by
    intro m
    induction m with
    | zero =>
      intro i hi h
      have : i = l.length := by omega
      subst this
      refine .inr ⟨fun j y hy => h j y (List.getElem?_eq_some_iff.1 hy).1 hy, LoopC.last hend he2⟩
    | succ m ih =>
      intro i hi h
      have hlt : i < l.length := by omega
      have hx : l[i]? = some l[i] := List.getElem?_eq_getElem hlt
      cases hb : bad i l[i] with
      | true => exact .inl ⟨i, l[i], hx, hb, h, LoopC.last (hstop i l[i] hx hlt hb) he1⟩
      | false =>
        have h' : ∀ j y, j < i + 1 → l[j]? = some y → bad j y = false := by
          intro j y hj hy
          by_cases e : j = i
          · subst e
            rw [hx] at hy
            cases hy
            exact hb
          · exact h j y (by omega) hy
        rcases ih (i + 1) (by omega) h' with ⟨i', x, k1, k2, k3, k4⟩ | ⟨k1, k2⟩
        · exact .inl ⟨i', x, k1, k2, k3, LoopC.next (hgo i l[i] hx hlt hb) k4⟩
        · exact .inr ⟨k1, LoopC.next (hgo i l[i] hx hlt hb) k2⟩
  exact key l.length 0 (by omega) (fun j y hj => by omega)

theorem find_first {α : Type} {p : α → Bool} {l : List α} {i : Nat} {x : α} (h : l[i]? = some x) (hp : p x = true) (hf : ∀ (j : Nat) (y : α), j < i → l[j]? = some y → p y = false) : l.find? p = some x := by
  induction l generalizing i with
  | nil => simp at h
  | cons y l ih =>
    rw [List.find?_cons]
    cases i with
    | zero =>
      simp at h
      subst h
      rw [hp]
    | succ i =>
      rw [hf 0 y (by omega) (by simp)]
      exact ih (by simpa using h) fun j z hj hz => hf (j + 1) z (by omega) (by simpa using hz)
theorem find_none {α : Type} {p : α → Bool} {l : List α} (h : ∀ (i : Nat) (x : α), l[i]? = some x → p x = false) : l.find? p = none := by
  rw [List.find?_eq_none]
  intro x hx
  obtain ⟨i, hi⟩ := List.getElem?_of_mem hx
  simp [h i x hi]

theorem tf (b : Bool) : b = true ∨ b = false := by cases b <;> simp
theorem Contract.cast {P : Program} {f : FuncId} {args : List V} {objs : List E.Obj} {r r' : V} {os os' : List (Option E.Obj)} (hr : r = r') (ho : os = os') (h : Contract P f args objs r' os') : Contract P f args objs r os := by subst hr; subst ho; exact h
theorem CodeC.cast {P : Program} {k n : Nat} {c : Code} {s0 s s' : SL} {e : Ex} (hs : s = s') (h : CodeC P k n c s0 e s') : CodeC P k n c s0 e s := by subst hs; exact h

end Go.Proofs.YtinfjnnffmlpmaaGreatDoor.E

/- Functions of sync/atomic on an integer's cell, for which the model stands in. -/
namespace Go.Proofs.YtinfjnnffmlpmaaGreatDoor.E
open Go
set_option linter.unusedSimpArgs false

/-- Function g loads an integer of a kind. -/
def IsALoad (P : Program) (g : FuncId) (k : IntKind) : Prop := ∃ fn, P.funcs[g]? = some fn ∧ (fn.name == "runtime.NumGoroutine") = false ∧ fn.body.isNone = true ∧ Extern.findNext fn = none ∧
  Extern.find fn = some (Extern.Atomic.loadT (.int k))
/-- Function g adds to an integer of a kind. -/
def IsAAdd (P : Program) (g : FuncId) (k : IntKind) : Prop := ∃ fn, P.funcs[g]? = some fn ∧ (fn.name == "runtime.NumGoroutine") = false ∧ fn.body.isNone = true ∧ Extern.findNext fn = none ∧
  Extern.find fn = some (Extern.Atomic.update (Op.intArith .add) k true)
/-- Function g stores an integer. -/
def IsAStore (P : Program) (g : FuncId) : Prop := ∃ fn, P.funcs[g]? = some fn ∧ (fn.name == "runtime.NumGoroutine") = false ∧ fn.body.isNone = true ∧ Extern.findNext fn = none ∧
  Extern.find fn = some Extern.Atomic.storeT

theorem one_arg {w : World} {G : Nat → Prop} {τ : Nat → Gh} {c : V} {vals : Array Value} (h : repL w G τ [c] vals.toList) : ∃ x, vals = #[x] ∧ c.rep w G τ x := by
  cases hv : vals.toList with
  | nil => rw [hv] at h; simp only [repL] at h
  | cons x l => cases l with
    | nil => rw [hv] at h; simp only [repL] at h; exact ⟨x, by apply Array.ext'; simpa using hv, h.1⟩
    | cons y l => rw [hv] at h; simp only [repL] at h; exact h.2.elim
theorem two_args {w : World} {G : Nat → Prop} {τ : Nat → Gh} {c d : V} {vals : Array Value} (h : repL w G τ [c, d] vals.toList) : ∃ x y, vals = #[x, y] ∧ c.rep w G τ x ∧ d.rep w G τ y := by
  cases hv : vals.toList with
  | nil => rw [hv] at h; simp only [repL] at h
  | cons x l => cases l with
    | nil => rw [hv] at h; simp only [repL] at h; exact h.2.elim
    | cons y l => cases l with
      | nil => rw [hv] at h; simp only [repL] at h; exact ⟨x, y, by apply Array.ext'; simpa using hv, h.1, h.2.1⟩
      | cons z l => rw [hv] at h; simp only [repL] at h; exact h.2.2.elim

theorem box_at {w : World} {G : Nat → Prop} {τ : Nat → Gh} {base : Nat} {X : Nat → Prop} {cells : List V} {n off : Nat} {x : Value} {v : V}
    (hm : Mem base X G τ (objsAt [.box cells]) w) (hx : (V.ptr 0 n 0 off).rep w G τ x) (hc : cells[off]? = some v) :
    ∃ b xs t fz y, x = .pointer (some ⟨b, off, none⟩) ∧ (τ 0).blk = some b ∧ w.heap[b]? = some (.cells xs t fz) ∧ ¬ G b ∧ Free fz xs.size ∧ repL w G τ cells xs.toList ∧ xs[off]? = some y ∧ v.rep w G τ y := by
  have hok := hm.ok 0 _ rfl
  simp only [Obj.ok] at hok
  obtain ⟨b, xs, t, fz, h1, h2, h3, h4, h5⟩ := hok
  simp only [V.rep] at hx
  obtain ⟨b', e1, rfl⟩ := hx
  rw [h1] at e1; cases e1
  obtain ⟨y, k1, k2⟩ := repL_get h5 off v hc
  exact ⟨b, xs, t, fz, y, by simp, h1, h2, h3, h4, h5, by simpa using k1, k2⟩

theorem free_at {w : World} {b : Nat} {xs : Array Value} {t : TypeId} {fz : Nat × Nat} {off : Nat} (h : w.heap[b]? = some (.cells xs t fz)) (hf : Free fz xs.size) (ho : off < xs.size) : w.frozen? ⟨b, off, none⟩ = false := by
  have := hf off ho
  simp only [World.frozen?, h]
  rw [Bool.and_eq_false_iff, decide_eq_false_iff_not, decide_eq_false_iff_not]
  by_cases h : fz.1 ≤ off
  · exact .inr fun h2 => this ⟨h, h2⟩
  · exact .inl h

theorem box_set {w : World} {G : Nat → Prop} {τ : Nat → Gh} {base : Nat} {X : Nat → Prop} {cells : List V} {off : Nat} {v v' : V} {y : Value}
    {b : Nat} {xs : Array Value} {t : TypeId} {fz : Nat × Nat} (hm : Mem base X G τ (objsAt [.box cells]) w) (hc : cells[off]? = some v)
    (h1 : (τ 0).blk = some b) (h2 : w.heap[b]? = some (.cells xs t fz)) (h3 : ¬ G b) (h4 : Free fz xs.size) (h5 : repL w G τ cells xs.toList)
    (hv : v'.rep w G τ y) (hflat : v'.flat = true) :
    Ext base X G w G (w.setRow b (xs.setIfInBounds off y)) ∧ Mem base X G τ (objsAt' [some (.box (cells.set off v'))]) (w.setRow b (xs.setIfInBounds off y)) := by
  have hown := hm.own 0 _ b rfl h1
  have hG' : ∀ k, G k → G k ∧ (w.setRow b (xs.setIfInBounds off y)).heap[k]? = w.heap[k]? := fun k hk => ⟨hk, setRow_other w b k _ (fun e => h3 (e ▸ hk))⟩
  refine ⟨Ext.setRow hown h3, ?_⟩
  have hlt : off < cells.length := (List.getElem?_eq_some_iff.1 hc).1
  have hlen := repL_length h5
  have hok : (E.Obj.box (cells.set off v')).ok (w.setRow b (xs.setIfInBounds off y)) G τ 0 := by
    simp only [Obj.ok]
    refine ⟨b, _, t, fz, h1, setRow_heap w b xs _ t fz h2, h3, by simpa using h4, ?_⟩
    have k1 := repL_mono hG' cells _ (fun _ _ => rfl) h5
    have e1 : cells.set off v' = cells.take off ++ [v'] ++ cells.drop (off + 1) := by rw [List.set_eq_take_append_cons_drop, if_pos hlt]; simp
    have e2 : (xs.setIfInBounds off y).toList = xs.toList.take off ++ [y] ++ xs.toList.drop (off + 1) := by
      rw [Array.toList_setIfInBounds, List.set_eq_take_append_cons_drop, if_pos (by omega)]; simp
    rw [e1, e2]
    exact repL_append (repL_append (repL_take off k1) (by simp only [repL]; exact ⟨rep_mono hG' v' y (fun _ _ => rfl) hv, trivial⟩)) (repL_drop _ k1)
  have hset := Mem.set (st := objsAt [.box cells]) (id := 0) (o := .box cells) hm rfl h1 (by simp) (fun k hk => setRow_other w b k _ hk) hok
  have sub : ∀ i p, objsAt' [some (.box (cells.set off v'))] i = some p → putSt (objsAt [.box cells]) [(0, some (.box (cells.set off v')))] i = some p := by
    intro i p hp
    cases i with
    | zero => simpa [objsAt', putSt] using hp
    | succ i => simp [objsAt'] at hp
  exact ⟨hset.gold, fun i p hp => hset.ok i p (sub i p hp), fun i p b hp => hset.own i p b (sub i p hp), fun i j p q b hp hq => hset.inj i j p q b (sub i p hp) (sub j q hq), Sub.less hset.sub (fun i p hp _ => sub i p hp) (fun i p hp => ⟨p, sub i p hp⟩)⟩

theorem Mem.objs' {w : World} {G : Nat → Prop} {τ : Nat → Gh} {base : Nat} {X : Nat → Prop} {o : E.Obj} (hm : Mem base X G τ (objsAt [o]) w) : Mem base X G τ (objsAt' [some o]) w := by
  have sub : ∀ i p, objsAt' [some o] i = some p → objsAt [o] i = some p := by
    intro i p hp
    cases i with
    | zero => simpa [objsAt', objsAt] using hp
    | succ i => simp [objsAt'] at hp
  exact ⟨hm.gold, fun i p hp => hm.ok i p (sub i p hp), fun i p b hp => hm.own i p b (sub i p hp), fun i j p q b hp hq => hm.inj i j p q b (sub i p hp) (sub j q hq), Sub.less hm.sub (fun i p hp _ => sub i p hp) (fun i p hp => ⟨p, sub i p hp⟩)⟩

theorem rep_int {w : World} {G : Nat → Prop} {τ : Nat → Gh} {k : IntKind} {n : Int} {y : Value} (h : (V.val (.int k n)).rep w G τ y) : y = .int k n := by simpa only [V.rep, V.repI] using h

/-- Loading an integer. -/
theorem extLoad {P : Program} {g : FuncId} {k : IntKind} (hg : IsALoad P g k) {cells : List V} {n off : Nat} {x : Int} (hc : cells[off]? = some (.val (.int k x))) :
    ExtC P g [.ptr 0 n 0 off] [.box cells] (.val (.int k x)) [some (.box cells)] := by
  refine ⟨fun w G X τ vals hm hX ha => ?_⟩
  obtain ⟨p, rfl, hp⟩ := one_arg ha
  obtain ⟨b, xs, t, fz, y, rfl, h1, h2, h3, h4, h5, h6, h7⟩ := box_at hm hp hc
  have hy := rep_int h7
  subst hy
  obtain ⟨fn, f1, f2, f3, f4, f5⟩ := hg
  refine ⟨.int k x, w, G, τ, ?_, Ext.refl _ _ _ _, fun _ _ => rfl, by simp only [V.rep, V.repI], hm.objs'⟩
  have hcell : w.cell? ⟨b, off, none⟩ = some (.int k x) := by rw [cell_of_heap h2]; exact h6
  rw [run_callFunc_extern f1 f2 f3 f4 f5]
  have : (Extern.Atomic.loadT (.int k) #[.pointer (some ⟨b, off, none⟩)]).run P w = .ok (.int k x) w := by
    change Sem.run P (do Extern.Atomic.read (.int k) (← asAddr (.pointer (some ⟨b, off, none⟩)))) w = _
    simp [Extern.Atomic.read, asAddr, hcell]
  rw [this]
  rfl

/-- Adding to an integer. -/
theorem extAdd {P : Program} {g : FuncId} {k : IntKind} (hg : IsAAdd P g k) {cells : List V} {n off : Nat} {x d z : Int} (hc : cells[off]? = some (.val (.int k x))) (hz : z = k.wrap (x + d)) :
    ExtC P g [.ptr 0 n 0 off, .val (.int k d)] [.box cells] (.val (.int k z)) [some (.box (cells.set off (.val (.int k z))))] := by
  subst hz
  refine ⟨fun w G X τ vals hm hX ha => ?_⟩
  obtain ⟨p, q, rfl, hp, hq⟩ := two_args ha
  obtain ⟨b, xs, t, fz, y, rfl, h1, h2, h3, h4, h5, h6, h7⟩ := box_at hm hp hc
  have hy := rep_int h7
  subst hy
  have hq' := rep_int hq
  subst hq'
  obtain ⟨fn, f1, f2, f3, f4, f5⟩ := hg
  have hlt : off < xs.size := (Array.getElem?_eq_some_iff.1 h6).1
  have hcell : w.cell? ⟨b, off, none⟩ = some (.int k x) := by rw [cell_of_heap h2]; exact h6
  have hfro := free_at h2 h4 hlt
  obtain ⟨k1, k2⟩ := box_set (v' := .val (.int k (k.wrap (x + d)))) (y := .int k (k.wrap (x + d))) hm hc h1 h2 h3 h4 h5 (by simp only [V.rep, V.repI]) rfl
  refine ⟨.int k (k.wrap (x + d)), _, G, τ, ?_, k1, fun _ _ => rfl, by simp only [V.rep, V.repI], k2⟩
  rw [run_callFunc_extern f1 f2 f3 f4 f5]
  have : (Extern.Atomic.update (Op.intArith .add) k true #[.pointer (some ⟨b, off, none⟩), .int k d]).run P w = .ok (.int k (k.wrap (x + d))) (w.setRow b (xs.setIfInBounds off (.int k (k.wrap (x + d))))) := by
    change Sem.run P (do
      let a' ← asAddr (.pointer (some ⟨b, off, none⟩))
      let old ← Extern.Atomic.read (.int k) a'
      let new ← Op.intArith .add k (← asInt old) (← asInt (.int k d))
      store a' new .atomic
      pure (if true then new else old)) w = _
    simp [Extern.Atomic.read, asAddr, asInt, asIntOf, hcell, hfro, Op.intArith, run_store P w ⟨b, off, none⟩ (.int k (k.wrap (x + d))) .atomic rfl, Result.andThen, setCell_eq_setRow w b off xs t fz _ h2]
  rw [this]
  rfl

/-- Storing an integer. -/
theorem extStore {P : Program} {g : FuncId} {k : IntKind} (hg : IsAStore P g) {cells : List V} {n off : Nat} {x z : Int} (hc : cells[off]? = some (.val (.int k x))) :
    ExtC P g [.ptr 0 n 0 off, .val (.int k z)] [.box cells] (.val (.tuple #[])) [some (.box (cells.set off (.val (.int k z))))] := by
  refine ⟨fun w G X τ vals hm hX ha => ?_⟩
  obtain ⟨p, q, rfl, hp, hq⟩ := two_args ha
  obtain ⟨b, xs, t, fz, y, rfl, h1, h2, h3, h4, h5, h6, h7⟩ := box_at hm hp hc
  have hy := rep_int h7
  subst hy
  have hq' := rep_int hq
  subst hq'
  obtain ⟨fn, f1, f2, f3, f4, f5⟩ := hg
  have hlt : off < xs.size := (Array.getElem?_eq_some_iff.1 h6).1
  have hcell : w.cell? ⟨b, off, none⟩ = some (.int k x) := by rw [cell_of_heap h2]; exact h6
  have hfro := free_at h2 h4 hlt
  obtain ⟨k1, k2⟩ := box_set (v' := .val (.int k z)) (y := .int k z) hm hc h1 h2 h3 h4 h5 (by simp only [V.rep, V.repI]) rfl
  refine ⟨.tuple #[], _, G, τ, ?_, k1, fun _ _ => rfl, by simp only [V.rep, V.repI], k2⟩
  rw [run_callFunc_extern f1 f2 f3 f4 f5]
  have : (Extern.Atomic.storeT #[.pointer (some ⟨b, off, none⟩), .int k z]).run P w = .ok (.tuple #[]) (w.setRow b (xs.setIfInBounds off (.int k z))) := by
    change Sem.run P (do
      store (← asAddr (.pointer (some ⟨b, off, none⟩))) (.int k z) .atomic
      pure Extern.Atomic.none_) w = _
    simp [Extern.Atomic.none_, asAddr, hcell, hfro, run_store P w ⟨b, off, none⟩ (.int k z) .atomic rfl, Result.andThen, setCell_eq_setRow w b off xs t fz _ h2]
  rw [this]
  rfl

end Go.Proofs.YtinfjnnffmlpmaaGreatDoor.E

