/- The engine, part T: a function's contract, from its run. -/
import Derived.Test.YtfpdlamjlbpmkaaEngS
namespace Go.Proofs.Ytfpdlamjlbpmkaa.E
open Go
set_option linter.unusedSimpArgs false

theorem repL_fixAll {P : Program} {w : World} {G : Nat → Prop} {τ : Nat → Gh} : ∀ {ts : List TypeId} {vs : List V} {xs : List Value}, repL w G τ vs xs → repL w G τ (fixAll P ts vs) xs
  | [], vs, xs, h => by simpa only [fixAll] using h
  | t :: ts, [], xs, h => by simpa only [fixAll] using h
  | t :: ts, v :: vs, [], h => by simp only [repL] at h
  | t :: ts, v :: vs, x :: xs, h => by
    simp only [repL] at h
    simp only [fixAll, repL]
    exact ⟨rep_fixV h.1, repL_fixAll h.2⟩

/-- The result of one result variable. -/
def resultSem (tmps : Array Value) : ResultVar → Sem Value
  | .tmp t => pure (tmps.getD t Go.undef)
  | .cell a t => do loadVar t (← asAddr (tmps.getD a Go.undef))

theorem resultOf_run {P : Program} {base : Nat} {X G : Nat → Prop} {τ : Nat → Gh} {σ : S} {a : Act} {w : World} (hs : St base X G τ σ a w) {r : ResultVar} {v : V} (h : resultOf P σ r = some v) :
    ∃ x, (resultSem a.tmps r).run P w = .ok x w ∧ v.rep w G τ x := by
  cases r with
  | tmp t =>
    simp only [resultOf, Option.some.injEq] at h
    subst h
    exact ⟨_, by simp [resultSem, Sem.run_pure], hs.env t⟩
  | cell t ty =>
    simp only [resultOf] at h
    split at h
    · rename_i id n off he
      split at h
      · rename_i cells hst
        have hr := hs.env t
        rw [he] at hr
        simp only [V.rep] at hr
        obtain ⟨b, hb, hv⟩ := hr
        have hok := hs.mem.ok id _ hst
        simp only [Obj.ok, rowsOk] at hok
        obtain ⟨b', xs, ty', fz, e1, e2, _, _, e5⟩ := hok
        rw [hb] at e1
        cases e1
        obtain ⟨x, hx, hrep⟩ := takeCells_load (o := 0) (b := b) e5 (fun i x hi => by rw [Nat.zero_add, cell_of_heap e2]; simpa using hi) h
        refine ⟨x, ?_, hrep⟩
        simp only [resultSem, Sem.run_bind, hv, asAddr, Nat.zero_mul]
        rw [Nat.zero_add] at hx ⊢
        simpa [Sem.run_pure] using hx
      · simp at h
    · simp at h

theorem results_list {P : Program} {base : Nat} {X G : Nat → Prop} {τ : Nat → Gh} {σ : S} {a : Act} {w : World} (hs : St base X G τ σ a w) : ∀ {l : List ResultVar} {vs : List V}, allSome (resultOf P σ) l = some vs →
    ∃ xs, (l.mapM (resultSem a.tmps)).run P w = .ok xs w ∧ repL w G τ vs xs
  | [], vs, h => by
    simp only [allSome, Option.some.injEq] at h
    subst h
    exact ⟨[], by simp [Sem.run_pure], by simp only [repL]⟩
  | r :: l, vs, h => by
    simp only [allSome] at h
    cases h1 : resultOf P σ r with
    | none => simp [h1] at h
    | some v =>
      cases h2 : allSome (resultOf P σ) l with
      | none => simp [h1, h2] at h
      | some vs' =>
        simp only [h1, h2, Option.some.injEq] at h
        subst h
        obtain ⟨x, hx, hr⟩ := resultOf_run hs h1
        obtain ⟨xs, hxs, hrs⟩ := results_list hs h2
        refine ⟨x :: xs, ?_, by simp only [repL]; exact ⟨hr, hrs⟩⟩
        simp [List.mapM_cons, Sem.run_bind, hx, hxs, Sem.run_pure]

theorem results_run {P : Program} {base : Nat} {X G : Nat → Prop} {τ : Nat → Gh} {σ : S} {a : Act} {w : World} (hs : St base X G τ σ a w) {fn : Func} {vs : List V} (h : allSome (resultOf P σ) fn.results.toList = some vs) :
    ∃ xs : List Value, repL w G τ vs xs ∧ (results fn a.tmps).run P w = .ok (if h : xs.length = 1 then xs[0] else .tuple xs.toArray) w := by
  obtain ⟨xs, hx, hr⟩ := results_list hs h
  refine ⟨xs, hr, ?_⟩
  have e : results fn a.tmps = (do
      let vs ← fn.results.mapM (resultSem a.tmps)
      pure (if h : vs.size = 1 then vs[0] else .tuple vs)) := by
    unfold results
    congr 1
  rw [e, Array.mapM_eq_mapM_toList]
  simp only [Sem.run_bind, map_eq_pure_bind, hx, Sem.run_pure, Result.andThen_ok]
  simp

theorem finObjs_get {st : Nat → Option E.Obj} (names : List Nat) : ∀ {l : List Nat} {os : List (Option E.Obj)}, finObjs st names l = some os →
    os.length = l.length ∧ ∀ (j : Nat) (o' : E.Obj), os[j]? = some (some o') → ∃ (id : Nat) (o : E.Obj), l[j]? = some id ∧ st id = some o ∧ ((o.rowsB = true ∧ o' = o) ∨ ∃ cs cs' rs', o = .box cs ∧ o' = .box cs' ∧ (passL names false cs).run st = some (cs', rs'))
  | [], os, h => by
    simp only [finObjs, Option.some.injEq] at h
    subst h
    exact ⟨rfl, by simp⟩
  | id :: l, os, h => by
    simp only [finObjs] at h
    split at h
    · simp at h
    · rename_i os2 h2
      obtain ⟨g1, g2⟩ := finObjs_get names h2
      split at h
      · simp only [Option.some.injEq] at h
        subst h
        refine ⟨by simp [g1], fun j o' hj => ?_⟩
        cases j with
        | zero => simp at hj
        | succ j => obtain ⟨i, o2, k⟩ := g2 j o' (by simpa using hj); exact ⟨i, o2, by simpa using k⟩
      · rename_i n rows hst
        simp only [Option.some.injEq] at h
        subst h
        refine ⟨by simp [g1], fun j o' hj => ?_⟩
        cases j with
        | zero => simp at hj; subst hj; exact ⟨id, _, by simp, hst, .inl ⟨rfl, rfl⟩⟩
        | succ j => obtain ⟨i, o2, k⟩ := g2 j o' (by simpa using hj); exact ⟨i, o2, by simpa using k⟩
      · rename_i n rows c hst
        simp only [Option.some.injEq] at h
        subst h
        refine ⟨by simp [g1], fun j o' hj => ?_⟩
        cases j with
        | zero => simp at hj; subst hj; exact ⟨id, _, by simp, hst, .inl ⟨rfl, rfl⟩⟩
        | succ j => obtain ⟨i, o2, k⟩ := g2 j o' (by simpa using hj); exact ⟨i, o2, by simpa using k⟩
      · rename_i cells hst
        split at h
        · rename_i cs rs hp
          simp only [Option.some.injEq] at h
          subst h
          refine ⟨by simp [g1], fun j o' hj => ?_⟩
          cases j with
          | zero => simp at hj; subst hj; exact ⟨id, _, by simp, hst, .inr ⟨cells, cs, rs, rfl, rfl, hp⟩⟩
          | succ j => obtain ⟨i, o2, k⟩ := g2 j o' (by simpa using hj); exact ⟨i, o2, by simpa using k⟩
        · simp at h

/-- What is given away at the end. -/
theorem Mem.given {base : Nat} {X G : Nat → Prop} {τ : Nat → Gh} {st : Nat → Option E.Obj} {w : World} {names lent : List Nat} {os : List (Option E.Obj)}
    (hm : Mem base X G τ st w) (hn : nodupB names = true) (hl : ∀ i ∈ lent, i ∉ names) (h : finObjs st names names = some os) :
    Mem base X (giveG G τ st lent) (tauOf τ names) (objsAt' os) w := by
  obtain ⟨hlen, hget0⟩ := finObjs_get names h
  have hget : ∀ (j : Nat) (o' : E.Obj), objsAt' os j = some o' → ∃ (id : Nat) (o : E.Obj), names[j]? = some id ∧ st id = some o ∧ ((o.rowsB = true ∧ o' = o) ∨ ∃ cs cs' rs', o = .box cs ∧ o' = .box cs' ∧ (passL names false cs).run st = some (cs', rs')) := by
    intro j o' hj
    refine hget0 j o' ?_
    simp only [objsAt'] at hj
    split at hj
    · rename_i q hq; rw [hq, hj]
    · simp at hj
  have htau : ∀ j id, names[j]? = some id → tauOf τ names j = τ id := fun j id hj => by simp [tauOf, hj]
  refine ⟨(Mem.give hm lent).gold, fun j o' hj => ?_, fun j o' b hj hb => ?_, fun i j o1 o2 b h1 h2 hb1 hb2 => ?_⟩
  · obtain ⟨id, o, g1, g2, g3⟩ := hget j o' hj
    have hin := List.mem_of_getElem? g1
    have hok := hm.ok id o g2
    have hnG : ∀ b, (τ id).blk = some b → giveG G τ st lent b → G b := by
      intro b hb hg
      rcases hg with hg | ⟨id', hid', ⟨n, rows, hs⟩, hb'⟩
      · exact hg
      · exact absurd (hm.inj id' id _ o b hs g2 hb' hb) (fun e => hl id' hid' (e ▸ hin))
    rcases g3 with ⟨hrb, rfl⟩ | ⟨cs, cs', rs', rfl, rfl, hp⟩
    · refine Obj.ok_mono (τ := fun _ => τ id) (τ' := tauOf τ names) (id := j) (fun b hb => ⟨.inl hb, rfl⟩) (fun b hb => ⟨rfl, hnG b hb⟩) (htau j id g1) (fun i hi => by rw [idsObj_rows hrb] at hi; simp at hi) ?_
      exact Obj.ok_name hrb rfl hok
    · simp only [Obj.ok, rowsOk] at hok ⊢
      rw [htau j id g1]
      obtain ⟨b, xs, t, fz, e1, e2, e3, e4, e5⟩ := hok
      exact ⟨b, xs, t, fz, e1, e2, fun hg => e3 (hnG b e1 hg), e4, passL_rep hm names lent false hp (fun i hi hni => absurd (pass_ids2 names hp i hi) hni) e5⟩
  · obtain ⟨id, o, g1, g2, _⟩ := hget j o' hj
    rw [htau j id g1] at hb
    exact hm.own id o b g2 hb
  · obtain ⟨id1, p1, g1, g2, _⟩ := hget i o1 h1
    obtain ⟨id2, p2, k1, k2, _⟩ := hget j o2 h2
    rw [htau i id1 g1] at hb1
    rw [htau j id2 k1] at hb2
    have := hm.inj id1 id2 p1 p2 b g2 k2 hb1 hb2
    subst this
    exact nodupB_spec hn i j id1 g1 k1

theorem passTop_rep {base : Nat} {X G : Nat → Prop} {τ : Nat → Gh} {st : Nat → Option E.Obj} {w : World} (hm : Mem base X G τ st w) (ids lent : List Nat) {v v' : V} {rs : List Nat} {x : Value}
    (h : (passTop ids v).run st = some (v', rs)) (hl : ∀ i ∈ v.ids, i ∉ ids → i ∈ lent) (hr : v.rep w G τ x) : v'.rep w (giveG G τ st lent) (tauOf τ ids) x := by
  unfold passTop at h
  split at h
  · rename_i vs
    obtain ⟨cs', r1, r2, h1, h2, _⟩ := T.run_bind_some h
    simp only [T.run, Option.some.injEq, Prod.mk.injEq] at h2
    obtain ⟨rfl, _⟩ := h2
    simp only [V.rep] at hr ⊢
    obtain ⟨xs, e, hr⟩ := hr
    exact ⟨xs, e, passL_rep hm ids lent true h1 (fun i hi => hl i (by simpa only [V.ids] using hi)) hr⟩
  · exact pass_rep hm ids lent true h hl hr

theorem idsL_get : ∀ {args : List V} {t : Nat} {a : V} {i : Nat}, args[t]? = some a → i ∈ a.ids → i ∈ idsL args
  | [], t, a, i, h, _ => by simp at h
  | c :: cs, t, a, i, h, hi => by
    simp only [idsL, List.mem_append]
    cases t with
    | zero => simp at h; subst h; exact .inl hi
    | succ t => exact .inr (idsL_get (by simpa using h) hi)

/-- THE VERIFIER IS SOUND. -/
theorem vc {P : Program} (hmix : P.follows .mixedOrders = true) {f : FuncId} {args : List V} {objs : List E.Obj} {sc : List It} {exports : List Nat} {r : V} {objs' : List (Option E.Obj)} {ps : List Prop}
    (h : runF P f args objs sc exports = some (r, objs', ps)) (hp : ∀ p ∈ ps, p) : Contract P f args objs r objs' := by
  unfold runF at h
  split at h
  · rename_i fn hfn
    split at h
    · rename_i c hc
      simp only at h
      cases hb : subset (idsL args) (List.range objs.length) && (objs.all fun o => subset (idsObj o) (List.range objs.length)) && (fn.name != "runtime.NumGoroutine") with
      | false => simp only [hb, cond_false, reduceCtorEq] at h
      | true =>
        simp only [hb, cond_true] at h
        simp only [Bool.and_eq_true] at hb
        obtain ⟨⟨b1, b2⟩, b3⟩ := hb
        split at h
        · rename_i e σ rest ps2 hrun
          have hdone : doneSc rest = true := by
            cases hd : doneSc rest with
            | true => rfl
            | false => simp [hd] at h
          simp only [hdone, Bool.true_and] at h
          have hex : e = .normal ∨ e = .ret := by
            cases e with
            | normal => exact .inl rfl
            | ret => exact .inr rfl
            | exit id => simp at h
          have h : (match allSome (resultOf P σ) fn.results.toList with
              | some vs => (match (passTop (List.range objs.length ++ exports) (match fixAll P fn.resultTypes.toList vs with
                  | [v] => v
                  | vs => .tup vs)).run σ.st, finObjs σ.st (List.range objs.length ++ exports) (List.range objs.length ++ exports) with
                | some (v, _), some os => bif nodupB (List.range objs.length ++ exports) then some (v, os, ps2) else none
                | _, _ => none)
              | none => none) = some (r, objs', ps) := by
            rcases hex with rfl | rfl
            · exact h
            · exact h
          split at h
          · rename_i vs hvs
            split at h
            · rename_i v rs os hv hos
              cases hn : nodupB (List.range objs.length ++ exports) with
              | false => simp only [hn, cond_false, reduceCtorEq] at h
              | true =>
                simp only [hn, cond_true, Option.some.injEq, Prod.mk.injEq] at h
                obtain ⟨rfl, rfl, rfl⟩ := h
                obtain ⟨_, _, hsays⟩ := runC_says hmix c _ _ _ _ _ _ hrun hp (fun i hi => List.mem_range.2 hi)
                refine ⟨⟨fn, hfn, by simpa using b3, by simp [hc]⟩, fun w G X τ vals hm hX ha => calls_of_wp hfn hc ?_⟩
                have hlen := repL_length ha
                have hsize : vals.size = args.length := by rw [hlen]; simp
                have hst0 : St w.heap.size X G τ ⟨max args.length fn.ntmps, fun t => args.getD t .undef, objsAt objs, List.range objs.length⟩
                    { tmps := vals ++ Array.replicate (fn.ntmps - vals.size) Go.undef, defers := [] } w := by
                  refine ⟨hm, Nat.le_refl _, ?_, fun t => ?_, fun t i hi => ?_, fun i o ho => ?_, rfl⟩
                  · simp [hsize]; omega
                  · show (args.getD t .undef).rep w G τ _
                    rw [List.getD_eq_getElem?_getD]
                    cases ht : args[t]? with
                    | none => simp only [Option.getD_none, V.rep]
                    | some a =>
                      obtain ⟨x, hx, hr⟩ := repL_get ha t a ht
                      have : (vals ++ Array.replicate (fn.ntmps - vals.size) Go.undef).getD t Go.undef = x := by
                        have hlt : t < vals.size := by
                          rw [hsize]; exact (List.getElem?_eq_some_iff.1 ht).1
                        have hx' : vals[t]? = some x := by simpa using hx
                        rw [Array.getD_eq_getD_getElem?, Array.getElem?_append_left hlt, hx']
                        rfl
                      rw [this]
                      simpa using hr
                  · have hi : i ∈ (args.getD t .undef).ids := hi
                    rw [List.getD_eq_getElem?_getD] at hi
                    cases ht : args[t]? with
                    | none => simp [ht, V.ids] at hi
                    | some a =>
                      simp only [ht, Option.getD_some] at hi
                      refine subset_spec b1 i ?_
                      exact idsL_get ht hi
                  · have ho' : objs[i]? = some o := ho
                    refine ⟨List.mem_range.2 (List.getElem?_eq_some_iff.1 ho').1, ?_⟩
                    exact subset_spec (List.all_eq_true.1 b2 o (List.mem_of_getElem? ho'))
                refine wp_mono (hsays _ _ _ _ _ _ hst0) ?_
                rintro e' a' w' ⟨rfl, G', τ', hs', hext, hτ⟩
                obtain ⟨xs, hxs, hres⟩ := results_run hs' hvs
                have hfx := repL_fixAll (P := P) (ts := fn.resultTypes.toList) hxs
                let names := List.range objs.length ++ exports
                let rv : V := match fixAll P fn.resultTypes.toList vs with
                  | [v] => v
                  | vs => .tup vs
                have hrv : rv.rep w' G' τ' (if h : xs.length = 1 then xs[0] else .tuple xs.toArray) := by
                  have hl := repL_length hfx
                  show V.rep w' G' τ' (match fixAll P fn.resultTypes.toList vs with
                    | [v] => v
                    | vs => .tup vs) _
                  generalize fixAll P fn.resultTypes.toList vs = vs2 at hfx hl ⊢
                  split
                  · rename_i v1
                    match xs, hfx with
                    | [x], hfx => simp only [repL] at hfx; exact hfx.1
                    | [], hfx => simp [repL] at hfx
                    | _ :: _ :: _, hfx => simp [repL] at hfx
                  · rename_i hne
                    have : ¬ xs.length = 1 := by
                      intro h1
                      match vs2, hl with
                      | [v1], _ => exact hne v1 rfl
                      | [], hl => simp at hl; omega
                      | _ :: _ :: _, hl => simp at hl; omega
                    rw [dif_neg this]
                    simp only [V.rep]
                    exact ⟨xs.toArray, rfl, by simpa using hfx⟩
                let lent := rv.ids.filter fun i => !names.contains i
                have hlent : ∀ i ∈ lent, i ∉ names := by
                  intro i hi
                  have := (List.mem_filter.1 hi).2
                  simpa using this
                have hfinal := passTop_rep hs'.mem names lent hv (fun i hi hni => List.mem_filter.2 ⟨hi, by simpa using hni⟩) hrv
                have hmem := Mem.given hs'.mem hn hlent hos
                have hpost : bodyPost P fn (fun e w'_1 => ∃ v_1 G' τ', e = .returned v_1 ∧ Ext w.heap.size X G w G' w'_1 ∧ (∀ i, i < objs.length → τ' i = τ i) ∧ v.rep w'_1 G' τ' v_1 ∧ Mem w.heap.size X G' τ' (objsAt' os) w'_1) .normal a' w' := by
                  refine ⟨hs'.defers, _, hres, _, giveG G' τ' σ.st lent, tauOf τ' names, rfl, ?_, fun i hi => ?_, hfinal, hmem⟩
                  · refine ⟨hext.os, hext.tape, hext.output, hext.size, hext.block, fun b hb => ⟨.inl (hext.keep b hb).1, (hext.keep b hb).2⟩, fun b hb => ?_⟩
                    rcases hb with hb | ⟨id, _, ⟨n, rows, hs⟩, hb⟩
                    · exact hext.grow b hb
                    · rcases hs'.mem.own id _ b hs hb with h | h
                      · exact .inr (.inr h)
                      · exact .inr (.inl h)
                  · have : names[i]? = some i := by
                      show (List.range objs.length ++ exports)[i]? = some i
                      rw [List.getElem?_append_left (by simpa using hi)]
                      simp [hi]
                    simp only [tauOf, this]
                    exact hτ i hi
                rcases hex with rfl | rfl
                · exact hpost
                · exact hpost
            · simp at h
          · simp at h
        · simp at h
    · simp at h
  · simp at h

end Go.Proofs.Ytfpdlamjlbpmkaa.E
