/- The engine, part G: loads, addresses, fields, indexes, lengths. -/
import Derived.Test.YtfpdlamjlbpmkaaEngF
namespace Go.Proofs.Ytfpdlamjlbpmkaa.E
open Go
set_option linter.unusedSimpArgs false

theorem add_plain (b o n : Nat) : Addr.add ⟨b, o, none⟩ n = ⟨b, o + n, none⟩ := Addr.add_lit b o n

theorem isAggB_run {P : Program} {t : TypeId} {r : Bool} (h : isAggB P t = some r) (w : World) : (isAgg t).run P w = .ok r w := by
  unfold isAggB at h
  cases hu : P.underlying t with
  | none => simp [hu] at h
  | some d =>
    simp only [hu] at h
    cases d <;> simp only [Option.some.injEq] at h <;> subst h <;> simp [isAgg, run_underlying hu]

theorem cell_of_heap {w : World} {b i : Nat} {xs : Array Value} {t : TypeId} {fz : Nat × Nat} (h : w.heap[b]? = some (.cells xs t fz)) : w.cell? ⟨b, i, none⟩ = xs[i]? := by
  simp [World.cell?, h]

theorem takeCells_load {P : Program} {w : World} {G : Nat → Prop} {τ : Nat → Gh} {t : TypeId} {cells : List V} {xs : List Value} {b o off : Nat} {v : V}
    (hr : repL w G τ cells xs) (hx : ∀ i x, xs[i]? = some x → w.cell? ⟨b, o + i, none⟩ = some x) (h : takeCells P t cells off = some v) :
    ∃ x, (loadVar t ⟨b, o + off, none⟩).run P w = .ok x w ∧ v.rep w G τ x := by
  unfold takeCells at h
  split at h
  · rename_i n ha hn
    cases hb : Nat.ble (off + n) cells.length with
    | false => simp [hb] at h
    | true =>
      simp only [hb, cond_true, Option.some.injEq] at h
      subst h
      have hle := Nat.le_of_ble_eq_true hb
      have hl := repL_length hr
      have hlen : ((xs.drop off).take n).length = n := by simp; omega
      refine ⟨.agg ((xs.drop off).take n).toArray, ?_, ?_⟩
      · have hload := run_loadCells_list (P := P) w ⟨b, o + off, none⟩ ((xs.drop off).take n) (fun j y hj => by
          rw [add_plain]
          have hj' : ((xs.drop off).take n)[j]? = some y := hj
          rw [List.getElem?_take] at hj'
          split at hj'
          · rw [List.getElem?_drop] at hj'
            have := hx (off + j) y hj'
            rwa [show o + off + j = o + (off + j) by omega]
          · simp at hj')
        rw [hlen] at hload
        simp only [loadVar, Sem.run_bind, isAggB_run ha w, Result.andThen_ok, if_true, szOf_run hn w, hload]
        rfl
      · simp only [V.rep]
        exact ⟨_, rfl, by simpa using repL_take n (repL_drop off hr)⟩
  · rename_i ha _
    obtain ⟨x, h1, h2⟩ := repL_get hr off v h
    refine ⟨x, ?_, h2⟩
    have hc := hx off x h1
    simp only [loadVar, Sem.run_bind, isAggB_run ha w, Result.andThen_ok]
    simp [hc]
  · simp at h

theorem rowOf_res {st : Nat → Option E.Obj} {ans : List Ans} {rows : List (List V)} {row : Nat} {cs : List V} {ps : List Prop} {rs : List Nat} (h : (rowOf ans rows row).run st = some ((cs, ps), rs)) (hp : ∀ p ∈ ps, p) :
    rows[row]? = some cs := by
  unfold rowOf at h
  split at h
  · simp only [T.run, Option.some.injEq, Prod.mk.injEq] at h
    obtain ⟨⟨rfl, rfl⟩, _⟩ := h
    exact hp _ (by simp)
  · split at h
    · rename_i c hc
      simp only [T.run, Option.some.injEq, Prod.mk.injEq] at h
      obtain ⟨⟨rfl, rfl⟩, _⟩ := h
      exact hc
    · simp [T.run] at h

theorem run_ask {α : Type} {st : Nat → Option E.Obj} {id : Nat} {k : E.Obj → T α} {a : α} {rs : List Nat} (h : (T.ask id k).run st = some (a, rs)) : ∃ o r, st id = some o ∧ (k o).run st = some (a, r) ∧ rs = id :: r := by
  simp only [T.run] at h
  cases ho : st id with
  | none => simp [ho] at h
  | some o =>
    simp only [ho] at h
    cases hk : (k o).run st with
    | none => simp [hk] at h
    | some p =>
      obtain ⟨c, r⟩ := p
      simp only [hk, Option.some.injEq, Prod.mk.injEq] at h
      exact ⟨o, r, rfl, by rw [← h.1]; exact hk, h.2.symm⟩

/-- A box's cells, a row's cells, as they lie. -/
theorem box_cells {w : World} {G : Nat → Prop} {τ : Nat → Gh} {id b : Nat} {cells : List V} (h : (E.Obj.box cells).ok w G τ id) (hb : (τ id).blk = some b) :
    ∃ xs : List Value, repL w G τ cells xs ∧ ∀ i x, xs[i]? = some x → w.cell? ⟨b, 0 + i, none⟩ = some x := by
  simp only [Obj.ok, rowsOk] at h
  obtain ⟨b', xs, t, fz, h1, h2, _, _, h5⟩ := h
  rw [hb] at h1; cases h1
  exact ⟨xs.toList, h5, fun i x hx => by rw [cell_of_heap h2]; simpa using hx⟩

theorem arr_rows {w : World} {G : Nat → Prop} {τ : Nat → Gh} {id b n : Nat} {rows : List (List V)} (h : (E.Obj.arr n rows).ok w G τ id) (hb : (τ id).blk = some b) : repRows w G n b 0 rows := by
  simp only [Obj.ok, rowsOk] at h
  rcases h.2.2 with ⟨e, _⟩ | ⟨b', xs, t, fz, e1, _, _, _, _, _, e7⟩
  · rw [hb] at e; cases e
  · rw [hb] at e1; cases e1; exact e7

theorem row_cells {w : World} {G : Nat → Prop} {τ : Nat → Gh} {b o row n : Nat} {rows : List (List V)} {cs : List V} (h : repRows w G n b o rows) (hr : rows[row]? = some cs) :
    ∃ xs : List Value, repL w G τ cs xs ∧ ∀ i x, xs[i]? = some x → w.cell? ⟨b, o + row * n + i, none⟩ = some x := by
  obtain ⟨h1, h2⟩ := repRows_get h row cs hr
  obtain ⟨xs, h3, h4⟩ := repCells_get h2
  exact ⟨xs, repL_of_repIL h3, h4⟩

theorem evLoad_res {P : Program} {base : Nat} {X G : Nat → Prop} {τ : Nat → Gh} {st : Nat → Option E.Obj} {w : World} {ids : List Nat} {ans : List Ans} {t : TypeId} {a : V} {x : Value} {e : Eff} {rs : List Nat}
    (hm : Mem base X G τ st w) (ha : a.rep w G τ x) (h : (evLoad P ans t a).run st = some (e, rs)) (hp : ∀ p ∈ e.obs, p) :
    OpRes P base X ids G τ st w (do pure (Next.value (← Instr.loadAt t x))) e := by
  have fin : ∀ {cells : List V} {b o off : Nat} {v : V} {obs : List Prop}, (∃ xs : List Value, repL w G τ cells xs ∧ ∀ i y, xs[i]? = some y → w.cell? ⟨b, o + i, none⟩ = some y) → takeCells P t cells off = some v →
      x = .pointer (some ⟨b, o + off, none⟩) → OpRes P base X ids G τ st w (do pure (Next.value (← Instr.loadAt t x))) ⟨v, [], obs, []⟩ := by
    rintro cells b o off v obs ⟨xs, h1, h2⟩ ht rfl
    obtain ⟨y, h3, h4⟩ := takeCells_load h1 h2 ht
    exact OpRes.pure hm (run_v (by simp [Instr.loadAt, Instr.sureAddr, h3])) h4
  unfold evLoad at h
  split at h
  · rename_i id n row off
    simp only [V.rep] at ha
    obtain ⟨b, hb, hx⟩ := ha
    obtain ⟨o, r, ho, h, _⟩ := run_ask h
    have hok := hm.ok id o ho
    split at h
    · rename_i cells
      cases hz : row == 0 with
      | false => simp [hz, T.run] at h
      | true =>
        simp only [hz, cond_true] at h
        split at h
        · rename_i v hv
          simp only [T.run, Option.some.injEq, Prod.mk.injEq] at h
          obtain ⟨rfl, _⟩ := h
          have : row = 0 := by simpa using hz
          subst this
          exact fin (box_cells hok hb) hv (by rw [hx]; simp)
        · simp [T.run] at h
    · rename_i m rows
      cases hn : m == n with
      | false => simp [hn, T.run] at h
      | true =>
        simp only [hn, cond_true] at h
        obtain ⟨⟨cs, ps⟩, r1, r2, h1, h2, _⟩ := T.run_bind_some h
        have hmn : m = n := by simpa using hn
        subst hmn
        split at h2
        · rename_i v hv
          simp only [T.run, Option.some.injEq, Prod.mk.injEq] at h2
          obtain ⟨rfl, _⟩ := h2
          exact fin (row_cells (τ := τ) (arr_rows hok hb) (rowOf_res h1 hp)) hv (by rw [hx]; simp)
        · simp [T.run] at h2
    · simp [T.run] at h
  · rename_i n rows row off
    simp only [V.rep] at ha
    obtain ⟨b, o, _, hrr, _, hx⟩ := ha
    obtain ⟨⟨cs, ps⟩, r1, r2, h1, h2, _⟩ := T.run_bind_some h
    split at h2
    · rename_i v hv
      simp only [T.run, Option.some.injEq, Prod.mk.injEq] at h2
      obtain ⟨rfl, _⟩ := h2
      exact fin (row_cells (τ := τ) hrr (rowOf_res h1 hp)) hv hx
    · simp [T.run] at h2
  · simp [T.run] at h

theorem evFieldAddr_res {P : Program} {base : Nat} {X G : Nat → Prop} {τ : Nat → Gh} {st : Nat → Option E.Obj} {w : World} {ids : List Nat} {t : TypeId} {f : Nat} {a : V} {x : Value} {e : Eff} {rs : List Nat}
    (hm : Mem base X G τ st w) (ha : a.rep w G τ x) (h : (evFieldAddr P t a f).run st = some (e, rs)) :
    OpRes P base X ids G τ st w (do pure (Next.value (← Instr.fieldAt t x f))) e := by
  unfold evFieldAddr at h
  split at h
  · rename_i fields hu
    split at h
    · rename_i fd hfd
      split at h
      · rename_i n hn
        cases hz : n == 0 with
        | true => simp [hz, T.run] at h
        | false =>
          simp only [hz, cond_false] at h
          have hn0 : n ≠ 0 := by simpa using hz
          have run : ∀ b o, x = .pointer (some ⟨b, o, none⟩) → (Instr.fieldAt t x f).run P w = .ok (.pointer (some ⟨b, o + fd.offset, none⟩)) w := by
            rintro b o rfl
            simp only [Instr.fieldAt, Sem.run_bind, run_underlying hu, Result.andThen_ok, hfd, Instr.sureAddr, Sem.run_pure, fieldPlace, szOf_run hn w, if_neg hn0, add_plain]
          split at h
          · rename_i id m row off
            simp only [T.run, Option.some.injEq, Prod.mk.injEq] at h
            obtain ⟨rfl, _⟩ := h
            simp only [V.rep] at ha
            obtain ⟨b, hb, hx⟩ := ha
            exact OpRes.pure hm (run_v (run _ _ hx)) (by simp only [V.rep]; exact ⟨b, hb, by simp [Nat.add_assoc]⟩)
          · rename_i m rows row off
            simp only [T.run, Option.some.injEq, Prod.mk.injEq] at h
            obtain ⟨rfl, _⟩ := h
            simp only [V.rep] at ha
            obtain ⟨b, o, h1, h2, h3, hx⟩ := ha
            exact OpRes.pure hm (run_v (run _ _ hx)) (by simp only [V.rep]; exact ⟨b, o, h1, h2, h3, by simp [Nat.add_assoc]⟩)
          · simp [T.run] at h
      · simp [T.run] at h
    · simp [T.run] at h
  · simp [T.run] at h

theorem takeCells_part {P : Program} {w : World} {G : Nat → Prop} {τ : Nat → Gh} {t : TypeId} {cells : List V} {xs : Array Value} {off : Nat} {v : V} (hr : repL w G τ cells xs.toList) (h : takeCells P t cells off = some v) :
    ∃ x, (part t xs off).run P w = .ok x w ∧ v.rep w G τ x := by
  unfold takeCells at h
  split at h
  · rename_i n ha hn
    cases hb : Nat.ble (off + n) cells.length with
    | false => simp [hb] at h
    | true =>
      simp only [hb, cond_true, Option.some.injEq] at h
      subst h
      refine ⟨.agg (xs.extract off (off + n)), ?_, ?_⟩
      · simp only [part, Sem.run_bind, isAggB_run ha w, Result.andThen_ok, if_true, szOf_run hn w]
        rfl
      · simp only [V.rep]
        refine ⟨_, rfl, ?_⟩
        have := repL_take n (repL_drop off hr)
        simpa [List.extract_eq_take_drop] using this
  · rename_i ha _
    obtain ⟨x, h1, h2⟩ := repL_get hr off v h
    refine ⟨x, ?_, h2⟩
    have h3 : xs[off]? = some x := by simpa using h1
    simp only [part, Sem.run_bind, isAggB_run ha w, Result.andThen_ok, h3]
    rfl
  · simp at h

theorem evField_res {P : Program} {base : Nat} {X G : Nat → Prop} {τ : Nat → Gh} {st : Nat → Option E.Obj} {w : World} {ids : List Nat} {t : TypeId} {f : Nat} {a : V} {x : Value} {e : Eff} {rs : List Nat}
    (hm : Mem base X G τ st w) (ha : a.rep w G τ x) (h : (evField P t a f).run st = some (e, rs)) :
    OpRes P base X ids G τ st w (do pure (Next.value (← Instr.field t x f))) e := by
  unfold evField at h
  split at h
  · rename_i fields hu
    split at h
    · rename_i fd hfd
      split at h
      · rename_i cs
        split at h
        · rename_i v hv
          simp only [T.run, Option.some.injEq, Prod.mk.injEq] at h
          obtain ⟨rfl, _⟩ := h
          simp only [V.rep] at ha
          obtain ⟨xs, rfl, hr⟩ := ha
          obtain ⟨y, h1, h2⟩ := takeCells_part hr hv
          refine OpRes.pure hm (run_v ?_) h2
          simp only [Instr.field, Sem.run_bind, run_underlying hu, Result.andThen_ok, hfd, asAgg, Sem.run_pure, h1]
        · simp [T.run] at h
      · simp [T.run] at h
    · simp [T.run] at h
  · simp [T.run] at h

theorem litOf_res {st : Nat → Option E.Obj} {ans : List Ans} {i : Int} {n : Nat} {ps : List Prop} {rs : List Nat} (h : (litOf ans i).run st = some ((n, ps), rs)) (hp : ∀ p ∈ ps, p) : i = (n : Int) := by
  unfold litOf at h
  split at h
  · simp only [T.run, Option.some.injEq, Prod.mk.injEq] at h
    obtain ⟨⟨rfl, rfl⟩, _⟩ := h
    exact hp _ (by simp)
  · split at h
    · simp only [T.run, Option.some.injEq, Prod.mk.injEq] at h
      obtain ⟨⟨rfl, rfl⟩, _⟩ := h
      rfl
    · simp [T.run] at h

theorem evIndexAddr_res {P : Program} {base : Nat} {X G : Nat → Prop} {τ : Nat → Gh} {st : Nat → Option E.Obj} {w : World} {ids : List Nat} {ans : List Ans} {t : TypeId} {a i : V} {x y : Value} {e : Eff} {rs : List Nat}
    (hm : Mem base X G τ st w) (ha : a.rep w G τ x) (hi : i.rep w G τ y) (h : (evIndexAddr P ans t a i).run st = some (e, rs)) (hp : ∀ p ∈ e.obs, p) :
    OpRes P base X ids G τ st w (do pure (Next.value (← Instr.indexAt t x y))) e := by
  unfold evIndexAddr at h
  split at h
  · rename_i len el hu
    split at h
    · rename_i n k j hn
      simp only [V.rep, V.repI] at hi
      subst hi
      obtain ⟨⟨q, ps⟩, r1, r2, h1, h2, _⟩ := T.run_bind_some h
      cases hlt : Nat.blt q len with
      | false => simp [hlt, T.run] at h2
      | true =>
        simp only [hlt, cond_true] at h2
        have hlt' : q < len := by simpa [Nat.blt_eq] using hlt
        have run : j = (q : Int) → ∀ b o, x = .pointer (some ⟨b, o, none⟩) → (Instr.indexAt t x (.int k j)).run P w = .ok (.pointer (some ⟨b, o + q * n, none⟩)) w := by
          rintro rfl b o rfl
          simp only [Instr.indexAt, Sem.run_bind, asIntOf, Sem.run_pure, Result.andThen_ok, run_underlying hu, Instr.sureAddr, szOf_run hn w, Int.toNat_natCast, add_plain]
          rw [if_pos (by constructor <;> omega)]
          simp [szOf_run hn w, add_plain]
        split at h2
        · simp only [T.run, Option.some.injEq, Prod.mk.injEq] at h2
          obtain ⟨rfl, _⟩ := h2
          simp only [V.rep] at ha
          obtain ⟨b, hb, hx⟩ := ha
          exact OpRes.pure hm (run_v (run (litOf_res h1 hp) _ _ hx)) (by simp only [V.rep]; exact ⟨b, hb, by simp [Nat.add_assoc]⟩)
        · simp only [T.run, Option.some.injEq, Prod.mk.injEq] at h2
          obtain ⟨rfl, _⟩ := h2
          simp only [V.rep] at ha
          obtain ⟨b, o, g1, g2, g3, hx⟩ := ha
          exact OpRes.pure hm (run_v (run (litOf_res h1 hp) _ _ hx)) (by simp only [V.rep]; exact ⟨b, o, g1, g2, g3, by simp [Nat.add_assoc]⟩)
        · simp [T.run] at h2
    · simp [T.run] at h
  · rename_i el hu
    split at h
    · rename_i n k j hn
      simp only [V.rep, V.repI] at hi
      subst hi
      cases hz : n == 0 with
      | true => simp [hz, T.run] at h
      | false =>
        simp only [hz, cond_false] at h
        have run : ∀ (len cap : Nat) (b o : Nat), 0 ≤ j → j < (len : Int) → x = .slice (some ⟨b, o, none⟩) len cap → (Instr.indexAt t x (.int k j)).run P w = .ok (.pointer (some ⟨b, o + j.toNat * n, none⟩)) w := by
          rintro len cap b o h1 h2 rfl
          simp only [Instr.indexAt, Sem.run_bind, asIntOf, Sem.run_pure, Result.andThen_ok, run_underlying hu]
          rw [if_pos ⟨h1, h2⟩]
          simp [szOf_run hn w, add_plain]
        split at h
        · rename_i m rows
          cases hmn : m == n with
          | false => simp [hmn, T.run] at h
          | true =>
            simp only [hmn, cond_true, T.run, Option.some.injEq, Prod.mk.injEq] at h
            obtain ⟨rfl, _⟩ := h
            have hmn' : m = n := by simpa using hmn
            subst hmn'
            have h0 : 0 ≤ j := hp _ (by simp)
            have h1 : j < (rows.length : Int) := hp _ (by simp)
            simp only [V.rep, V.repI] at ha
            obtain ⟨ad, cap, hx, hle, hr⟩ := ha
            rcases hr with hr | ⟨b, o, rfl, hg, hrr⟩
            · subst hr; simp at h1; omega
            · exact OpRes.pure hm (run_v (run _ _ _ _ h0 h1 hx)) (by simp only [V.rep]; exact ⟨b, o, hg, hrr, by omega, by simp⟩)
        · rename_i id
          obtain ⟨o, r, ho, h, _⟩ := run_ask h
          split at h
          · rename_i m rows
            cases hmn : m == n with
            | false => simp [hmn, T.run] at h
            | true =>
              simp only [hmn, cond_true, T.run, Option.some.injEq, Prod.mk.injEq] at h
              obtain ⟨rfl, _⟩ := h
              have h0 : 0 ≤ j := hp _ (by simp)
              have h1 : j < (rows.length : Int) := hp _ (by simp)
              simp only [V.rep, Gh.hdr] at ha
              have hok := hm.ok id _ ho
              simp only [Obj.ok, rowsOk] at hok
              obtain ⟨e1, e2, hok⟩ := hok
              rcases hok with ⟨_, _, e3⟩ | ⟨b, xs, ty, fz, e3, e4, _⟩
              · omega
              · rw [e4, e1] at ha
                exact OpRes.pure hm (run_v (run _ _ _ _ h0 h1 ha)) (by simp only [V.rep]; exact ⟨b, e3, by simp⟩)
          · simp [T.run] at h
        · simp [T.run] at h
    · simp [T.run] at h
  · simp [T.run] at h

theorem evIndex_res {P : Program} {base : Nat} {X G : Nat → Prop} {τ : Nat → Gh} {st : Nat → Option E.Obj} {w : World} {ids : List Nat} {ans : List Ans} {t : TypeId} {a i : V} {x y : Value} {e : Eff} {rs : List Nat}
    (hm : Mem base X G τ st w) (ha : a.rep w G τ x) (hi : i.rep w G τ y) (h : (evIndex P ans t a i).run st = some (e, rs)) (hp : ∀ p ∈ e.obs, p) :
    OpRes P base X ids G τ st w (do pure (Next.value (← Instr.index t x y))) e := by
  unfold evIndex at h
  split at h
  · rename_i len el k j hu
    simp only [V.rep, V.repI] at hi
    subst hi
    split at h
    · rename_i n cs hn
      obtain ⟨⟨q, ps⟩, r1, r2, h1, h2, _⟩ := T.run_bind_some h
      cases hlt : Nat.blt q len with
      | false => simp [hlt, T.run] at h2
      | true =>
        simp only [hlt, cond_true] at h2
        have hlt' : q < len := by simpa [Nat.blt_eq] using hlt
        split at h2
        · rename_i v hv
          simp only [T.run, Option.some.injEq, Prod.mk.injEq] at h2
          obtain ⟨rfl, _⟩ := h2
          have hj := litOf_res h1 hp
          subst hj
          simp only [V.rep] at ha
          obtain ⟨xs, rfl, hr⟩ := ha
          obtain ⟨z, h3, h4⟩ := takeCells_part hr hv
          refine OpRes.pure hm (run_v ?_) h4
          simp only [Instr.index, Sem.run_bind, asIntOf, Sem.run_pure, Result.andThen_ok, run_underlying hu]
          rw [if_pos (by constructor <;> omega)]
          simp only [Sem.run_bind, szOf_run hn w, Result.andThen_ok, Int.toNat_natCast, h3]
        · simp [T.run] at h2
    · simp [T.run] at h
  · rename_i k j hu
    simp only [V.rep, V.repI] at hi
    subst hi
    split at h
    · rename_i s
      simp only [T.run, Option.some.injEq, Prod.mk.injEq] at h
      obtain ⟨rfl, _⟩ := h
      have h0 : 0 ≤ j := hp _ (by simp)
      have h1 : j < (s.size : Int) := hp _ (by simp)
      simp only [V.rep, V.repI] at ha
      subst ha
      have hlt : j.toNat < s.size := by omega
      have hget : s[j.toNat]? = some (s.data.getD j.toNat 0) := by
        have : s.data.size = s.size := rfl
        simp [getElem?_def, hlt, Array.getD, ByteArray.getElem_eq_getElem_data, this]
      refine OpRes.pure hm (run_v (x := .int .u8 (s.data.getD j.toNat 0).toNat) ?_) (by simp only [V.rep, V.repI])
      simp only [Instr.index, Sem.run_bind, asIntOf, Sem.run_pure, Result.andThen_ok, run_underlying hu, if_pos h0, hget]
    · simp [T.run] at h
  · simp [T.run] at h

end Go.Proofs.Ytfpdlamjlbpmkaa.E
