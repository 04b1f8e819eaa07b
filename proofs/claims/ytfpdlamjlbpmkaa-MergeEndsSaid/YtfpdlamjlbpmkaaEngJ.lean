/- The engine, part J: lengths, cuts, appends, makes. -/
import Derived.Test.YtfpdlamjlbpmkaaEngI
import Derived.IntWalk
namespace Go.Proofs.Ytfpdlamjlbpmkaa.E
open Go
set_option linter.unusedSimpArgs false

/-! ### Lengths -/

theorem evLen_res {P : Program} {base : Nat} {X G : Nat → Prop} {τ : Nat → Gh} {st : Nat → Option E.Obj} {w : World} {ids : List Nat} {rd : Operand → V} {o : Oper} {v : V} {x : Value} {e : Eff} {rs : List Nat} {s : Sem Next}
    (hm : Mem base X G τ st w) (hv : v.rep w G τ x) (hs : ∀ a n c, x = .slice a n c → s.run P w = .ok (.value (.int .i64 n)) w)
    (hgen : (genOp P rd o).run st = some (e, rs) → OpRes P base X ids G τ st w s e) (h : (evLen P rd o v).run st = some (e, rs)) : OpRes P base X ids G τ st w s e := by
  unfold evLen at h
  split at h
  · simp only [T.run, Option.some.injEq, Prod.mk.injEq] at h
    obtain ⟨rfl, _⟩ := h
    simp only [V.rep, V.repI] at hv
    exact OpRes.pure hm (hs _ _ _ hv) (by simp only [V.rep, V.repI]; rfl)
  · simp only [T.run, Option.some.injEq, Prod.mk.injEq] at h
    obtain ⟨rfl, _⟩ := h
    simp only [V.rep, V.repI] at hv
    obtain ⟨a, cap, hx, _⟩ := hv
    exact OpRes.pure hm (hs _ _ _ hx) (by simp only [V.rep, V.repI])
  · simp only [T.run, Option.some.injEq, Prod.mk.injEq] at h
    obtain ⟨rfl, _⟩ := h
    simp only [V.rep, Gh.part] at hv
    obtain ⟨a, hx, _⟩ := hv
    exact OpRes.pure hm (hs _ _ _ hx) (by simp only [V.rep, V.repI])
  · rename_i id
    obtain ⟨o, r, ho, h, _⟩ := run_ask h
    split at h
    · simp only [T.run, Option.some.injEq, Prod.mk.injEq] at h
      obtain ⟨rfl, _⟩ := h
      simp only [V.rep, Gh.hdr] at hv
      have hok := hm.ok id _ ho
      simp only [Obj.ok, rowsOk] at hok
      rw [hok.1] at hv
      exact OpRes.pure hm (hs _ _ _ hv) (by simp only [V.rep, V.repI])
    · simp [T.run] at h
  · exact hgen h

/-! ### Cuts -/

theorem repRows_cut {w : World} {G : Nat → Prop} {n b o l h : Nat} {rows : List (List V)} (hr : repRows w G n b o rows) : repRows w G n b (o + l * n) ((rows.take h).drop l) := by
  refine repRows_of fun i r hi => ?_
  rw [List.getElem?_drop, List.getElem?_take] at hi
  split at hi
  · obtain ⟨h1, h2⟩ := repRows_get hr _ r hi
    exact ⟨h1, by rwa [show o + l * n + i * n = o + (l + i) * n by rw [Nat.add_mul]; omega]⟩
  · simp at hi

theorem optInt_res {w : World} {G : Nat → Prop} {τ : Nat → Gh} {rd : Operand → V} {ρ : Operand → Value} {d i : Int} {q : Option Operand} (hq : ∀ x, q = some x → (rd x).rep w G τ (ρ x)) (h : optInt d (q.map rd) = some i) :
    (q = none ∧ i = d) ∨ ∃ x k, q = some x ∧ ρ x = .int k i := by
  cases q with
  | none => simp only [Option.map_none, optInt, Option.some.injEq] at h; exact .inl ⟨rfl, h.symm⟩
  | some x =>
    right
    simp only [Option.map_some] at h
    have hr := hq x rfl
    unfold optInt at h
    split at h
    · rename_i hx; simp at hx
    · rename_i k j hx
      simp only [Option.some.injEq] at hx h
      subst h
      rw [hx] at hr
      simp only [V.rep, V.repI] at hr
      exact ⟨x, k, rfl, hr⟩
    · simp at h

theorem run_sliceBound {P : Program} {w : World} {k : IntKind} {i : Int} {y : Nat} {code : BoundsCode} (h0 : 0 ≤ i) (h1 : i ≤ (y : Int)) : (Instr.sliceBound (.int k i) y code).run P w = .ok i.toNat w := by
  simp only [Instr.sliceBound, Sem.run_bind, asIntOf, Sem.run_pure, Result.andThen_ok]
  rw [if_pos ⟨h0, h1⟩]; rfl

theorem run_sliceBounds {P : Program} {w : World} {isSlice : Bool} {len cap : Nat} {ρ : Operand → Value} {lo hi : Option Operand} {l h : Int}
    (hlo : (lo = none ∧ l = 0) ∨ ∃ x k, lo = some x ∧ ρ x = .int k l) (hhi : (hi = none ∧ h = (len : Int)) ∨ ∃ x k, hi = some x ∧ ρ x = .int k h) (h0 : 0 ≤ l) (h1 : l ≤ h) (h2 : h ≤ (len : Int)) (hc : len ≤ cap) :
    (Instr.sliceBounds isSlice len cap (lo.map ρ) (hi.map ρ) none).run P w = .ok (l.toNat, h.toNat, cap) w := by
  have hl : h = (h.toNat : Int) := by omega
  rcases hhi with ⟨rfl, e⟩ | ⟨x, k, rfl, e⟩ <;> rcases hlo with ⟨rfl, e'⟩ | ⟨x', k', rfl, e'⟩
  · subst e' e; simp [Instr.sliceBounds]
  · subst e
    simp only [Option.map_none, Option.map_some, Instr.sliceBounds, Sem.run_bind, Sem.run_pure, Result.andThen_ok, e']
    rw [run_sliceBound h0 h1]; simp
  · subst e'
    simp only [Option.map_none, Option.map_some, Instr.sliceBounds, Sem.run_bind, Sem.run_pure, Result.andThen_ok, e]
    rw [run_sliceBound (by omega) (by omega)]; simp
  · simp only [Option.map_some, Instr.sliceBounds, Sem.run_bind, Sem.run_pure, Result.andThen_ok, e, e']
    rw [run_sliceBound (by omega) (by omega)]
    simp only [Result.andThen_ok]
    rw [run_sliceBound h0 (by omega)]; simp

theorem evSlice_res {P : Program} {base : Nat} {X G : Nat → Prop} {τ : Nat → Gh} {st : Nat → Option E.Obj} {w : World} {ids : List Nat} {rd : Operand → V} {ρ : Operand → Value} {t : TypeId} {v : V} {x : Value} {lo hi : Option Operand} {e : Eff} {rs : List Nat}
    (hm : Mem base X G τ st w) (hv : v.rep w G τ x) (hlo : ∀ y, lo = some y → (rd y).rep w G τ (ρ y)) (hhi : ∀ y, hi = some y → (rd y).rep w G τ (ρ y)) (h : (evSlice P t v (lo.map rd) (hi.map rd)).run st = some (e, rs)) (hp : ∀ p ∈ e.obs, p) :
    OpRes P base X ids G τ st w (do pure (Next.value (← Instr.sliceAt t x (lo.map ρ) (hi.map ρ) none))) e := by
  have core : ∀ {el n : Nat} {rows : List (List V)} {a : Option Addr} {cap : Nat} {l h : Int}, elemOfSlice P t = some (el, n) → x = .slice a rows.length cap → rows.length ≤ cap →
      ((lo = none ∧ l = 0) ∨ ∃ y k, lo = some y ∧ ρ y = .int k l) → ((hi = none ∧ h = (rows.length : Int)) ∨ ∃ y k, hi = some y ∧ ρ y = .int k h) → 0 ≤ l → l ≤ h → h ≤ (rows.length : Int) →
      (Instr.sliceAt t x (lo.map ρ) (hi.map ρ) none).run P w = .ok (.slice (if cap = l.toNat then a else a.map (·.add (l.toNat * n))) (h.toNat - l.toNat) (cap - l.toNat)) w := by
    intro el n rows a cap l h he hx hle hl hh h0 h1 h2
    obtain ⟨hu, hn⟩ := elemOfSlice_spec he
    subst hx
    simp only [Instr.sliceAt, Sem.run_bind, run_underlying hu, Result.andThen_ok, Instr.slice]
    rw [run_sliceBounds hl hh h0 h1 h2 hle]
    simp [szOf_run hn w]
  have rep : ∀ {G' : Nat → Prop} {n : Nat} {rows : List (List V)} {a : Option Addr} {cap : Nat} {l h : Int}, rows.length ≤ cap → (rows = [] ∨ ∃ b o, a = some ⟨b, o, none⟩ ∧ G' b ∧ repRows w G' n b o rows) → 0 ≤ l → l ≤ h → h ≤ (rows.length : Int) →
      (V.sl n ((rows.take h.toNat).drop l.toNat)).rep w G' τ (.slice (if cap = l.toNat then a else a.map (·.add (l.toNat * n))) (h.toNat - l.toNat) (cap - l.toNat)) := by
    intro G' n rows a cap l h hle hr h0 h1 h2
    have hlen : ((rows.take h.toNat).drop l.toNat).length = h.toNat - l.toNat := by simp; omega
    simp only [V.rep, V.repI, hlen]
    refine ⟨_, _, rfl, by omega, ?_⟩
    rcases hr with rfl | ⟨b, o, rfl, hg, hr⟩
    · exact .inl (by simp)
    · by_cases hc : cap = l.toNat
      · exact .inl (by apply List.eq_nil_of_length_eq_zero; rw [hlen]; omega)
      · exact .inr ⟨b, o + l.toNat * n, by rw [if_neg hc]; simp [add_plain], hg, repRows_cut hr⟩
  unfold evSlice at h
  split at h
  · rename_i n rows
    split at h
    · rename_i el m l hh he hl hh'
      cases hmn : m == n with
      | false => simp only [hmn, cond_false, T.run, reduceCtorEq] at h
      | true =>
        simp only [hmn, cond_true, T.run, Option.some.injEq, Prod.mk.injEq] at h
        obtain ⟨rfl, _⟩ := h
        have hmn' : m = n := by simpa using hmn
        subst hmn'
        have p0 : 0 ≤ l := hp _ (by simp)
        have p1 : l ≤ hh := hp _ (by simp)
        have p2 : hh ≤ (rows.length : Int) := hp _ (by simp)
        simp only [V.rep, V.repI] at hv
        obtain ⟨a, cap, hx, hle, hr⟩ := hv
        exact OpRes.pure hm (run_v (core he hx hle (optInt_res hlo hl) (optInt_res hhi hh') p0 p1 p2)) (rep hle hr p0 p1 p2)
    · simp [T.run] at h
  · rename_i id
    obtain ⟨o, r, ho, h, _⟩ := run_ask h
    split at h
    · rename_i n rows
      split at h
      · rename_i el m l hh he hl hh'
        cases hmn : m == n with
        | false => simp only [hmn, cond_false, T.run, reduceCtorEq] at h
        | true =>
          simp only [hmn, cond_true, T.run, Option.some.injEq, Prod.mk.injEq] at h
          obtain ⟨rfl, _⟩ := h
          have hmn' : m = n := by simpa using hmn
          subst hmn'
          have p0 : 0 ≤ l := hp _ (by simp)
          have p1 : l ≤ hh := hp _ (by simp)
          have p2 : hh ≤ (rows.length : Int) := hp _ (by simp)
          simp only [V.rep, Gh.hdr] at hv
          have hg := repI_given hm (l := [id]) (by simp) ho
          simp only [V.repI, Gh.hdr] at hg
          obtain ⟨a, cap, hx, hle, hr⟩ := hg
          refine ⟨_, w, giveG G τ st [id], τ, .inl (run_v (core he (hv.trans hx) hle (optInt_res hlo hl) (optInt_res hhi hh') p0 p1 p2)), rep hle hr p0 p1 p2, ?_, Ext.give hm [id], fun _ _ => rfl⟩
          exact Mem.give hm [id]
      · simp [T.run] at h
    · simp [T.run] at h
  · split at h
    · rename_i el m l hh he hl hh'
      simp only [T.run, Option.some.injEq, Prod.mk.injEq] at h
      obtain ⟨rfl, _⟩ := h
      have p0 : 0 ≤ l := hp _ (by simp)
      have p1 : l ≤ hh := hp _ (by simp)
      have p2 : hh ≤ ((([] : List (List V)).length : Nat) : Int) := hp _ (List.mem_cons_of_mem _ (List.mem_cons_of_mem _ (List.mem_cons_self ..)))
      simp only [V.rep, V.repI] at hv
      have k := core (rows := []) (a := none) (cap := 0) he hv (Nat.le_refl _) (optInt_res hlo hl) (optInt_res hhi hh') p0 p1 p2
      simp only [List.length_nil] at p2
      have e1 : l = 0 := by omega
      have e2 : hh = 0 := by omega
      subst e1 e2
      exact OpRes.pure hm (run_v (x := .slice none 0 0) (by simpa using k)) (by simp only [V.rep, V.repI])
    · simp [T.run] at h
  · split at h
    · rename_i s l hu hl _ _ _
      split at h
      · rename_i hh hh'
        simp only [T.run, Option.some.injEq, Prod.mk.injEq] at h
        obtain ⟨rfl, _⟩ := h
        have p0 : 0 ≤ l := hp _ (by simp)
        have p1 : l ≤ hh := hp _ (by simp)
        have p2 : hh ≤ (s.size : Int) := hp _ (by simp)
        simp only [V.rep, V.repI] at hv
        subst hv
        refine OpRes.pure hm (run_v (x := .string (s.extract l.toNat hh.toNat)) ?_) (by simp only [V.rep, V.repI])
        simp only [Instr.sliceAt, Sem.run_bind, run_underlying hu, Result.andThen_ok, Instr.slice]
        simp only [Option.isSome_none, Bool.false_eq_true, if_false]
        rw [Sem.run_bind, run_sliceBounds (optInt_res hlo hl) (optInt_res hhi hh') p0 p1 p2 (Nat.le_refl _)]
        simp
      · simp [T.run] at h
    · simp [T.run] at h

/-! ### Appends -/

/-- One slice takes another one's block over. -/
theorem Mem.move {base : Nat} {X G : Nat → Prop} {τ : Nat → Gh} {st : Nat → Option E.Obj} {w w' : World} {ids : List Nat} {id site : Nat} {g : Gh} {o o' : E.Obj}
    (hm : Mem base X G τ st w) (hi : st id = some o) (hc : Closed ids st) (hs : site ∉ ids) (hg : g.blk = (τ id).blk) (hsz : w'.heap.size = w.heap.size) (hne : ∀ k, (∀ b, (τ id).blk = some b → k ≠ b) → w'.heap[k]? = w.heap[k]?)
    (hok : o'.ok w' G (setGh τ site g) site) : Mem base X G (setGh τ site g) (putSt st [(id, none), (site, some o')]) w' := by
  have hst : ∀ i p, putSt st [(id, none), (site, some o')] i = some p → (i = site ∧ p = o') ∨ (i ≠ site ∧ i ≠ id ∧ st i = some p) := by
    intro i p h
    simp only [putSt] at h
    by_cases h1 : i = site
    · subst h1; simp at h; exact .inl ⟨rfl, h.symm⟩
    · have h1' : (i == site) = false := by simpa using h1
      simp only [h1', cond_false] at h
      by_cases h2 : i = id
      · subst h2; simp at h
      · have h2' : (i == id) = false := by simpa using h2
        simp only [h2', cond_false] at h
        exact .inr ⟨h1, h2, h⟩
  have hother : ∀ i p b, i ≠ id → st i = some p → (τ i).blk = some b → ∀ b', (τ id).blk = some b' → b ≠ b' := fun i p b hne' h hb b' hb' e => hne' (hm.inj i id p o b h hi hb (e ▸ hb'))
  have hnG : ∀ b, (τ id).blk = some b → ¬ G b := fun b hb => (Obj.ok_blk (hm.ok id o hi) hb).1
  refine ⟨fun k hk => by rw [hsz]; exact hm.gold k hk, fun i p h => ?_, fun i p b h hb => ?_, fun i j p q b h1 h2 hb1 hb2 => ?_⟩
  · rcases hst i p h with ⟨e, e'⟩ | ⟨n1, n2, h⟩
    · rw [e, e']; exact hok
    · exact Obj.ok_mono (fun b hb => ⟨hb, hne b fun b' hb' e => hnG b' hb' (e ▸ hb)⟩) (fun b hb => ⟨hne b (hother i p b n2 h hb), fun h => h⟩) (setGh_ne n1)
        (fun j hj => setGh_ne fun e => hs (e ▸ (hc i p h).2 j hj)) (hm.ok i p h)
  · rcases hst i p h with ⟨e, _⟩ | ⟨n1, n2, h⟩
    · rw [e, setGh_same, hg] at hb; exact hm.own id o b hi hb
    · rw [setGh_ne n1] at hb; exact hm.own i p b h hb
  · rcases hst i p h1 with ⟨e1, _⟩ | ⟨n1, n2, k1⟩ <;> rcases hst j q h2 with ⟨e2, _⟩ | ⟨m1, m2, k2⟩
    · rw [e1, e2]
    · rw [e1, setGh_same, hg] at hb1; rw [setGh_ne m1] at hb2
      exact absurd rfl (hother j q b m2 k2 hb2 b hb1)
    · rw [e2, setGh_same, hg] at hb2; rw [setGh_ne n1] at hb1
      exact absurd rfl (hother i p b n2 k1 hb1 b hb2)
    · rw [setGh_ne n1] at hb1; rw [setGh_ne m1] at hb2; exact hm.inj i j p q b k1 k2 hb1 hb2

theorem lenOf_run (P : Program) (w : World) (a : Option Addr) (n c : Nat) : (Builtin.lenOf (.slice a n c)).run P w = .ok n w := rfl

/-- What is appended, as it is read. -/
theorem rowsAt_res {P : Program} {base : Nat} {X G : Nat → Prop} {τ : Nat → Gh} {st : Nat → Option E.Obj} {w : World} {n : Nat} {v : V} {x : Value} {new : List (List V)} {rs : List Nat}
    (hm : Mem base X G τ st w) (hv : v.rep w G τ x) (h : (rowsAt n v).run st = some (new, rs)) :
    ∃ a c, x = .slice a new.length c ∧ ∃ xs : List Value, (∀ w1 : World, w1.heap = w.heap → (Builtin.firstCells n new.length x).run P w1 = .ok xs.toArray w1) ∧ repIL w G new.flatten xs ∧ xs.length = new.length * n ∧ ∀ r ∈ new, r.length = n := by
  have core : ∀ {rows : List (List V)} {b o c : Nat}, x = .slice (some ⟨b, o, none⟩) rows.length c → repRows w G n b o rows →
      ∃ a c, x = .slice a rows.length c ∧ ∃ xs : List Value, (∀ w1 : World, w1.heap = w.heap → (Builtin.firstCells n rows.length x).run P w1 = .ok xs.toArray w1) ∧ repIL w G rows.flatten xs ∧ xs.length = rows.length * n ∧ ∀ r ∈ rows, r.length = n := by
    intro rows b o c hx hr
    obtain ⟨xs, h1, h2, h3⟩ := repRows_flat hr
    refine ⟨_, _, hx, xs, fun w1 hw1 => ?_, h1, h2, repRows_len hr⟩
    subst hx
    simp only [Builtin.firstCells]
    rw [← h2]
    exact run_loadCells_list w1 _ xs fun j y hj => by rw [add_plain]; have := h3 j y hj; simp only [World.cell?, hw1] at this ⊢; exact this
  unfold rowsAt at h
  split at h
  · simp only [T.run, Option.some.injEq, Prod.mk.injEq] at h
    obtain ⟨rfl, _⟩ := h
    simp only [V.rep, V.repI] at hv
    subst hv
    exact ⟨none, 0, rfl, [], fun _ _ => rfl, by simp [repIL], by simp, by simp⟩
  · rename_i a c
    simp only [T.run, Option.some.injEq, Prod.mk.injEq] at h
    obtain ⟨rfl, _⟩ := h
    simp only [V.rep, V.repI] at hv
    subst hv
    refine ⟨a, c, rfl, [], fun w1 _ => ?_, by simp [repIL], by simp, by simp⟩
    cases a with
    | none => rfl
    | some A => simp only [Builtin.firstCells, List.length_nil, Nat.zero_mul]; rfl
  · rename_i m rows
    cases hmn : m == n with
    | false => simp only [hmn, cond_false, T.run, reduceCtorEq] at h
    | true =>
      simp only [hmn, cond_true, T.run, Option.some.injEq, Prod.mk.injEq] at h
      obtain ⟨rfl, _⟩ := h
      have hmn' : m = n := by simpa using hmn
      subst hmn'
      simp only [V.rep, V.repI] at hv
      obtain ⟨a, c, hx, hle, hr⟩ := hv
      rcases hr with rfl | ⟨b, o, rfl, _, hr⟩
      · refine ⟨_, _, hx, [], fun w1 _ => ?_, by simp [repIL], by simp, by simp⟩
        subst hx
        cases a with
        | none => rfl
        | some a => simp only [Builtin.firstCells, List.length_nil, Nat.zero_mul]; rfl
      · exact core hx hr
  · rename_i id
    obtain ⟨o, r, ho, h, _⟩ := run_ask h
    split at h
    · rename_i m rows
      cases hmn : m == n with
      | false => simp only [hmn, cond_false, T.run, reduceCtorEq] at h
      | true =>
        simp only [hmn, cond_true, T.run, Option.some.injEq, Prod.mk.injEq] at h
        obtain ⟨rfl, _⟩ := h
        have hmn' : m = n := by simpa using hmn
        subst hmn'
        simp only [V.rep, Gh.hdr] at hv
        have hok := hm.ok id _ ho
        simp only [Obj.ok, rowsOk] at hok
        obtain ⟨h1, h2, h3⟩ := hok
        rw [h1] at hv
        rcases h3 with ⟨_, e2, e3⟩ | ⟨b, xs, t, fz, e1, e2, _, _, _, _, e7⟩
        · have hr0 : rows = [] := by apply List.eq_nil_of_length_eq_zero; omega
          subst hr0
          rw [e2] at hv
          exact ⟨none, _, hv, [], fun _ _ => by subst hv; rfl, by simp [repIL], by simp, by simp⟩
        · rw [e2] at hv
          exact core hv e7
    · simp [T.run] at h
  · simp [T.run] at h

theorem strRows_flat {w : World} {G : Nat → Prop} : ∀ l : List UInt8, repIL w G (l.map fun b => intRow .u8 b.toNat).flatten (l.map fun b => .int .u8 b.toNat)
  | [] => by simp [repIL]
  | b :: l => by simp only [List.map_cons, List.flatten_cons, intRow, List.cons_append, List.nil_append, repIL]; exact ⟨⟨by simp only [V.repI], rfl⟩, strRows_flat l⟩

theorem grow_bound {need cap bytes : Nat} (h : need * bytes ≤ 2 ^ 47) (hc : cap < need) : ¬ Builtin.nextslicecap need cap * bytes > 2 ^ 48 := by
  have key : Builtin.nextslicecap need cap ≤ 2 * need := by
    unfold Builtin.nextslicecap
    split
    · omega
    · split
      · omega
      · rename_i h1 h2
        have : ∀ rounds c, c ≤ 2 * need → 256 ≤ c → Builtin.growBy need rounds c ≤ 2 * need := by
          intro rounds
          induction rounds with
          | zero => intro c hc _; simpa [Builtin.growBy] using hc
          | succ r ih =>
            intro c hc h256
            simp only [Builtin.growBy]
            split
            · exact hc
            · exact ih _ (by omega) (by omega)
        exact this 4 cap (by omega) (by omega)
  have : Builtin.nextslicecap need cap * bytes ≤ 2 * need * bytes := Nat.mul_le_mul_right _ key
  rw [Nat.mul_assoc] at this
  omega

theorem bytesOf_run {P : Program} {t : TypeId} {n : Nat} (h : szOf P t = some n) (w : World) : ∃ i, (typeInfo t).run P w = .ok i w ∧ i.bytes = bytesOf P t := by
  unfold szOf at h
  split at h
  · rename_i i hi
    exact ⟨i, by simp [typeInfo, hi], by simp [bytesOf, hi]⟩
  · simp at h

theorem zeroCells_size (z : Array Value) (n : Nat) : (Builtin.zeroCells z n).size = n * z.size := by simp [Builtin.zeroCells]

/-- What append answers: into the block that is there, or into a new one. -/
theorem run_append {P : Program} {w : World} {sT uT el ty : TypeId} {n len cap k : Nat} {base : Option Addr} {x : Value} {old new : List Value} {z : List V}
    (hu : P.underlying sT = some (.slice el)) (hn : szOf P el = some n) (hz : zeroOf P el = some z) (hzl : z.length = n) (hd : P.underlying uT = some .string ∨ ∃ e, P.underlying uT = some (.slice e)) (hb1 : 1 ≤ bytesOf P el)
    (hlen : (Builtin.lenOf x).run P w = .ok k w) (hnew : ∀ w1 : World, w1.heap = w.heap → (Builtin.firstCells n k x).run P w1 = .ok new.toArray w1) (hold : ∀ w1 : World, w1.heap = w.heap → (Builtin.firstCells n len (.slice base len cap)).run P w1 = .ok old.toArray w1)
    (hol : old.length = len * n) (hnl : new.length = k * n) (hsz : (len + k) * bytesOf P el ≤ 2 ^ 47) :
    (len + k ≤ cap ∧ ∀ w', (∀ a, base = some a → (storeCells (a.add (len * n)) new).run P w = .ok () w') → (base = none → w' = w) →
      (Builtin.append_ #[sT, uT] ty #[.slice base len cap, x]).run P w = .ok (.slice base (len + k) cap) w') ∨
    (cap < len + k ∧ ∃ (c : Array Value) (newCap : Nat), len + k ≤ newCap ∧ c.size = newCap * n ∧ c.toList.take ((len + k) * n) = old ++ new ∧
      (Builtin.append_ #[sT, uT] ty #[.slice base len cap, x]).run P w = .ok (.slice (some ⟨w.heap.size, 0, none⟩) (len + k) newCap) (w.drew.alloc (.cells c el (0, 0)))) := by
  obtain ⟨i, hi, hib⟩ := bytesOf_run hn w
  obtain ⟨z0, hz0, hz0', _⟩ := zeroOf_run hz w
  have hz1 : z0.cells.size = n := by rw [hz0'] at hzl; simpa using hzl
  have hargs : (#[sT, uT][0]?, (#[Value.slice base len cap, x] : Array Value)[0]?, (#[Value.slice base len cap, x] : Array Value)[1]?) = (some sT, some (Value.slice base len cap), some x) := rfl
  by_cases hc : len + k ≤ cap
  · left
    refine ⟨hc, fun w' hs hnone => ?_⟩
    simp only [Builtin.append_, hargs, Sem.run_bind, run_underlying hu, Result.andThen_ok, szOf_run hn w]
    rcases hd with hd | ⟨_, hd⟩
    all_goals
      simp only [show (#[sT, uT] : Array TypeId)[1]? = some uT from rfl, Sem.run_bind, run_underlying hd, Sem.run_pure, Result.andThen_ok, Bool.false_eq_true, if_false, hlen, Bool.not_false, if_true, if_pos hc, hnew w rfl]
      cases base with
      | none => simp only [hnone rfl]; rfl
      | some a => simp only [Sem.run_bind, hs a rfl, Result.andThen_ok]; rfl
  · right
    have hc' : cap < len + k := by omega
    refine ⟨hc', ?_⟩
    have hgb := grow_bound hsz hc'
    refine ⟨old.toArray ++ new.toArray ++ Builtin.zeroCells z0.cells ((Question.appendCap (len + k) cap el).cut (w.tape w.drawn (.appendCap (len + k) cap el)) - (len + k)), (Question.appendCap (len + k) cap el).cut (w.tape w.drawn (.appendCap (len + k) cap el)), ?_, ?_, ?_, ?_⟩
    · show len + k ≤ len + k + _; omega
    · have hge : len + k ≤ (Question.appendCap (len + k) cap el).cut (w.tape w.drawn (.appendCap (len + k) cap el)) := by show len + k ≤ len + k + _; omega
      generalize (Question.appendCap (len + k) cap el).cut (w.tape w.drawn (.appendCap (len + k) cap el)) = q at hge
      simp only [Array.size_append, List.size_toArray, zeroCells_size, hz1, hol, hnl]
      rw [← Nat.add_mul, ← Nat.add_mul]; congr 1; omega
    · simp only [Array.toList_append]
      rw [List.take_left' (by simp [hol, hnl, Nat.add_mul])]
    · have hi' : (typeInfo el).run P w.drew = .ok i w.drew := by
        have : P.info? el = some i := by
          unfold typeInfo at hi
          simp only [Sem.run_bind, run_program, Result.andThen_ok] at hi
          cases hq : P.info? el with
          | none => simp [hq] at hi
          | some j => simp only [hq, Sem.run_pure, Result.ok.injEq] at hi; rw [hi.1]
        simp [typeInfo, this]
      obtain ⟨z1, hz1', _, _⟩ := zeroOf_run hz w.drew
      have hzz : (zeroValue el).run P w.drew = .ok z0 w.drew := by
        have h3 := hz0
        have h4 := hz1'
        unfold zeroValue at h3 h4 ⊢
        simp only [Sem.run_bind, hi, hi', Result.andThen_ok] at h3 h4 ⊢
        cases hq : i.zero with
        | none => simp [hq] at h3
        | some j => simp only [hq, Sem.run_pure, Result.ok.injEq] at h3 ⊢; exact ⟨h3.1, trivial⟩
      simp only [Builtin.append_, hargs, Sem.run_bind, run_underlying hu, Result.andThen_ok, szOf_run hn w]
      rcases hd with hd | ⟨_, hd⟩
      all_goals
        simp only [show (#[sT, uT] : Array TypeId)[1]? = some uT from rfl, Sem.run_bind, run_underlying hd, Sem.run_pure, Result.andThen_ok, Bool.false_eq_true, if_false, hlen, Bool.not_false, if_true, if_neg hc, hi, hib, false_or]
        rw [if_neg (by rintro ⟨_, h⟩; omega)]
        simp only [Sem.run_bind, hi, Result.andThen_ok, hib, if_neg hgb]
        simp only [run_choose_drew, Question.forced, Bool.false_eq_true, if_false, Result.andThen_ok, hi', hib, run_askRoom, Sem.run_bind, hold w.drew rfl, hnew w.drew rfl, hzz, newRow, run_newObj_alloc, Sem.run_pure]
        rfl

end Go.Proofs.Ytfpdlamjlbpmkaa.E
