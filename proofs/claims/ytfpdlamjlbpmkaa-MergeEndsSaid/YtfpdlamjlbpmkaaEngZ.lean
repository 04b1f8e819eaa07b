/- The engine, part Z (behind M): parts of slices that are owned. -/
import Derived.Test.YtfpdlamjlbpmkaaEngM
namespace Go.Proofs.Ytfpdlamjlbpmkaa.E
open Go
set_option linter.unusedSimpArgs false

theorem repRows_append {w : World} {G : Nat → Prop} {n b : Nat} : ∀ {r1 r2 : List (List V)} {o : Nat}, repRows w G n b o (r1 ++ r2) ↔ repRows w G n b o r1 ∧ repRows w G n b (o + r1.length * n) r2
  | [], r2, o => by simp [repRows]
  | r :: r1, r2, o => by
    have := repRows_append (w := w) (G := G) (n := n) (b := b) (r1 := r1) (r2 := r2) (o := o + n)
    simp only [List.cons_append, repRows, List.length_cons, this, and_assoc, Nat.add_mul, Nat.one_mul]
    rw [show o + n + r1.length * n = o + (r1.length * n + n) by omega]

theorem repRows_eq {w w' : World} {G G' : Nat → Prop} (hG : ∀ b, G b → G' b ∧ w'.heap[b]? = w.heap[b]?) {n b : Nat} : ∀ {rows : List (List V)} {o : Nat}, (∀ i, i < rows.length * n → w'.cell? ⟨b, o + i, none⟩ = w.cell? ⟨b, o + i, none⟩) → repRows w G n b o rows → repRows w' G' n b o rows
  | [], _, _, _ => by simp only [repRows]
  | r :: rs, o, hc, h => by
    simp only [repRows] at h ⊢
    refine ⟨h.1, repCells_eq hG (fun i hi => hc i (by simp only [List.length_cons, Nat.add_mul, Nat.one_mul]; rw [← h.1]; omega)) h.2.1, repRows_eq hG (fun i hi => ?_) h.2.2⟩
    have := hc (n + i) (by simp only [List.length_cons, Nat.add_mul, Nat.one_mul]; omega)
    rwa [show o + (n + i) = o + n + i by omega] at this

theorem over_len (rows : List (List V)) (a : Nat) (new : List (List V)) (h : a ≤ rows.length) : (over rows a new).length = max rows.length (a + new.length) := by
  simp only [over, List.length_append, List.length_take, List.length_drop]; omega

theorem over_nil (rows : List (List V)) (a : Nat) : over rows a [] = rows := by simp [over]

theorem parts_ok {w : World} {G : Nat → Prop} {τ : Nat → Gh} {id n lim : Nat} {o : E.Obj} {rows : List (List V)} (hok : o.ok w G τ id) (hp : o.parts = some (n, rows, lim)) : rowsOk w G (τ id) n rows ∧ rows.length ≤ lim ∧ lim ≤ (τ id).cap := by
  cases o with
  | box cells => simp [Obj.parts] at hp
  | arr m r =>
    simp only [Obj.parts, Option.some.injEq, Prod.mk.injEq] at hp
    obtain ⟨rfl, rfl, rfl⟩ := hp
    simp only [Obj.ok] at hok
    exact ⟨hok.2, Nat.le_refl _, hok.2.1⟩
  | blk m r c =>
    simp only [Obj.parts, Option.some.injEq, Prod.mk.injEq] at hp
    obtain ⟨rfl, rfl, rfl⟩ := hp
    simp only [Obj.ok] at hok
    exact ⟨hok.2, by have := hok.2.1; omega, by omega⟩

theorem fill_ok {w : World} {G : Nat → Prop} {τ : Nat → Gh} {id n lim : Nat} {o : E.Obj} {rows rows' : List (List V)} (hp : o.parts = some (n, rows, lim)) {w0 : World} {G0 : Nat → Prop} (hok0 : o.ok w0 G0 τ id) (h1 : rowsOk w G (τ id) n rows')
    (h2 : rows.length ≤ rows'.length) (h3 : rows'.length ≤ lim) : (o.fill rows').ok w G τ id := by
  cases o with
  | box cells => simp [Obj.parts] at hp
  | arr m r =>
    simp only [Obj.parts, Option.some.injEq, Prod.mk.injEq] at hp
    obtain ⟨rfl, rfl, rfl⟩ := hp
    simp only [Obj.ok, Obj.fill] at hok0 ⊢
    exact ⟨by omega, h1⟩
  | blk m r c =>
    simp only [Obj.parts, Option.some.injEq, Prod.mk.injEq] at hp
    obtain ⟨rfl, rfl, rfl⟩ := hp
    simp only [Obj.ok, Obj.fill] at hok0 ⊢
    exact ⟨hok0.1, h1⟩

theorem fill_same {o : E.Obj} {n lim : Nat} {rows : List (List V)} (hp : o.parts = some (n, rows, lim)) : o.fill rows = o := by
  cases o with
  | box cells => rfl
  | arr m r =>
    simp only [Obj.parts, Option.some.injEq, Prod.mk.injEq] at hp
    obtain ⟨rfl, rfl, rfl⟩ := hp
    rfl
  | blk m r c =>
    simp only [Obj.parts, Option.some.injEq, Prod.mk.injEq] at hp
    obtain ⟨rfl, rfl, rfl⟩ := hp
    rfl

theorem putSt_same {st : Nat → Option E.Obj} {id : Nat} {o : E.Obj} (h : st id = some o) : putSt st [(id, some o)] = st := by
  funext j
  simp only [putSt]
  by_cases hj : j = id
  · subst hj; simp [h]
  · have : (j == id) = false := by simpa using hj
    simp [this]

/-- Rows are written into an object, from one of its rows on. -/
theorem write_part {base : Nat} {X G : Nat → Prop} {τ : Nat → Gh} {st : Nat → Option E.Obj} {w : World} {id n lim a : Nat} {o : E.Obj} {rows new : List (List V)} {xs : List Value} (P : Program)
    (hm : Mem base X G τ st w) (ho : st id = some o) (hp : o.parts = some (n, rows, lim)) (hl : ∀ r ∈ new, r.length = n) (hx : repIL w G new.flatten xs) (ha : a ≤ rows.length) (hlim : a + new.length ≤ lim) :
    ∃ w', (∀ A : Addr, (new = [] ∨ ∃ b, (τ id).blk = some b ∧ A = ⟨b, a * n, none⟩) → (storeCells A xs).run P w = .ok () w') ∧ (new = [] → w' = w) ∧ ((τ id).cap = 0 → w' = w) ∧ Mem base X G τ (putSt st [(id, some (o.fill (over rows a new)))]) w' ∧ Ext base X G w G w' := by
  have hok := hm.ok id o ho
  obtain ⟨hro, h1, h2⟩ := parts_ok hok hp
  have hxl : xs.length = new.length * n := by rw [← repIL_length hx]; exact flat_len new hl
  by_cases hn : new = []
  · subst hn
    have hx0 : xs = [] := by apply List.eq_nil_of_length_eq_zero; simpa using hxl
    subst hx0
    refine ⟨w, fun A _ => rfl, fun _ => rfl, fun _ => rfl, ?_, Ext.refl _ _ _ _⟩
    rw [over_nil, fill_same hp, putSt_same ho]
    exact hm
  · have hnl : 0 < new.length := List.length_pos_iff.2 hn
    obtain ⟨h3, h4⟩ := hro
    rcases h4 with ⟨_, _, e3⟩ | ⟨b, ys, t, fz, e1, e2, e3, e4, e5, e6, e7⟩
    · omega
    · have hmul : (a + new.length) * n ≤ (τ id).cap * n := Nat.mul_le_mul_right n (by omega)
      have hfit : a * n + xs.length ≤ ys.size := by rw [e6, hxl]; rw [Nat.add_mul] at hmul; exact hmul
      have h1x := repIL_one hx
      have hstore := run_storeCells_free P b (a * n) t fz xs 0 ys w e3 (e5.le (by omega)) (by simpa using hfit) h1x
      have hsp : (ys.toList.take (a * n + 0) ++ xs ++ ys.toList.drop (a * n + 0 + xs.length)).toArray = splicedA ys (a * n) xs := by simp [splicedA]
      rw [hsp] at hstore
      have hG' : ∀ j, G j → G j ∧ (w.setRow b (splicedA ys (a * n) xs)).heap[j]? = w.heap[j]? := fun j hj => ⟨hj, setRow_other w b j _ (fun e => e4 (e ▸ hj))⟩
      refine ⟨w.setRow b (splicedA ys (a * n) xs), fun A hA => ?_, fun h => absurd h hn, fun h => by omega, ?_, Ext.setRow (hm.own id _ b ho e1) e4⟩
      · rcases hA with hA | ⟨b', hb', rfl⟩
        · exact absurd hA hn
        · rw [e1] at hb'; cases hb'; exact hstore
      · refine Mem.set hm ho e1 (by simp) (fun j hj => setRow_other w b j _ hj) ?_
        have hlen := over_len rows a new ha
        refine fill_ok hp hok ⟨by omega, .inr ⟨b, _, t, fz, e1, e2, setRow_heap w b ys _ t fz e3, e4, by rw [splicedA_size hfit]; exact e5, by rw [splicedA_size hfit]; exact e6, ?_⟩⟩ (by omega) (by omega)
        have hcell : ∀ j, (w.setRow b (splicedA ys (a * n) xs)).cell? ⟨b, j, none⟩ = if a * n ≤ j ∧ j < a * n + xs.length then xs[j - a * n]? else w.cell? ⟨b, j, none⟩ := by
          intro j
          rw [cell_setRow_same w b j ys _ t fz e3, splicedA_get hfit, cell_of_heap e3]
        have ht : (rows.take a).length = a := by simp; omega
        have k0 : repRows w G n b 0 (rows.take a) := by have := repRows_cut (l := 0) (h := a) e7; simpa using this
        unfold over
        rw [repRows_append, repRows_append, List.length_append, ht]
        refine ⟨⟨repRows_eq hG' (fun i hi => ?_) k0, ?_⟩, ?_⟩
        · rw [ht] at hi
          rw [hcell, if_neg (by omega)]
        · refine repRows_content _ hl (repIL_mono hG' hx) (fun i x hi => ?_)
          have : i < xs.length := (List.getElem?_eq_some_iff.1 hi).1
          rw [hcell, if_pos ⟨by omega, by omega⟩, show 0 + a * n + i - a * n = i by omega]; exact hi
        · by_cases hd : a + new.length ≤ rows.length
          · have k1 := repRows_cut (l := a + new.length) (h := rows.length) e7
            rw [List.take_length] at k1
            refine repRows_eq hG' (fun i hi => ?_) k1
            rw [hcell, if_neg (by rw [hxl, ← Nat.add_mul]; omega)]
          · rw [List.drop_of_length_le (by omega)]
            simp only [repRows]

/-- What a part has to give, as it is read. -/
theorem part_read {P : Program} {base : Nat} {X G : Nat → Prop} {τ : Nat → Gh} {st : Nat → Option E.Obj} {w : World} {id n lim a b k : Nat} {o : E.Obj} {rows : List (List V)} {x : Value}
    (hm : Mem base X G τ st w) (ho : st id = some o) (hp : o.parts = some (n, rows, lim)) (hx : (τ id).part n a b x) (hk : a + k ≤ rows.length) :
    ∃ xs : List Value, (∀ w1 : World, w1.heap = w.heap → (Builtin.firstCells n k x).run P w1 = .ok xs.toArray w1) ∧ repIL w G ((rows.drop a).take k).flatten xs ∧ ((rows.drop a).take k).length = k ∧ ∀ r ∈ (rows.drop a).take k, r.length = n := by
  obtain ⟨⟨h3, h4⟩, h1, h2⟩ := parts_ok (hm.ok id o ho) hp
  have hlen : ((rows.drop a).take k).length = k := by simp; omega
  obtain ⟨ad, rfl, g1, g2, g3⟩ := hx
  by_cases hk0 : k = 0
  · subst hk0
    refine ⟨[], fun w1 _ => ?_, by simp [repIL], by simp, by simp⟩
    cases ad with
    | none => rfl
    | some A => simp only [Builtin.firstCells, Nat.zero_mul]; rfl
  · rcases h4 with ⟨_, _, e3⟩ | ⟨bb, ys, t, fz, e1, e2, e3, e4, e5, e6, e7⟩
    · omega
    · have g4 : ad = some ⟨bb, a * n, none⟩ := by
        rcases g3 with g3 | g3
        · rw [g3, e2]; simp [add_plain]
        · omega
      subst g4
      have k1 := repRows_cut (l := a) (h := a + k) e7
      have he : (rows.take (a + k)).drop a = (rows.drop a).take k := by rw [List.drop_take]; congr 1; omega
      rw [he, Nat.zero_add] at k1
      obtain ⟨xs, q1, q2, q3⟩ := repRows_flat k1
      refine ⟨xs, fun w1 hw1 => ?_, q1, hlen, repRows_len k1⟩
      simp only [Builtin.firstCells]
      rw [hlen] at q2
      rw [← q2]
      exact run_loadCells_list w1 _ xs fun j y hj => by rw [add_plain]; have := q3 j y hj; simp only [World.cell?, hw1] at this ⊢; exact this

theorem run_sliceBounds2 {P : Program} {w : World} {isSlice : Bool} {len cap : Nat} {ρ : Operand → Value} {lo hi : Option Operand} {l h : Int}
    (hlo : (lo = none ∧ l = 0) ∨ ∃ x k, lo = some x ∧ ρ x = .int k l) (hhi : (hi = none ∧ h = (len : Int)) ∨ ∃ x k, hi = some x ∧ ρ x = .int k h) (h0 : 0 ≤ l) (h1 : l ≤ h) (h2 : h ≤ (cap : Int)) :
    (Instr.sliceBounds isSlice len cap (lo.map ρ) (hi.map ρ) none).run P w = .ok (l.toNat, h.toNat, cap) w := by
  have hl : h = (h.toNat : Int) := by omega
  rcases hhi with ⟨rfl, e⟩ | ⟨x, k, rfl, e⟩ <;> rcases hlo with ⟨rfl, e'⟩ | ⟨x', k', rfl, e'⟩
  · subst e' e; simp [Instr.sliceBounds]
  · subst e
    simp only [Option.map_none, Option.map_some, Instr.sliceBounds, Sem.run_bind, Sem.run_pure, Result.andThen_ok, e']
    rw [run_sliceBound h0 h1]; simp
  · subst e'
    simp only [Option.map_none, Option.map_some, Instr.sliceBounds, Sem.run_bind, Sem.run_pure, Result.andThen_ok, e]
    rw [run_sliceBound (by omega) (by omega)]; simp
  · simp only [Option.map_none, Option.map_some, Instr.sliceBounds, Sem.run_bind, Sem.run_pure, Result.andThen_ok, e, e']
    rw [run_sliceBound (by omega) (by omega)]
    simp only [Result.andThen_ok]
    rw [run_sliceBound h0 (by omega)]; simp

theorem run_sliceBounds3 {P : Program} {w : World} {isSlice : Bool} {len cap : Nat} {ρ : Operand → Value} {lo : Option Operand} {y z : Operand} {l h m : Int} {k k2 : IntKind}
    (hlo : (lo = none ∧ l = 0) ∨ ∃ x k, lo = some x ∧ ρ x = .int k l) (hhi : ρ y = .int k h) (hm : ρ z = .int k2 m) (h0 : 0 ≤ l) (h1 : l ≤ h) (h2 : h ≤ m) (h3 : m ≤ (cap : Int)) :
    (Instr.sliceBounds isSlice len cap (lo.map ρ) (some (ρ y)) (some (ρ z))).run P w = .ok (l.toNat, h.toNat, m.toNat) w := by
  have hl : h = (h.toNat : Int) := by omega
  have hm' : m = (m.toNat : Int) := by omega
  rcases hlo with ⟨rfl, e'⟩ | ⟨x', k', rfl, e'⟩
  · subst e'
    simp only [Option.map_none, Option.map_some, Instr.sliceBounds, Sem.run_bind, Sem.run_pure, Result.andThen_ok, hhi, hm]
    rw [run_sliceBound (by omega) h3]
    simp only [Result.andThen_ok]
    rw [run_sliceBound (by omega) (by omega)]; simp
  · simp only [Option.map_none, Option.map_some, Instr.sliceBounds, Sem.run_bind, Sem.run_pure, Result.andThen_ok, hhi, hm, e']
    rw [run_sliceBound (by omega) h3]
    simp only [Result.andThen_ok]
    rw [run_sliceBound (by omega) (by omega)]
    simp only [Result.andThen_ok]
    rw [run_sliceBound h0 (by omega)]; simp

/-- A cut of a slice, where it stays owned. -/
theorem cut_res {P : Program} {base : Nat} {X G : Nat → Prop} {τ : Nat → Gh} {st : Nat → Option E.Obj} {w : World} {ids : List Nat} {rd : Operand → V} {ρ : Operand → Value} {t el : TypeId} {id n a b : Nat} {x : Value} {lo hi : Option Operand} {l h : Int} {obs : List Prop}
    (hm : Mem base X G τ st w) (hv : (τ id).part n a b x) (hlo : ∀ y, lo = some y → (rd y).rep w G τ (ρ y)) (hhi : ∀ y, hi = some y → (rd y).rep w G τ (ρ y)) (he : elemOfSlice P t = some (el, n))
    (hl : optInt 0 (lo.map rd) = some l) (hh : optInt ((b - a : Nat) : Int) (hi.map rd) = some h) (p0 : 0 ≤ l) (p1 : l ≤ h) (p2 : a + h.toNat ≤ (τ id).cap) (had : (τ id).adr = none ∨ ∃ bb, (τ id).adr = some ⟨bb, 0, none⟩) :
    OpRes P base X ids G τ st w (do pure (Next.value (← Instr.sliceAt t x (lo.map ρ) (hi.map ρ) none))) ⟨.vw id n (a + l.toNat) (a + h.toNat), [], obs, []⟩ := by
  obtain ⟨hu, hn⟩ := elemOfSlice_spec he
  obtain ⟨ad, rfl, g1, g2, g3⟩ := hv
  refine OpRes.pure hm (run_v (x := .slice (if (τ id).cap - a = l.toNat then ad else ad.map (·.add (l.toNat * n))) (h.toNat - l.toNat) ((τ id).cap - a - l.toNat)) ?_) ?_
  · simp only [Instr.sliceAt, Sem.run_bind, run_underlying hu, Result.andThen_ok, Instr.slice]
    rw [run_sliceBounds2 (optInt_res hlo hl) (optInt_res hhi hh) p0 p1 (by omega)]
    simp [szOf_run hn w]
  · simp only [V.rep, Gh.part]
    refine ⟨_, by congr 1 <;> omega, by omega, by omega, ?_⟩
    by_cases hc : (τ id).cap - a = l.toNat
    · rw [if_pos hc]
      by_cases h0 : a + l.toNat = 0
      · left
        have ha : a = 0 := by omega
        rcases g3 with g3 | g3
        · rw [g3, h0, ha]
        · omega
      · right; omega
    · rw [if_neg hc]
      left
      rcases g3 with g3 | g3
      · rcases had with had | ⟨bb, had⟩
        · rw [g3, had]; rfl
        · rw [g3, had]; simp [add_plain, Nat.add_mul]
      · omega

/-- The same with a bound: what comes of it is not known. -/
theorem cut3_res {P : Program} {base : Nat} {X G : Nat → Prop} {τ : Nat → Gh} {st : Nat → Option E.Obj} {w : World} {ids : List Nat} {rd : Operand → V} {ρ : Operand → Value} {t el : TypeId} {n len cap : Nat} {ad : Option Addr} {lo : Option Operand} {y z : Operand} {d d' l h m : Int} {obs : List Prop}
    (hm : Mem base X G τ st w) (hlo : ∀ y, lo = some y → (rd y).rep w G τ (ρ y)) (hhi : (rd y).rep w G τ (ρ y)) (hmx : (rd z).rep w G τ (ρ z)) (he : elemOfSlice P t = some (el, n))
    (hl : optInt 0 (lo.map rd) = some l) (hh : optInt d (some (rd y)) = some h) (hz : optInt d' (some (rd z)) = some m) (p0 : 0 ≤ l) (p1 : l ≤ h) (p2 : h ≤ m) (p3 : m ≤ (cap : Int)) :
    OpRes P base X ids G τ st w (do pure (Next.value (← Instr.sliceAt t (.slice ad len cap) (lo.map ρ) (some (ρ y)) (some (ρ z))))) ⟨.undef, [], obs, []⟩ := by
  obtain ⟨hu, hn⟩ := elemOfSlice_spec he
  have h1 := optInt_res (rd := rd) (ρ := ρ) (q := some y) (d := d) (i := h) (fun q hq => by cases hq; exact hhi) (by simpa using hh)
  have h2 := optInt_res (rd := rd) (ρ := ρ) (q := some z) (d := d') (i := m) (fun q hq => by cases hq; exact hmx) (by simpa using hz)
  obtain ⟨k, hk⟩ : ∃ k, ρ y = .int k h := by
    rcases h1 with ⟨h1, _⟩ | ⟨x, k, h1, h3⟩
    · simp at h1
    · cases h1; exact ⟨k, h3⟩
  obtain ⟨k2, hk2⟩ : ∃ k, ρ z = .int k m := by
    rcases h2 with ⟨h1, _⟩ | ⟨x, k, h1, h3⟩
    · simp at h1
    · cases h1; exact ⟨k, h3⟩
  refine OpRes.pure hm (run_v (x := .slice (if m.toNat = l.toNat then ad else ad.map (·.add (l.toNat * n))) (h.toNat - l.toNat) (m.toNat - l.toNat)) ?_) (by simp only [V.rep])
  simp only [Instr.sliceAt, Sem.run_bind, run_underlying hu, Result.andThen_ok, Instr.slice]
  rw [run_sliceBounds3 (optInt_res hlo hl) hk hk2 p0 p1 p2 p3]
  simp [szOf_run hn w]

theorem adr_of {w : World} {G : Nat → Prop} {g : Gh} {n : Nat} {rows : List (List V)} (h : rowsOk w G g n rows) : g.adr = none ∨ ∃ bb, g.adr = some ⟨bb, 0, none⟩ := by
  rcases h.2 with ⟨_, e, _⟩ | ⟨b, _, _, _, _, e, _⟩
  · exact .inl e
  · exact .inr ⟨b, e⟩

theorem evPart_res {P : Program} {base : Nat} {X G : Nat → Prop} {τ : Nat → Gh} {st : Nat → Option E.Obj} {w : World} {ids : List Nat} {rd : Operand → V} {ρ : Operand → Value} {t : TypeId} {id n a b : Nat} {x : Value} {lo hi mx : Option Operand} {e : Eff} {rs : List Nat}
    (hm : Mem base X G τ st w) (hv : (V.vw id n a b).rep w G τ x) (hlo : ∀ y, lo = some y → (rd y).rep w G τ (ρ y)) (hhi : ∀ y, hi = some y → (rd y).rep w G τ (ρ y)) (hmx : ∀ y, mx = some y → (rd y).rep w G τ (ρ y))
    (h : (evPart P t id n a b (lo.map rd) (hi.map rd) (mx.map rd)).run st = some (e, rs)) (hp : ∀ p ∈ e.obs, p) :
    OpRes P base X ids G τ st w (do pure (Next.value (← Instr.sliceAt t x (lo.map ρ) (hi.map ρ) (mx.map ρ)))) e := by
  simp only [V.rep] at hv
  unfold evPart at h
  obtain ⟨o, r, ho, h, _⟩ := run_ask h
  split at h
  · rename_i m rows lim el k l hh hpt he hl hh'
    cases hmn : m == n && k == n with
    | false => simp only [hmn, cond_false, T.run, reduceCtorEq] at h
    | true =>
      simp only [hmn, cond_true] at h
      simp only [Bool.and_eq_true, beq_iff_eq] at hmn
      obtain ⟨rfl, rfl⟩ := hmn
      obtain ⟨q0, q1, q2⟩ := parts_ok (hm.ok id o ho) hpt
      cases mx with
      | none =>
        simp only [Option.map_none, T.run, Option.some.injEq, Prod.mk.injEq] at h
        obtain ⟨rfl, _⟩ := h
        have p0 : 0 ≤ l := hp _ (by simp)
        have p1 : l ≤ hh := hp _ (by simp)
        have p2 : a + hh.toNat ≤ lim := hp _ (by simp)
        exact cut_res hm hv hlo hhi he hl hh' p0 p1 (by omega) (adr_of q0)
      | some z =>
        simp only [Option.map_some] at h
        split at h
        · rename_i q1' q2' hi' mm hhi' hmm
          simp only [T.run, Option.some.injEq, Prod.mk.injEq] at h
          obtain ⟨rfl, _⟩ := h
          have p0 : 0 ≤ l := hp _ (by simp)
          have p1 : l ≤ hh := hp _ (by simp)
          have p2 : hh ≤ mm := hp _ (by simp)
          have p3 : a + mm.toNat ≤ lim := hp _ (by simp)
          cases hi with
          | none => simp at hhi'
          | some y =>
            obtain ⟨ad, rfl, g1, g2, g3⟩ := hv
            exact cut3_res hm hlo (hhi y rfl) (hmx z rfl) he hl hh' hmm p0 p1 p2 (by omega)
        · simp [T.run] at h
  · simp [T.run] at h

theorem evPartOwn_res {P : Program} {base : Nat} {X G : Nat → Prop} {τ : Nat → Gh} {st : Nat → Option E.Obj} {w : World} {ids : List Nat} {rd : Operand → V} {ρ : Operand → Value} {t : TypeId} {id : Nat} {x : Value} {lo hi mx : Option Operand} {e : Eff} {rs : List Nat}
    (hm : Mem base X G τ st w) (hv : (V.own id).rep w G τ x) (hlo : ∀ y, lo = some y → (rd y).rep w G τ (ρ y)) (hhi : ∀ y, hi = some y → (rd y).rep w G τ (ρ y)) (hmx : ∀ y, mx = some y → (rd y).rep w G τ (ρ y))
    (h : (evPartOwn P t id (lo.map rd) (hi.map rd) (mx.map rd)).run st = some (e, rs)) (hp : ∀ p ∈ e.obs, p) :
    OpRes P base X ids G τ st w (do pure (Next.value (← Instr.sliceAt t x (lo.map ρ) (hi.map ρ) (mx.map ρ)))) e := by
  simp only [V.rep] at hv
  unfold evPartOwn at h
  obtain ⟨o, r, ho, h, _⟩ := run_ask h
  split at h
  · rename_i m rows
    have hok := hm.ok id _ ho
    simp only [Obj.ok] at hok
    have hpart : (τ id).part m 0 rows.length x := by
      refine ⟨(τ id).adr, ?_, Nat.zero_le _, hok.2.1, .inl ?_⟩
      · rw [hv, Gh.hdr, hok.1]; rfl
      · rcases hok.2.2 with ⟨_, e2, _⟩ | ⟨b, _, _, _, _, e2, _⟩
        · rw [e2]; rfl
        · rw [e2]; simp [add_plain]
    split at h
    · rename_i el k l hh he hl hh'
      cases hmn : m == k with
      | false => simp only [hmn, cond_false, T.run, reduceCtorEq] at h
      | true =>
        simp only [hmn, cond_true] at h
        simp only [beq_iff_eq] at hmn
        subst hmn
        cases mx with
        | none =>
          simp only [Option.map_none, T.run, Option.some.injEq, Prod.mk.injEq] at h
          obtain ⟨rfl, _⟩ := h
          have p0 : 0 ≤ l := hp _ (by simp)
          have p1 : l ≤ hh := hp _ (by simp)
          have p2 : hh.toNat ≤ rows.length := hp _ (by simp)
          have := cut_res (ids := ids) (obs := [0 ≤ l, l ≤ hh, hh.toNat ≤ rows.length]) hm hpart hlo hhi he hl (by simpa using hh') p0 p1 (by have := hok.2.1; omega) (adr_of hok.2)
          simpa only [Nat.zero_add, Option.map_none] using this
        | some z =>
          simp only [Option.map_some] at h
          split at h
          · rename_i q1' q2' hi' mm hhi' hmm
            simp only [T.run, Option.some.injEq, Prod.mk.injEq] at h
            obtain ⟨rfl, _⟩ := h
            have p0 : 0 ≤ l := hp _ (by simp)
            have p1 : l ≤ hh := hp _ (by simp)
            have p2 : hh ≤ mm := hp _ (by simp)
            have p3 : mm.toNat ≤ rows.length := hp _ (by simp)
            cases hi with
            | none => simp at hhi'
            | some y =>
              rw [hv, Gh.hdr]
              exact cut3_res hm hlo (hhi y rfl) (hmx z rfl) he hl hh' hmm p0 p1 p2 (by have := hok.2.1; omega)
          · simp [T.run] at h
    · simp [T.run] at h
  · simp [T.run] at h

end Go.Proofs.Ytfpdlamjlbpmkaa.E
