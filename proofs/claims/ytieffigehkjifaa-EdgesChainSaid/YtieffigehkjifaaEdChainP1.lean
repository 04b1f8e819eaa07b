/- The engine, part Z (behind M): parts of slices that are owned. -/
import Derived.Lib.Overlaps
import Derived.MapKept
import Derived.Laws.BytesString
import Derived.Laws.StructEq
import Derived.ChangeKeysEq
import Derived.Laws.Small
import Derived.Scope
import Derived.Test.YtieffigehkjifaaEdChainP0
namespace Go.Proofs.Ytieffigehkjifaa.E
open Go
set_option linter.unusedSimpArgs false

theorem repRows_append {w : World} {G : Nat → Prop} {n b : Nat} : ∀ {r1 r2 : List (List V)} {o : Nat}, repRows w G n b o (r1 ++ r2) ↔ repRows w G n b o r1 ∧ repRows w G n b (o + r1.length * n) r2
  | [], r2, o => by simp [repRows]
  | r :: r1, r2, o => by
    have := repRows_append (w := w) (G := G) (n := n) (b := b) (r1 := r1) (r2 := r2) (o := o + n)
    simp only [List.cons_append, repRows, List.length_cons, this, and_assoc, Nat.add_mul, Nat.one_mul]
    rw [show o + n + r1.length * n = o + (r1.length * n + n) by omega]

theorem repRows_eq {w w' : World} {G G' : Nat → Prop} (hG : ∀ b, G b → G' b ∧ w'.heap[b]? = w.heap[b]?) {n b : Nat} : ∀ {rows : List (List V)} {o : Nat}, (∀ i, i < rows.length * n → w'.cell? ⟨b, o + i, none⟩ = w.cell? ⟨b, o + i, none⟩) → repRows w G n b o rows → repRows w' G' n b o rows
  | [], _, _, _ => by simp only [repRows]
  | r :: rs, o, hc, h => by
    simp only [repRows] at h ⊢
    refine ⟨h.1, repCells_eq hG (fun i hi => hc i (by simp only [List.length_cons, Nat.add_mul, Nat.one_mul]; rw [← h.1]; omega)) h.2.1, repRows_eq hG (fun i hi => ?_) h.2.2⟩
    have := hc (n + i) (by simp only [List.length_cons, Nat.add_mul, Nat.one_mul]; omega)
    rwa [show o + (n + i) = o + n + i by omega] at this

theorem over_len (rows : List (List V)) (a : Nat) (new : List (List V)) (h : a ≤ rows.length) : (over rows a new).length = max rows.length (a + new.length) := by
  simp only [over, List.length_append, List.length_take, List.length_drop]; omega

theorem over_nil (rows : List (List V)) (a : Nat) : over rows a [] = rows := by simp [over]

theorem parts_ok {w : World} {G : Nat → Prop} {τ : Nat → Gh} {id n lim : Nat} {o : E.Obj} {rows : List (List V)} (hok : o.ok w G τ id) (hp : o.parts = some (n, rows, lim)) : rowsOk w G (τ id) n rows ∧ rows.length ≤ lim ∧ lim ≤ (τ id).cap := by
  cases o with
  | box cells => simp [Obj.parts] at hp
  | mp k es => simp [Obj.parts] at hp
  | arr m r =>
    simp only [Obj.parts, Option.some.injEq, Prod.mk.injEq] at hp
    obtain ⟨rfl, rfl, rfl⟩ := hp
    simp only [Obj.ok] at hok
    exact ⟨hok.2, Nat.le_refl _, hok.2.1⟩
  | blk m r c =>
    simp only [Obj.parts, Option.some.injEq, Prod.mk.injEq] at hp
    obtain ⟨rfl, rfl, rfl⟩ := hp
    simp only [Obj.ok] at hok
    exact ⟨hok.2, by have := hok.2.1; omega, by omega⟩

theorem fill_ok {w : World} {G : Nat → Prop} {τ : Nat → Gh} {id n lim : Nat} {o : E.Obj} {rows rows' : List (List V)} (hp : o.parts = some (n, rows, lim)) {w0 : World} {G0 : Nat → Prop} (hok0 : o.ok w0 G0 τ id) (h1 : rowsOk w G (τ id) n rows')
    (h2 : rows.length ≤ rows'.length) (h3 : rows'.length ≤ lim) : (o.fill rows').ok w G τ id := by
  cases o with
  | box cells => simp [Obj.parts] at hp
  | mp k es => simp [Obj.parts] at hp
  | arr m r =>
    simp only [Obj.parts, Option.some.injEq, Prod.mk.injEq] at hp
    obtain ⟨rfl, rfl, rfl⟩ := hp
    simp only [Obj.ok, Obj.fill] at hok0 ⊢
    exact ⟨by omega, h1⟩
  | blk m r c =>
    simp only [Obj.parts, Option.some.injEq, Prod.mk.injEq] at hp
    obtain ⟨rfl, rfl, rfl⟩ := hp
    simp only [Obj.ok, Obj.fill] at hok0 ⊢
    exact ⟨hok0.1, h1⟩

theorem fill_same {o : E.Obj} {n lim : Nat} {rows : List (List V)} (hp : o.parts = some (n, rows, lim)) : o.fill rows = o := by
  cases o with
  | box cells => rfl
  | mp k es => rfl
  | arr m r =>
    simp only [Obj.parts, Option.some.injEq, Prod.mk.injEq] at hp
    obtain ⟨rfl, rfl, rfl⟩ := hp
    rfl
  | blk m r c =>
    simp only [Obj.parts, Option.some.injEq, Prod.mk.injEq] at hp
    obtain ⟨rfl, rfl, rfl⟩ := hp
    rfl

theorem putSt_same {st : Nat → Option E.Obj} {id : Nat} {o : E.Obj} (h : st id = some o) : putSt st [(id, some o)] = st := by
  funext j
  simp only [putSt]
  by_cases hj : j = id
  · subst hj; simp [h]
  · have : (j == id) = false := by simpa using hj
    simp [this]

/-- Rows are written into an object, from one of its rows on. -/
theorem write_part {base : Nat} {X G : Nat → Prop} {τ : Nat → Gh} {st : Nat → Option E.Obj} {w : World} {id n lim a : Nat} {o : E.Obj} {rows new : List (List V)} {xs : List Value} (P : Program)
    (hm : Mem base X G τ st w) (ho : st id = some o) (hp : o.parts = some (n, rows, lim)) (hl : ∀ r ∈ new, r.length = n) (hx : repIL w G new.flatten xs) (ha : a ≤ rows.length) (hlim : a + new.length ≤ lim) :
    ∃ w', (∀ A : Addr, (new = [] ∨ ∃ b, (τ id).blk = some b ∧ A = ⟨b, a * n, none⟩) → (storeCells A xs).run P w = .ok () w') ∧ (new = [] → w' = w) ∧ ((τ id).cap = 0 → w' = w) ∧ Mem base X G τ (putSt st [(id, some (o.fill (over rows a new)))]) w' ∧ Ext base X G w G w' := by
  have hok := hm.ok id o ho
  obtain ⟨hro, h1, h2⟩ := parts_ok hok hp
  have hxl : xs.length = new.length * n := by rw [← repIL_length hx]; exact flat_len new hl
  by_cases hn : new = []
  · subst hn
    have hx0 : xs = [] := by apply List.eq_nil_of_length_eq_zero; simpa using hxl
    subst hx0
    refine ⟨w, fun A _ => rfl, fun _ => rfl, fun _ => rfl, ?_, Ext.refl _ _ _ _⟩
    rw [over_nil, fill_same hp, putSt_same ho]
    exact hm
  · have hnl : 0 < new.length := List.length_pos_iff.2 hn
    obtain ⟨h3, h4⟩ := hro
    rcases h4 with ⟨_, _, e3⟩ | ⟨b, ys, t, fz, e1, e2, e3, e4, e5, e6, e7⟩
    · omega
    · have hmul : (a + new.length) * n ≤ (τ id).cap * n := Nat.mul_le_mul_right n (by omega)
      have hfit : a * n + xs.length ≤ ys.size := by rw [e6, hxl]; rw [Nat.add_mul] at hmul; exact hmul
      have h1x := repIL_one hx
      have hstore := run_storeCells_free P b (a * n) t fz xs 0 ys w e3 (e5.le (by omega)) (by simpa using hfit) h1x
      have hsp : (ys.toList.take (a * n + 0) ++ xs ++ ys.toList.drop (a * n + 0 + xs.length)).toArray = splicedA ys (a * n) xs := by simp [splicedA]
      rw [hsp] at hstore
      have hG' : ∀ j, G j → G j ∧ (w.setRow b (splicedA ys (a * n) xs)).heap[j]? = w.heap[j]? := fun j hj => ⟨hj, setRow_other w b j _ (fun e => e4 (e ▸ hj))⟩
      refine ⟨w.setRow b (splicedA ys (a * n) xs), fun A hA => ?_, fun h => absurd h hn, fun h => by omega, ?_, Ext.setRow (hm.own id _ b ho e1) e4⟩
      · rcases hA with hA | ⟨b', hb', rfl⟩
        · exact absurd hA hn
        · rw [e1] at hb'; cases hb'; exact hstore
      · refine Mem.set hm ho e1 (by simp) (fun j hj => setRow_other w b j _ hj) ?_
        have hlen := over_len rows a new ha
        refine fill_ok hp hok ⟨by omega, .inr ⟨b, _, t, fz, e1, e2, setRow_heap w b ys _ t fz e3, e4, by rw [splicedA_size hfit]; exact e5, by rw [splicedA_size hfit]; exact e6, ?_⟩⟩ (by omega) (by omega)
        have hcell : ∀ j, (w.setRow b (splicedA ys (a * n) xs)).cell? ⟨b, j, none⟩ = if a * n ≤ j ∧ j < a * n + xs.length then xs[j - a * n]? else w.cell? ⟨b, j, none⟩ := by
          intro j
          rw [cell_setRow_same w b j ys _ t fz e3, splicedA_get hfit, cell_of_heap e3]
        have ht : (rows.take a).length = a := by simp; omega
        have k0 : repRows w G n b 0 (rows.take a) := by have := repRows_cut (l := 0) (h := a) e7; simpa using this
        unfold over
        rw [repRows_append, repRows_append, List.length_append, ht]
        refine ⟨⟨repRows_eq hG' (fun i hi => ?_) k0, ?_⟩, ?_⟩
        · rw [ht] at hi
          rw [hcell, if_neg (by omega)]
        · refine repRows_content _ hl (repIL_mono hG' hx) (fun i x hi => ?_)
          have : i < xs.length := (List.getElem?_eq_some_iff.1 hi).1
          rw [hcell, if_pos ⟨by omega, by omega⟩, show 0 + a * n + i - a * n = i by omega]; exact hi
        · by_cases hd : a + new.length ≤ rows.length
          · have k1 := repRows_cut (l := a + new.length) (h := rows.length) e7
            rw [List.take_length] at k1
            refine repRows_eq hG' (fun i hi => ?_) k1
            rw [hcell, if_neg (by rw [hxl, ← Nat.add_mul]; omega)]
          · rw [List.drop_of_length_le (by omega)]
            simp only [repRows]

/-- What a part has to give, as it is read. -/
theorem part_read {P : Program} {base : Nat} {X G : Nat → Prop} {τ : Nat → Gh} {st : Nat → Option E.Obj} {w : World} {id n lim a b k : Nat} {o : E.Obj} {rows : List (List V)} {x : Value}
    (hm : Mem base X G τ st w) (ho : st id = some o) (hp : o.parts = some (n, rows, lim)) (hx : (τ id).part n a b x) (hk : a + k ≤ rows.length) :
    ∃ xs : List Value, (∀ w1 : World, w1.heap = w.heap → (Builtin.firstCells n k x).run P w1 = .ok xs.toArray w1) ∧ repIL w G ((rows.drop a).take k).flatten xs ∧ ((rows.drop a).take k).length = k ∧ ∀ r ∈ (rows.drop a).take k, r.length = n := by
  obtain ⟨⟨h3, h4⟩, h1, h2⟩ := parts_ok (hm.ok id o ho) hp
  have hlen : ((rows.drop a).take k).length = k := by simp; omega
  obtain ⟨ad, rfl, g1, g2, g3⟩ := hx
  by_cases hk0 : k = 0
  · subst hk0
    refine ⟨[], fun w1 _ => ?_, by simp [repIL], by simp, by simp⟩
    cases ad with
    | none => rfl
    | some A => simp only [Builtin.firstCells, Nat.zero_mul]; rfl
  · rcases h4 with ⟨_, _, e3⟩ | ⟨bb, ys, t, fz, e1, e2, e3, e4, e5, e6, e7⟩
    · omega
    · have g4 : ad = some ⟨bb, a * n, none⟩ := by
        rcases g3 with g3 | g3
        · rw [g3, e2]; simp [add_plain]
        · omega
      subst g4
      have k1 := repRows_cut (l := a) (h := a + k) e7
      have he : (rows.take (a + k)).drop a = (rows.drop a).take k := by rw [List.drop_take]; congr 1; omega
      rw [he, Nat.zero_add] at k1
      obtain ⟨xs, q1, q2, q3⟩ := repRows_flat k1
      refine ⟨xs, fun w1 hw1 => ?_, q1, hlen, repRows_len k1⟩
      simp only [Builtin.firstCells]
      rw [hlen] at q2
      rw [← q2]
      exact run_loadCells_list w1 _ xs fun j y hj => by rw [add_plain]; have := q3 j y hj; simp only [World.cell?, hw1] at this ⊢; exact this

theorem run_sliceBounds2 {P : Program} {w : World} {isSlice : Bool} {len cap : Nat} {ρ : Operand → Value} {lo hi : Option Operand} {l h : Int}
    (hlo : (lo = none ∧ l = 0) ∨ ∃ x k, lo = some x ∧ ρ x = .int k l) (hhi : (hi = none ∧ h = (len : Int)) ∨ ∃ x k, hi = some x ∧ ρ x = .int k h) (h0 : 0 ≤ l) (h1 : l ≤ h) (h2 : h ≤ (cap : Int)) :
    (Instr.sliceBounds isSlice len cap (lo.map ρ) (hi.map ρ) none).run P w = .ok (l.toNat, h.toNat, cap) w := by
  have hl : h = (h.toNat : Int) := by omega
  rcases hhi with ⟨rfl, e⟩ | ⟨x, k, rfl, e⟩ <;> rcases hlo with ⟨rfl, e'⟩ | ⟨x', k', rfl, e'⟩
  · subst e' e; simp [Instr.sliceBounds]
  · subst e
    simp only [Option.map_none, Option.map_some, Instr.sliceBounds, Sem.run_bind, Sem.run_pure, Result.andThen_ok, e']
    rw [run_sliceBound h0 h1]; simp
  · subst e'
    simp only [Option.map_none, Option.map_some, Instr.sliceBounds, Sem.run_bind, Sem.run_pure, Result.andThen_ok, e]
    rw [run_sliceBound (by omega) (by omega)]; simp
  · simp only [Option.map_none, Option.map_some, Instr.sliceBounds, Sem.run_bind, Sem.run_pure, Result.andThen_ok, e, e']
    rw [run_sliceBound (by omega) (by omega)]
    simp only [Result.andThen_ok]
    rw [run_sliceBound h0 (by omega)]; simp

theorem run_sliceBounds3 {P : Program} {w : World} {isSlice : Bool} {len cap : Nat} {ρ : Operand → Value} {lo : Option Operand} {y z : Operand} {l h m : Int} {k k2 : IntKind}
    (hlo : (lo = none ∧ l = 0) ∨ ∃ x k, lo = some x ∧ ρ x = .int k l) (hhi : ρ y = .int k h) (hm : ρ z = .int k2 m) (h0 : 0 ≤ l) (h1 : l ≤ h) (h2 : h ≤ m) (h3 : m ≤ (cap : Int)) :
    (Instr.sliceBounds isSlice len cap (lo.map ρ) (some (ρ y)) (some (ρ z))).run P w = .ok (l.toNat, h.toNat, m.toNat) w := by
  have hl : h = (h.toNat : Int) := by omega
  have hm' : m = (m.toNat : Int) := by omega
  rcases hlo with ⟨rfl, e'⟩ | ⟨x', k', rfl, e'⟩
  · subst e'
    simp only [Option.map_none, Option.map_some, Instr.sliceBounds, Sem.run_bind, Sem.run_pure, Result.andThen_ok, hhi, hm]
    rw [run_sliceBound (by omega) h3]
    simp only [Result.andThen_ok]
    rw [run_sliceBound (by omega) (by omega)]; simp
  · simp only [Option.map_none, Option.map_some, Instr.sliceBounds, Sem.run_bind, Sem.run_pure, Result.andThen_ok, hhi, hm, e']
    rw [run_sliceBound (by omega) h3]
    simp only [Result.andThen_ok]
    rw [run_sliceBound (by omega) (by omega)]
    simp only [Result.andThen_ok]
    rw [run_sliceBound h0 (by omega)]; simp

/-- A cut of a slice, where it stays owned. -/
theorem cut_res {P : Program} {base : Nat} {X G : Nat → Prop} {τ : Nat → Gh} {st : Nat → Option E.Obj} {w : World} {ids : List Nat} {rd : Operand → V} {ρ : Operand → Value} {t el : TypeId} {id n a b : Nat} {x : Value} {lo hi : Option Operand} {l h : Int} {obs : List Prop}
    (hm : Mem base X G τ st w) (hv : (τ id).part n a b x) (hlo : ∀ y, lo = some y → (rd y).rep w G τ (ρ y)) (hhi : ∀ y, hi = some y → (rd y).rep w G τ (ρ y)) (he : elemOfSlice P t = some (el, n))
    (hl : optInt 0 (lo.map rd) = some l) (hh : optInt ((b - a : Nat) : Int) (hi.map rd) = some h) (p0 : 0 ≤ l) (p1 : l ≤ h) (p2 : a + h.toNat ≤ (τ id).cap) (had : (τ id).adr = none ∨ ∃ bb, (τ id).adr = some ⟨bb, 0, none⟩) :
    OpRes P base X ids G τ st w (do pure (Next.value (← Instr.sliceAt t x (lo.map ρ) (hi.map ρ) none))) ⟨.vw id n (a + l.toNat) (a + h.toNat), [], obs, []⟩ := by
  obtain ⟨hu, hn⟩ := elemOfSlice_spec he
  obtain ⟨ad, rfl, g1, g2, g3⟩ := hv
  refine OpRes.pure hm (run_v (x := .slice (if (τ id).cap - a = l.toNat then ad else ad.map (·.add (l.toNat * n))) (h.toNat - l.toNat) ((τ id).cap - a - l.toNat)) ?_) ?_
  · simp only [Instr.sliceAt, Sem.run_bind, run_underlying hu, Result.andThen_ok, Instr.slice]
    rw [run_sliceBounds2 (optInt_res hlo hl) (optInt_res hhi hh) p0 p1 (by omega)]
    simp [szOf_run hn w]
  · simp only [V.rep, Gh.part]
    refine ⟨_, by congr 1 <;> omega, by omega, by omega, ?_⟩
    by_cases hc : (τ id).cap - a = l.toNat
    · rw [if_pos hc]
      by_cases h0 : a + l.toNat = 0
      · left
        have ha : a = 0 := by omega
        rcases g3 with g3 | g3
        · rw [g3, h0, ha]
        · omega
      · right; omega
    · rw [if_neg hc]
      left
      rcases g3 with g3 | g3
      · rcases had with had | ⟨bb, had⟩
        · rw [g3, had]; rfl
        · rw [g3, had]; simp [add_plain, Nat.add_mul]
      · omega

/-- The same with a bound: what comes of it is not known. -/
theorem cut3_res {P : Program} {base : Nat} {X G : Nat → Prop} {τ : Nat → Gh} {st : Nat → Option E.Obj} {w : World} {ids : List Nat} {rd : Operand → V} {ρ : Operand → Value} {t el : TypeId} {n len cap : Nat} {ad : Option Addr} {lo : Option Operand} {y z : Operand} {d d' l h m : Int} {obs : List Prop}
    (hm : Mem base X G τ st w) (hlo : ∀ y, lo = some y → (rd y).rep w G τ (ρ y)) (hhi : (rd y).rep w G τ (ρ y)) (hmx : (rd z).rep w G τ (ρ z)) (he : elemOfSlice P t = some (el, n))
    (hl : optInt 0 (lo.map rd) = some l) (hh : optInt d (some (rd y)) = some h) (hz : optInt d' (some (rd z)) = some m) (p0 : 0 ≤ l) (p1 : l ≤ h) (p2 : h ≤ m) (p3 : m ≤ (cap : Int)) :
    OpRes P base X ids G τ st w (do pure (Next.value (← Instr.sliceAt t (.slice ad len cap) (lo.map ρ) (some (ρ y)) (some (ρ z))))) ⟨.undef, [], obs, []⟩ := by
  obtain ⟨hu, hn⟩ := elemOfSlice_spec he
  have h1 := optInt_res (rd := rd) (ρ := ρ) (q := some y) (d := d) (i := h) (fun q hq => by cases hq; exact hhi) (by simpa using hh)
  have h2 := optInt_res (rd := rd) (ρ := ρ) (q := some z) (d := d') (i := m) (fun q hq => by cases hq; exact hmx) (by simpa using hz)
  obtain ⟨k, hk⟩ : ∃ k, ρ y = .int k h := by
    rcases h1 with ⟨h1, _⟩ | ⟨x, k, h1, h3⟩
    · simp at h1
    · cases h1; exact ⟨k, h3⟩
  obtain ⟨k2, hk2⟩ : ∃ k, ρ z = .int k m := by
    rcases h2 with ⟨h1, _⟩ | ⟨x, k, h1, h3⟩
    · simp at h1
    · cases h1; exact ⟨k, h3⟩
  refine OpRes.pure hm (run_v (x := .slice (if m.toNat = l.toNat then ad else ad.map (·.add (l.toNat * n))) (h.toNat - l.toNat) (m.toNat - l.toNat)) ?_) (by simp only [V.rep])
  simp only [Instr.sliceAt, Sem.run_bind, run_underlying hu, Result.andThen_ok, Instr.slice]
  rw [run_sliceBounds3 (optInt_res hlo hl) hk hk2 p0 p1 p2 p3]
  simp [szOf_run hn w]

theorem adr_of {w : World} {G : Nat → Prop} {g : Gh} {n : Nat} {rows : List (List V)} (h : rowsOk w G g n rows) : g.adr = none ∨ ∃ bb, g.adr = some ⟨bb, 0, none⟩ := by
  rcases h.2 with ⟨_, e, _⟩ | ⟨b, _, _, _, _, e, _⟩
  · exact .inl e
  · exact .inr ⟨b, e⟩

theorem evPart_res {P : Program} {base : Nat} {X G : Nat → Prop} {τ : Nat → Gh} {st : Nat → Option E.Obj} {w : World} {ids : List Nat} {rd : Operand → V} {ρ : Operand → Value} {t : TypeId} {id n a b : Nat} {x : Value} {lo hi mx : Option Operand} {e : Eff} {rs : List Nat}
    (hm : Mem base X G τ st w) (hv : (V.vw id n a b).rep w G τ x) (hlo : ∀ y, lo = some y → (rd y).rep w G τ (ρ y)) (hhi : ∀ y, hi = some y → (rd y).rep w G τ (ρ y)) (hmx : ∀ y, mx = some y → (rd y).rep w G τ (ρ y))
    (h : (evPart P t id n a b (lo.map rd) (hi.map rd) (mx.map rd)).run st = some (e, rs)) (hp : ∀ p ∈ e.obs, p) :
    OpRes P base X ids G τ st w (do pure (Next.value (← Instr.sliceAt t x (lo.map ρ) (hi.map ρ) (mx.map ρ)))) e := by
  simp only [V.rep] at hv
  unfold evPart at h
  obtain ⟨o, r, ho, h, _⟩ := run_ask h
  split at h
  · rename_i m rows lim el k l hh hpt he hl hh'
    cases hmn : m == n && k == n with
    | false => simp only [hmn, cond_false, T.run, reduceCtorEq] at h
    | true =>
      simp only [hmn, cond_true] at h
      simp only [Bool.and_eq_true, beq_iff_eq] at hmn
      obtain ⟨rfl, rfl⟩ := hmn
      obtain ⟨q0, q1, q2⟩ := parts_ok (hm.ok id o ho) hpt
      cases mx with
      | none =>
        simp only [Option.map_none, T.run, Option.some.injEq, Prod.mk.injEq] at h
        obtain ⟨rfl, _⟩ := h
        have p0 : 0 ≤ l := hp _ (by simp)
        have p1 : l ≤ hh := hp _ (by simp)
        have p2 : a + hh.toNat ≤ lim := hp _ (by simp)
        exact cut_res hm hv hlo hhi he hl hh' p0 p1 (by omega) (adr_of q0)
      | some z =>
        simp only [Option.map_some] at h
        split at h
        · rename_i q1' q2' hi' mm hhi' hmm
          simp only [T.run, Option.some.injEq, Prod.mk.injEq] at h
          obtain ⟨rfl, _⟩ := h
          have p0 : 0 ≤ l := hp _ (by simp)
          have p1 : l ≤ hh := hp _ (by simp)
          have p2 : hh ≤ mm := hp _ (by simp)
          have p3 : a + mm.toNat ≤ lim := hp _ (by simp)
          cases hi with
          | none => simp at hhi'
          | some y =>
            obtain ⟨ad, rfl, g1, g2, g3⟩ := hv
            exact cut3_res hm hlo (hhi y rfl) (hmx z rfl) he hl hh' hmm p0 p1 p2 (by omega)
        · simp [T.run] at h
  · simp [T.run] at h

theorem evPartOwn_res {P : Program} {base : Nat} {X G : Nat → Prop} {τ : Nat → Gh} {st : Nat → Option E.Obj} {w : World} {ids : List Nat} {rd : Operand → V} {ρ : Operand → Value} {t : TypeId} {id : Nat} {x : Value} {lo hi mx : Option Operand} {e : Eff} {rs : List Nat}
    (hm : Mem base X G τ st w) (hv : (V.own id).rep w G τ x) (hlo : ∀ y, lo = some y → (rd y).rep w G τ (ρ y)) (hhi : ∀ y, hi = some y → (rd y).rep w G τ (ρ y)) (hmx : ∀ y, mx = some y → (rd y).rep w G τ (ρ y))
    (h : (evPartOwn P t id (lo.map rd) (hi.map rd) (mx.map rd)).run st = some (e, rs)) (hp : ∀ p ∈ e.obs, p) :
    OpRes P base X ids G τ st w (do pure (Next.value (← Instr.sliceAt t x (lo.map ρ) (hi.map ρ) (mx.map ρ)))) e := by
  simp only [V.rep] at hv
  unfold evPartOwn at h
  obtain ⟨o, r, ho, h, _⟩ := run_ask h
  split at h
  · rename_i m rows
    have hok := hm.ok id _ ho
    simp only [Obj.ok] at hok
    have hpart : (τ id).part m 0 rows.length x := by
      refine ⟨(τ id).adr, ?_, Nat.zero_le _, hok.2.1, .inl ?_⟩
      · rw [hv, Gh.hdr, hok.1]; rfl
      · rcases hok.2.2 with ⟨_, e2, _⟩ | ⟨b, _, _, _, _, e2, _⟩
        · rw [e2]; rfl
        · rw [e2]; simp [add_plain]
    split at h
    · rename_i el k l hh he hl hh'
      cases hmn : m == k with
      | false => simp only [hmn, cond_false, T.run, reduceCtorEq] at h
      | true =>
        simp only [hmn, cond_true] at h
        simp only [beq_iff_eq] at hmn
        subst hmn
        cases mx with
        | none =>
          simp only [Option.map_none, T.run, Option.some.injEq, Prod.mk.injEq] at h
          obtain ⟨rfl, _⟩ := h
          have p0 : 0 ≤ l := hp _ (by simp)
          have p1 : l ≤ hh := hp _ (by simp)
          have p2 : hh.toNat ≤ rows.length := hp _ (by simp)
          have := cut_res (ids := ids) (obs := [0 ≤ l, l ≤ hh, hh.toNat ≤ rows.length]) hm hpart hlo hhi he hl (by simpa using hh') p0 p1 (by have := hok.2.1; omega) (adr_of hok.2)
          simpa only [Nat.zero_add, Option.map_none] using this
        | some z =>
          simp only [Option.map_some] at h
          split at h
          · rename_i q1' q2' hi' mm hhi' hmm
            simp only [T.run, Option.some.injEq, Prod.mk.injEq] at h
            obtain ⟨rfl, _⟩ := h
            have p0 : 0 ≤ l := hp _ (by simp)
            have p1 : l ≤ hh := hp _ (by simp)
            have p2 : hh ≤ mm := hp _ (by simp)
            have p3 : mm.toNat ≤ rows.length := hp _ (by simp)
            cases hi with
            | none => simp at hhi'
            | some y =>
              rw [hv, Gh.hdr]
              exact cut3_res hm hlo (hhi y rfl) (hmx z rfl) he hl hh' hmm p0 p1 p2 (by have := hok.2.1; omega)
          · simp [T.run] at h
    · simp [T.run] at h
  · simp [T.run] at h

end Go.Proofs.Ytieffigehkjifaa.E

/- The engine, part V (behind Z): what is done with parts of slices that are owned. -/
namespace Go.Proofs.Ytieffigehkjifaa.E
open Go
set_option linter.unusedSimpArgs false

theorem evMove_res {P : Program} {base : Nat} {X G : Nat → Prop} {τ : Nat → Gh} {st : Nat → Option E.Obj} {w : World} {ids : List Nat} {site : Nat} {ans : List Ans} {v : V} {x : Value} {e : Eff} {rs : List Nat}
    (hm : Mem base X G τ st w) (hc : Closed ids st) (hnew : ∀ i ∈ e.new, i ∉ ids) (hv : v.rep w G τ x) (h : (evMove site ans v).run st = some (e, rs)) (hp : ∀ p ∈ e.obs, p) :
    OpRes P base X ids G τ st w (pure (.value x)) e := by
  unfold evMove at h
  cases hf : flagged ans with
  | false =>
    simp only [hf, cond_false, T.run, Option.some.injEq, Prod.mk.injEq] at h
    obtain ⟨rfl, _⟩ := h
    exact OpRes.pure hm rfl hv
  | true =>
    simp only [hf, cond_true] at h
    split at h
    · rename_i id n a b
      cases ha : a == 0 with
      | false => simp only [ha, cond_false, T.run, reduceCtorEq] at h
      | true =>
        simp only [ha, cond_true] at h
        have ha' : a = 0 := by simpa using ha
        subst ha'
        unfold evSeal at h
        obtain ⟨o, r, ho, h, _⟩ := run_ask h
        split at h
        · rename_i m rows lim hpt
          cases hmn : m == n with
          | false => simp only [hmn, cond_false, T.run, reduceCtorEq] at h
          | true =>
            simp only [hmn, cond_true, T.run, Option.some.injEq, Prod.mk.injEq] at h
            obtain ⟨rfl, _⟩ := h
            have hmn' : m = n := by simpa using hmn
            subst hmn'
            have p0 : b ≤ rows.length := hp _ (by simp)
            have hs : site ∉ ids := hnew site (by simp)
            obtain ⟨⟨h3, h4⟩, h1, h2⟩ := parts_ok (hm.ok id o ho) hpt
            simp only [V.rep] at hv
            obtain ⟨ad, rfl, g1, g2, g3⟩ := hv
            have had : ad = (τ id).adr := by
              rcases g3 with g3 | g3
              · rcases h4 with ⟨_, e2, _⟩ | ⟨bb, _, _, _, _, e2, _⟩
                · rw [g3, e2]; rfl
                · rw [g3, e2]; simp [add_plain]
              · omega
            refine ⟨_, w, G, setGh τ site ⟨(τ id).blk, (τ id).adr, b, (τ id).cap⟩, .inl rfl, ?_, ?_, Ext.refl _ _ _ _, fun i hi => setGh_ne fun e => hs (e ▸ hi)⟩
            · simp only [V.rep, setGh_same, Gh.hdr, had]; rfl
            · refine Mem.move hm ho hc hs rfl rfl (fun _ _ => rfl) ?_
              simp only [Obj.ok, setGh_same]
              have hlen : (rows.take b).length = b := by simp; omega
              refine ⟨hlen.symm, by rw [hlen]; exact g2, ?_⟩
              rcases h4 with h4 | ⟨bb, xs, t, fz, e1, e2, e3, e4, e5, e6, e7⟩
              · exact .inl h4
              · refine .inr ⟨bb, xs, t, fz, e1, e2, e3, e4, e5, e6, ?_⟩
                have := repRows_cut (l := 0) (h := b) e7
                simpa using this
        · simp [T.run] at h
    · split at h
      · rename_i n q q2 tl
        simp only [T.run, Option.some.injEq, Prod.mk.injEq] at h
        obtain ⟨rfl, _⟩ := h
        have hs : site ∉ ids := hnew site (by simp)
        simp only [V.rep, V.repI] at hv
        subst hv
        refine ⟨_, w, G, setGh τ site ⟨none, none, 0, 0⟩, .inl rfl, ?_, ?_, Ext.refl _ _ _ _, fun i hi => setGh_ne fun e => hs (e ▸ hi)⟩
        · simp only [V.rep, setGh_same, Gh.part]
          exact ⟨none, rfl, Nat.le_refl _, Nat.le_refl _, .inl rfl⟩
        · have hst : ∀ i p, putSt st [(site, some (E.Obj.blk n [] 0))] i = some p → (i = site ∧ p = .blk n [] 0) ∨ (i ≠ site ∧ st i = some p) := by
            intro i p h
            simp only [putSt] at h
            by_cases hi : i = site
            · subst hi; simp at h; exact .inl ⟨rfl, h.symm⟩
            · have : (i == site) = false := by simpa using hi
              simp only [this, cond_false] at h; exact .inr ⟨hi, h⟩
          refine ⟨hm.gold, fun i p h => ?_, fun i p b h hb => ?_, fun i j p q b k1 k2 hb1 hb2 => ?_⟩
          · rcases hst i p h with ⟨e1, e2⟩ | ⟨n1, h⟩
            · rw [e1, e2]; simp only [Obj.ok, rowsOk, setGh_same]; exact ⟨trivial, Nat.le_refl _, .inl ⟨trivial, trivial, trivial⟩⟩
            · exact Obj.ok_mono (fun b hb => ⟨hb, rfl⟩) (fun b _ => ⟨rfl, fun h => h⟩) (setGh_ne n1) (fun j hj => setGh_ne fun e => hs (e ▸ (hc i p h).2 j hj)) (hm.ok i p h)
          · rcases hst i p h with ⟨e1, _⟩ | ⟨n1, h⟩
            · rw [e1, setGh_same] at hb; simp at hb
            · rw [setGh_ne n1] at hb; exact hm.own i p b h hb
          · rcases hst i p k1 with ⟨e1, _⟩ | ⟨n1, k1⟩ <;> rcases hst j q k2 with ⟨e2, _⟩ | ⟨n2, k2⟩
            · rw [e1, e2]
            · rw [e1, setGh_same] at hb1; simp at hb1
            · rw [e2, setGh_same] at hb2; simp at hb2
            · rw [setGh_ne n1] at hb1; rw [setGh_ne n2] at hb2; exact hm.inj i j p q b k1 k2 hb1 hb2
      · rename_i n q tl _
        simp only [T.run, Option.some.injEq, Prod.mk.injEq] at h
        obtain ⟨rfl, _⟩ := h
        simp only [V.rep, V.repI] at hv
        refine OpRes.pure hm rfl ?_
        simp only [V.rep, V.repI]
        exact ⟨none, 0, hv, Nat.le_refl _, .inl trivial⟩
      · rename_i n tl _ _
        simp only [T.run, Option.some.injEq, Prod.mk.injEq] at h
        obtain ⟨rfl, _⟩ := h
        have hs : site ∉ ids := hnew site (by simp)
        simp only [V.rep, V.repI] at hv
        subst hv
        refine ⟨_, w, G, setGh τ site ⟨none, none, 0, 0⟩, .inl rfl, ?_, ?_, Ext.refl _ _ _ _, fun i hi => setGh_ne fun e => hs (e ▸ hi)⟩
        · simp only [V.rep, setGh_same, Gh.hdr]
        · have hst : ∀ i p, putSt st [(site, some (E.Obj.arr n []))] i = some p → (i = site ∧ p = .arr n []) ∨ (i ≠ site ∧ st i = some p) := by
            intro i p h
            simp only [putSt] at h
            by_cases hi : i = site
            · subst hi; simp at h; exact .inl ⟨rfl, h.symm⟩
            · have : (i == site) = false := by simpa using hi
              simp only [this, cond_false] at h; exact .inr ⟨hi, h⟩
          refine ⟨hm.gold, fun i p h => ?_, fun i p b h hb => ?_, fun i j p q b k1 k2 hb1 hb2 => ?_⟩
          · rcases hst i p h with ⟨e1, e2⟩ | ⟨n1, h⟩
            · rw [e1, e2]; simp only [Obj.ok, rowsOk, setGh_same]; exact ⟨rfl, Nat.le_refl _, .inl ⟨trivial, trivial, trivial⟩⟩
            · exact Obj.ok_mono (fun b hb => ⟨hb, rfl⟩) (fun b _ => ⟨rfl, fun h => h⟩) (setGh_ne n1) (fun j hj => setGh_ne fun e => hs (e ▸ (hc i p h).2 j hj)) (hm.ok i p h)
          · rcases hst i p h with ⟨e1, _⟩ | ⟨n1, h⟩
            · rw [e1, setGh_same] at hb; simp at hb
            · rw [setGh_ne n1] at hb; exact hm.own i p b h hb
          · rcases hst i p k1 with ⟨e1, _⟩ | ⟨n1, k1⟩ <;> rcases hst j q k2 with ⟨e2, _⟩ | ⟨n2, k2⟩
            · rw [e1, e2]
            · rw [e1, setGh_same] at hb1; simp at hb1
            · rw [e2, setGh_same] at hb2; simp at hb2
            · rw [setGh_ne n1] at hb1; rw [setGh_ne n2] at hb2; exact hm.inj i j p q b k1 k2 hb1 hb2
      · simp [T.run] at h
    · rename_i id
      obtain ⟨o, r, ho, h, _⟩ := run_ask h
      split at h
      · rename_i n rows tl
        simp only [T.run, Option.some.injEq, Prod.mk.injEq] at h
        obtain ⟨rfl, _⟩ := h
        simp only [V.rep] at hv
        refine ⟨x, w, giveG G τ st [id], τ, .inl rfl, ?_, Mem.give hm [id], Ext.give hm [id], fun _ _ => rfl⟩
        simp only [V.rep]
        rw [hv]
        exact repI_given hm (by simp) ho
      · rename_i n rows _
        simp only [T.run, Option.some.injEq, Prod.mk.injEq] at h
        obtain ⟨rfl, _⟩ := h
        have hs : site ∉ ids := hnew site (by simp)
        have hok := hm.ok id _ ho
        refine ⟨x, w, G, setGh τ site (τ id), .inl rfl, ?_, ?_, Ext.refl _ _ _ _, fun i hi => setGh_ne fun e => hs (e ▸ hi)⟩
        · simp only [V.rep, setGh_same] at hv ⊢; exact hv
        · refine Mem.move hm ho hc hs rfl rfl (fun _ _ => rfl) ?_
          exact Obj.ok_name rfl setGh_same hok
      · simp [T.run] at h
    · simp [T.run] at h

theorem evCap_res {P : Program} {base : Nat} {X G : Nat → Prop} {τ : Nat → Gh} {st : Nat → Option E.Obj} {w : World} {ids : List Nat} {v : V} {x : Value} {e : Eff} {rs : List Nat} {s : Sem Next}
    (hm : Mem base X G τ st w) (hv : v.rep w G τ x) (hs : ∀ a n c, x = .slice a n c → s.run P w = .ok (.value (.int .i64 c)) w) (h : (evCap v).run st = some (e, rs)) : OpRes P base X ids G τ st w s e := by
  unfold evCap at h
  split at h
  · rename_i id n a b
    obtain ⟨o, r, ho, h, _⟩ := run_ask h
    split at h
    · rename_i n2 rows c
      simp only [T.run, Option.some.injEq, Prod.mk.injEq] at h
      obtain ⟨rfl, _⟩ := h
      have hok := hm.ok id _ ho
      simp only [Obj.ok] at hok
      simp only [V.rep] at hv
      obtain ⟨ad, hx, _⟩ := hv
      rw [hok.1] at hx
      exact OpRes.pure hm (hs _ _ _ hx) (by simp only [V.rep, V.repI])
    · simp [T.run] at h
  · simp only [T.run, Option.some.injEq, Prod.mk.injEq] at h
    obtain ⟨rfl, _⟩ := h
    simp only [V.rep, V.repI] at hv
    exact OpRes.pure hm (hs _ _ _ hv) (by simp only [V.rep, V.repI]; rfl)
  · simp [T.run] at h

theorem srcRows_res {P : Program} {base : Nat} {X G : Nat → Prop} {τ : Nat → Gh} {st : Nat → Option E.Obj} {w : World} {id n lim room : Nat} {o : E.Obj} {rows S : List (List V)} {ps : List Prop} {v : V} {x : Value} {rs : List Nat}
    (hm : Mem base X G τ st w) (ho : st id = some o) (hpt : o.parts = some (n, rows, lim)) (hv : v.rep w G τ x) (h : (srcRows id n rows room v).run st = some ((S, ps), rs)) (hp : ∀ p ∈ ps, p) :
    ∃ (len : Nat) (xs : List Value), (Builtin.lenOf x).run P w = .ok len w ∧ S.length = Nat.min len room ∧ (Builtin.firstCells n S.length x).run P w = .ok xs.toArray w ∧ repIL w G S.flatten xs ∧ ∀ r ∈ S, r.length = n := by
  have fromPart : ∀ {id2 a2 b2 lim2 : Nat} {o2 : E.Obj} {rows2 : List (List V)}, st id2 = some o2 → o2.parts = some (n, rows2, lim2) → (τ id2).part n a2 b2 x → a2 + min room (b2 - a2) ≤ rows2.length →
      ∃ (len : Nat) (xs : List Value), (Builtin.lenOf x).run P w = .ok len w ∧ ((rows2.drop a2).take (min room (b2 - a2))).length = Nat.min len room ∧ (Builtin.firstCells n ((rows2.drop a2).take (min room (b2 - a2))).length x).run P w = .ok xs.toArray w ∧
        repIL w G ((rows2.drop a2).take (min room (b2 - a2))).flatten xs ∧ ∀ r ∈ (rows2.drop a2).take (min room (b2 - a2)), r.length = n := by
    intro id2 a2 b2 lim2 o2 rows2 ho2 hp2 hx hk
    obtain ⟨xs, q1, q2, q3, q4⟩ := part_read (P := P) (k := min room (b2 - a2)) hm ho2 hp2 hx hk
    obtain ⟨ad, rfl, _⟩ := hx
    exact ⟨b2 - a2, xs, rfl, by rw [q3]; exact Nat.min_comm _ _, by rw [q3]; exact q1 w rfl, q2, q4⟩
  have fromTake : ∀ {rows2 : List (List V)} {a : Option Addr} {c : Nat}, x = .slice a rows2.length c → (rows2 = [] ∨ ∃ b o, a = some ⟨b, o, none⟩ ∧ repRows w G n b o rows2) →
      ∃ (len : Nat) (xs : List Value), (Builtin.lenOf x).run P w = .ok len w ∧ (rows2.take room).length = Nat.min len room ∧ (Builtin.firstCells n (rows2.take room).length x).run P w = .ok xs.toArray w ∧
        repIL w G (rows2.take room).flatten xs ∧ ∀ r ∈ rows2.take room, r.length = n := by
    intro rows2 a c hx hr
    subst hx
    refine ⟨rows2.length, ?_⟩
    rcases hr with rfl | ⟨b, o, rfl, hr⟩
    · refine ⟨[], rfl, by simp [Nat.min_def], ?_, by simp [repIL], by simp⟩
      cases a with
      | none => rfl
      | some A => simp only [List.take_nil, List.length_nil, Builtin.firstCells, Nat.zero_mul]; rfl
    · have k1 := repRows_cut (l := 0) (h := room) hr
      simp only [List.drop_zero, Nat.zero_mul, Nat.add_zero] at k1
      obtain ⟨xs, q1, q2, q3⟩ := repRows_flat k1
      refine ⟨xs, rfl, by rw [List.length_take]; exact Nat.min_comm _ _, ?_, q1, repRows_len k1⟩
      simp only [Builtin.firstCells]
      rw [← q2]
      exact run_loadCells_list w _ xs fun j y hj => by rw [add_plain]; exact q3 j y hj
  unfold srcRows at h
  split at h
  · rename_i id2 n2 a2 b2
    simp only [V.rep] at hv
    cases hid : id2 == id with
    | true =>
      simp only [hid, cond_true] at h
      cases hn : n2 == n with
      | false => simp only [hn, cond_false, T.run, reduceCtorEq] at h
      | true =>
        simp only [hn, cond_true, T.run, Option.some.injEq, Prod.mk.injEq] at h
        obtain ⟨⟨rfl, rfl⟩, _⟩ := h
        have e1 : id2 = id := by simpa using hid
        have e2 : n2 = n := by simpa using hn
        subst e1 e2
        exact fromPart ho hpt hv (hp _ (by simp))
    | false =>
      simp only [hid, cond_false] at h
      obtain ⟨o2, r, ho2, h, _⟩ := run_ask h
      split at h
      · rename_i m rows2 lim2 hp2
        cases hn : n2 == n && m == n with
        | false => simp only [hn, cond_false, T.run, reduceCtorEq] at h
        | true =>
          simp only [hn, cond_true, T.run, Option.some.injEq, Prod.mk.injEq] at h
          obtain ⟨⟨rfl, rfl⟩, _⟩ := h
          simp only [Bool.and_eq_true, beq_iff_eq] at hn
          obtain ⟨e1, e2⟩ := hn
          subst e1 e2
          exact fromPart ho2 hp2 hv (hp _ (by simp))
      · simp [T.run] at h
  · rename_i n2 rows2
    cases hn : n2 == n with
    | false => simp only [hn, cond_false, T.run, reduceCtorEq] at h
    | true =>
      simp only [hn, cond_true, T.run, Option.some.injEq, Prod.mk.injEq] at h
      obtain ⟨⟨rfl, rfl⟩, _⟩ := h
      have e1 : n2 = n := by simpa using hn
      subst e1
      simp only [V.rep, V.repI] at hv
      obtain ⟨a, c, hx, hle, hr⟩ := hv
      refine fromTake hx ?_
      rcases hr with hr | ⟨b, o, h1, _, h2⟩
      · exact .inl hr
      · exact .inr ⟨b, o, h1, h2⟩
  · simp only [T.run, Option.some.injEq, Prod.mk.injEq] at h
    obtain ⟨⟨rfl, rfl⟩, _⟩ := h
    simp only [V.rep, V.repI] at hv
    subst hv
    exact ⟨0, [], rfl, by simp [Nat.min_def], rfl, by simp [repIL], by simp⟩
  · rename_i id2
    cases hid : id2 == id with
    | true => simp only [hid, cond_true, T.run, reduceCtorEq] at h
    | false =>
      simp only [hid, cond_false] at h
      obtain ⟨o2, r, ho2, h, _⟩ := run_ask h
      split at h
      · rename_i m rows2
        cases hn : m == n with
        | false => simp only [hn, cond_false, T.run, reduceCtorEq] at h
        | true =>
          simp only [hn, cond_true, T.run, Option.some.injEq, Prod.mk.injEq] at h
          obtain ⟨⟨rfl, rfl⟩, _⟩ := h
          have e1 : m = n := by simpa using hn
          subst e1
          have hok := hm.ok id2 _ ho2
          simp only [Obj.ok] at hok
          simp only [V.rep, Gh.hdr, hok.1] at hv
          refine fromTake hv ?_
          rcases hok.2.2 with ⟨_, _, e3⟩ | ⟨b, _, _, _, _, e2, _, _, _, _, e7⟩
          · left; have := hok.2.1; apply List.eq_nil_of_length_eq_zero; omega
          · exact .inr ⟨b, 0, e2, e7⟩
      · simp [T.run] at h
  · simp [T.run] at h

/-- Where a part's writes go. -/
theorem part_addr {w : World} {G : Nat → Prop} {g : Gh} {n a b : Nat} {rows new : List (List V)} {ad : Option Addr} {A : Addr} (hro : rowsOk w G g n rows) (h : ad = g.adr.map (·.add (a * n)) ∨ (a = g.cap ∧ 0 < a)) (hb : b ≤ g.cap) (hn : new.length ≤ b - a) (hA : ad = some A) :
    new = [] ∨ ∃ blk, g.blk = some blk ∧ A = ⟨blk, a * n, none⟩ := by
  by_cases hz : new = []
  · exact .inl hz
  · have hl : 0 < new.length := List.length_pos_iff.2 hz
    rcases h with h | h
    · rcases hro.2 with ⟨_, e2, _⟩ | ⟨blk, _, _, _, e1, e2, _⟩
      · rw [h, e2] at hA; simp at hA
      · rw [h, e2] at hA
        simp only [Option.map_some, add_plain, Nat.zero_add, Option.some.injEq] at hA
        exact .inr ⟨blk, e1, hA.symm⟩
    · omega

theorem evCopy_res {P : Program} {base : Nat} {X G : Nat → Prop} {τ : Nat → Gh} {st : Nat → Option E.Obj} {w : World} {ids : List Nat} {t u ty : TypeId} {dv sv : V} {dx sx : Value} {e : Eff} {rs : List Nat}
    (hm : Mem base X G τ st w) (hd : dv.rep w G τ dx) (hs : sv.rep w G τ sx) (h : (evCopy P t dv sv).run st = some (e, rs)) (hp : ∀ p ∈ e.obs, p) :
    OpRes P base X ids G τ st w (do pure (Next.value (← Builtin.copy_ #[t, u] ty #[dx, sx]))) e := by
  unfold evCopy at h
  split at h
  · rename_i id n a b el k he
    obtain ⟨hu, hn⟩ := elemOfSlice_spec he
    obtain ⟨o, r, ho, h, _⟩ := run_ask h
    split at h
    · rename_i m rows lim hpt
      cases hmn : m == n && k == n with
      | false => simp only [hmn, cond_false, T.run, reduceCtorEq] at h
      | true =>
        simp only [hmn, cond_true] at h
        simp only [Bool.and_eq_true, beq_iff_eq] at hmn
        obtain ⟨e1, e2⟩ := hmn
        subst e1 e2
        obtain ⟨⟨S, ps⟩, r1, r2, h1, h2, _⟩ := T.run_bind_some h
        simp only [T.run, Option.some.injEq, Prod.mk.injEq] at h2
        obtain ⟨rfl, _⟩ := h2
        have p0 : a ≤ rows.length := hp _ (by simp)
        have p1 : b ≤ lim := hp _ (by simp)
        obtain ⟨len, xs, q1, q2, q3, q4, q5⟩ := srcRows_res (P := P) hm ho hpt hs h1 (fun p h => hp p (by simp [h]))
        obtain ⟨hro, g1, g2⟩ := parts_ok (hm.ok id o ho) hpt
        simp only [V.rep] at hd
        obtain ⟨ad, rfl, d1, d2, d3⟩ := hd
        have hSl : S.length ≤ b - a := by rw [q2]; exact Nat.min_le_right _ _
        obtain ⟨w', s1, s2, s3, s4, s5⟩ := write_part (a := a) P hm ho hpt q5 q4 p0 (by omega)
        refine ⟨.int .i64 (S.length : Int), w', G, τ, .inl (run_v ?_), by simp only [V.rep, V.repI], s4, s5, fun _ _ => rfl⟩
        simp only [Builtin.copy_, show (#[t, u] : Array TypeId)[0]? = some t from rfl, show (#[Value.slice ad (b - a) ((τ id).cap - a), sx] : Array Value)[0]? = some (.slice ad (b - a) ((τ id).cap - a)) from rfl,
          show (#[Value.slice ad (b - a) ((τ id).cap - a), sx] : Array Value)[1]? = some sx from rfl, Sem.run_bind, run_underlying hu, Result.andThen_ok, q1, ← q2, szOf_run hn w, q3]
        cases had : ad with
        | none =>
          have hw : w' = w := by
            rcases d3 with d3 | d3
            · rcases hro.2 with ⟨_, _, e3⟩ | ⟨blk, _, _, _, _, e2, _⟩
              · exact s3 e3
              · rw [e2, had] at d3; simp at d3
            · exact s2 (by apply List.eq_nil_of_length_eq_zero; omega)
          rw [hw]; rfl
        | some A =>
          have := s1 A (part_addr hro d3 (by omega) hSl had)
          simp only [Sem.run_bind, this, Result.andThen_ok]; rfl
    · simp [T.run] at h
  · simp [T.run] at h

theorem zeros_rep {P : Program} {w : World} {G : Nat → Prop} {t : TypeId} {z : List V} {n : Nat} (hz : zeroOf P t = some z) (hzl : z.length = n) (k : Nat) : ∃ z0 : Value, (zeroValue t).run P w = .ok z0 w ∧ z0.cells.size = n ∧
    repIL w G (List.replicate k z).flatten (Builtin.zeroCells z0.cells k).toList ∧ (Builtin.zeroCells z0.cells k).toList.length = k * n := by
  obtain ⟨z0, hz0, hz1, hz2⟩ := zeroOf_run hz w
  have hzn : z0.cells.size = n := by rw [hz1] at hzl; simpa using hzl
  have hlen : (List.replicate k z).flatten.length = k * n := by rw [flat_len (n := n) _ (fun r hr => by rw [List.eq_of_mem_replicate hr]; exact hzl)]; simp
  have hlen2 : (Builtin.zeroCells z0.cells k).toList.length = k * n := by rw [Array.length_toList, zeroCells_size, hzn]
  refine ⟨z0, hz0, hzn, repIL_of_get (by rw [hlen, hlen2]) fun j c x hjc hjx => ?_, hlen2⟩
  have hjlt : j < k * n := by rw [← hlen]; exact (List.getElem?_eq_some_iff.1 hjc).1
  rw [flat_replicate_get z k j (by rw [hzl]; exact hjlt)] at hjc
  have hn0 : 0 < n := by rcases Nat.eq_zero_or_pos n with h | h
                         · subst h; simp at hjlt
                         · exact h
  have hmod : j % n < n := Nat.mod_lt _ hn0
  have hx : x = z0.cells[j % z0.cells.size]! := by
    simp only [Builtin.zeroCells] at hjx
    rw [Array.getElem?_toList, Array.getElem?_map, Array.getElem?_range, if_pos (by rw [hzn]; exact hjlt)] at hjx
    simp only [Option.map_some, Option.some.injEq] at hjx
    exact hjx.symm
  have hin : j % z0.cells.size < z0.cells.size := by rw [hzn]; exact hmod
  have hx' : z0.cells[j % z0.cells.size]! = z0.cells[j % z0.cells.size] := by simp [hin]
  rw [hz1, List.length_map, Array.length_toList, List.getElem?_map, Array.getElem?_toList, Array.getElem?_eq_getElem hin] at hjc
  simp only [Option.map_some, Option.some.injEq] at hjc
  rw [hx, hx', ← hjc]
  exact ⟨repI_ofCell _, hz2 _ (by simp)⟩

theorem evClear_res {P : Program} {base : Nat} {X G : Nat → Prop} {τ : Nat → Gh} {st : Nat → Option E.Obj} {w : World} {ids : List Nat} {t ty : TypeId} {v : V} {x : Value} {e : Eff} {rs : List Nat}
    (hm : Mem base X G τ st w) (hv : v.rep w G τ x) (h : (evClear P t v).run st = some (e, rs)) (hp : ∀ p ∈ e.obs, p) :
    OpRes P base X ids G τ st w (do pure (Next.value (← Builtin.clear_ #[t] ty #[x]))) e := by
  unfold evClear at h
  split at h
  · rename_i id n a b el k z he hz
    obtain ⟨hu, hn⟩ := elemOfSlice_spec he
    rw [elemOf_spec he] at hz
    obtain ⟨o, r, ho, h, _⟩ := run_ask h
    split at h
    · rename_i m rows lim hpt
      cases hmn : m == n && (k == n && z.length == n) with
      | false => simp only [hmn, cond_false, T.run, reduceCtorEq] at h
      | true =>
        simp only [hmn, cond_true, T.run, Option.some.injEq, Prod.mk.injEq] at h
        obtain ⟨rfl, _⟩ := h
        simp only [Bool.and_eq_true, beq_iff_eq] at hmn
        obtain ⟨e1, e2, e3⟩ := hmn
        subst e1 e2
        have p0 : a ≤ rows.length := hp _ (by simp)
        have p1 : b ≤ lim := hp _ (by simp)
        obtain ⟨hro, g1, g2⟩ := parts_ok (hm.ok id o ho) hpt
        simp only [V.rep] at hv
        obtain ⟨ad, rfl, d1, d2, d3⟩ := hv
        obtain ⟨z0, y1, y2, y3, y4⟩ := zeros_rep (w := w) (G := G) hz e3 (b - a)
        obtain ⟨w', s1, s2, s3, s4, s5⟩ := write_part (a := a) (new := List.replicate (b - a) z) P hm ho hpt (fun r hr => by rw [List.eq_of_mem_replicate hr]; exact e3) y3 p0 (by simp; omega)
        refine ⟨.tuple #[], w', G, τ, .inl (run_v ?_), by simp only [V.rep], s4, s5, fun _ _ => rfl⟩
        by_cases hba : b - a = 0
        · have hw : w' = w := s2 (by rw [hba]; rfl)
          rw [hw, hba]
          cases ad with
          | none =>
            simp only [Builtin.clear_, show (#[t] : Array TypeId)[0]? = some t from rfl, show (#[Value.slice none 0 ((τ id).cap - a)] : Array Value)[0]? = some (.slice none 0 ((τ id).cap - a)) from rfl, Sem.run_bind, run_underlying hu, Result.andThen_ok]
            rfl
          | some A =>
            simp only [Builtin.clear_, show (#[t] : Array TypeId)[0]? = some t from rfl, show (#[Value.slice (some A) 0 ((τ id).cap - a)] : Array Value)[0]? = some (.slice (some A) 0 ((τ id).cap - a)) from rfl, Sem.run_bind, run_underlying hu, Result.andThen_ok]
            rfl
        · cases had : ad with
          | none =>
            exfalso
            rcases d3 with d3 | d3
            · rcases hro.2 with ⟨_, _, e3⟩ | ⟨blk, _, _, _, _, e2, _⟩
              · omega
              · rw [e2, had] at d3; simp at d3
            · omega
          | some A =>
            have := s1 A (part_addr hro d3 (by omega) (by simp) had)
            obtain ⟨q, hq⟩ : ∃ q, b - a = q + 1 := ⟨b - a - 1, by omega⟩
            rw [hq] at this ⊢
            simp only [Builtin.clear_, show (#[t] : Array TypeId)[0]? = some t from rfl, show (#[Value.slice (some A) (q + 1) ((τ id).cap - a)] : Array Value)[0]? = some (.slice (some A) (q + 1) ((τ id).cap - a)) from rfl, Sem.run_bind, run_underlying hu, Result.andThen_ok, y1, this]
            rfl
    · simp [T.run] at h
  · simp [T.run] at h

theorem evAppendIn_res {P : Program} {base : Nat} {X G : Nat → Prop} {τ : Nat → Gh} {st : Nat → Option E.Obj} {w : World} {ids : List Nat} {t u ty : TypeId} {id n a b : Nat} {v : V} {bx x : Value} {e : Eff} {rs : List Nat}
    (hm : Mem base X G τ st w) (hb : (V.vw id n a b).rep w G τ bx) (hv : v.rep w G τ x) (h : (evAppendIn P t u id n a b v).run st = some (e, rs)) (hp : ∀ p ∈ e.obs, p) :
    OpRes P base X ids G τ st w (do pure (Next.value (← Builtin.append_ #[t, u] ty #[bx, x]))) e := by
  unfold evAppendIn at h
  split at h
  · rename_i el k el2 k2 he he2
    obtain ⟨hu, hn⟩ := elemOfSlice_spec he
    obtain ⟨hu2, hn2⟩ := elemOfSlice_spec he2
    obtain ⟨o, r, ho, h, _⟩ := run_ask h
    split at h
    · rename_i m rows lim hpt
      cases hmn : m == n && (k == n && k2 == n) with
      | false => simp only [hmn, cond_false, T.run, reduceCtorEq] at h
      | true =>
        simp only [hmn, cond_true] at h
        simp only [Bool.and_eq_true, beq_iff_eq] at hmn
        obtain ⟨e1, e2, e3⟩ := hmn
        subst e1 e2
        split at h
        · rename_i id2 n2 a2 b2 hvv
          cases hid : id2 == id && n2 == k with
          | false => simp only [hid, cond_false, T.run, reduceCtorEq] at h
          | true =>
            simp only [hid, cond_true, T.run, Option.some.injEq, Prod.mk.injEq] at h
            obtain ⟨rfl, _⟩ := h
            simp only [Bool.and_eq_true, beq_iff_eq] at hid
            obtain ⟨f1, f2⟩ := hid
            subst f1 f2
            have p0 : b ≤ rows.length := hp _ (by simp)
            have p1 : b2 ≤ rows.length := hp _ (by simp)
            have p2 : b + (b2 - a2) ≤ lim := hp _ (by simp)
            obtain ⟨hro, g1, g2⟩ := parts_ok (hm.ok id2 o ho) hpt
            simp only [V.rep] at hb hv
            have hv' := hv
            obtain ⟨ad2, hx2, c1, c2, _⟩ := hv'
            obtain ⟨xs, q1, q2, q3, q4⟩ := part_read (P := P) (k := b2 - a2) hm ho hpt hv (by omega)
            obtain ⟨ad, rfl, d1, d2, d3⟩ := hb
            obtain ⟨w', s1, s2, s3, s4, s5⟩ := write_part (a := b) P hm ho hpt q4 q2 p0 (by rw [q3]; exact p2)
            refine ⟨.slice ad (b - a + (b2 - a2)) ((τ id2).cap - a), w', G, τ, .inl (run_v ?_), ?_, s4, s5, fun _ _ => rfl⟩
            · have hne : P.underlying u = some (.slice el2) := hu2
              have hlen : (Builtin.lenOf x).run P w = .ok (b2 - a2) w := by rw [hx2]; rfl
              have hfit : b - a + (b2 - a2) ≤ (τ id2).cap - a := by omega
              simp only [Builtin.append_, show (#[t, u] : Array TypeId)[0]? = some t from rfl, show (#[Value.slice ad (b - a) ((τ id2).cap - a), x] : Array Value)[0]? = some (.slice ad (b - a) ((τ id2).cap - a)) from rfl,
                show (#[Value.slice ad (b - a) ((τ id2).cap - a), x] : Array Value)[1]? = some x from rfl, Sem.run_bind, run_underlying hu, Result.andThen_ok, szOf_run hn w]
              simp only [show (#[t, u] : Array TypeId)[1]? = some u from rfl, Sem.run_bind, run_underlying hne, Sem.run_pure, Result.andThen_ok, Bool.false_eq_true, if_false, hlen, Bool.not_false, if_true, if_pos hfit, q1 w rfl]
              cases had : ad with
              | none =>
                have hw : w' = w := by
                  rcases d3 with d3 | d3
                  · rcases hro.2 with ⟨_, _, e3⟩ | ⟨blk, _, _, _, _, e2, _⟩
                    · exact s3 e3
                    · rw [e2, had] at d3; simp at d3
                  · exact s2 (by apply List.eq_nil_of_length_eq_zero; rw [q3]; omega)
                rw [hw]; rfl
              | some A =>
                have hA : (rows.drop a2).take (b2 - a2) = [] ∨ ∃ blk, (τ id2).blk = some blk ∧ A.add ((b - a) * n2) = ⟨blk, b * n2, none⟩ := by
                  by_cases hz : b2 - a2 = 0
                  · left; rw [hz]; simp
                  · right
                    rcases d3 with d3 | d3
                    · rcases hro.2 with ⟨_, e2, _⟩ | ⟨blk, _, _, _, e1, e2, _⟩
                      · rw [d3, e2] at had; simp at had
                      · rw [d3, e2] at had
                        simp only [Option.map_some, add_plain, Nat.zero_add, Option.some.injEq] at had
                        refine ⟨blk, e1, ?_⟩
                        rw [← had, add_plain, ← Nat.add_mul]
                        congr 2; omega
                    · omega
                have := s1 _ hA
                simp only [Sem.run_bind, this, Result.andThen_ok]; rfl
            · simp only [V.rep]
              exact ⟨ad, by congr 1; omega, by omega, by omega, d3⟩
        · simp [T.run] at h
    · simp [T.run] at h
  · simp [T.run] at h

theorem appendTo_new {P : Program} {st : Nat → Option E.Obj} {site n : Nat} {el : TypeId} {bv : V} {new : List (List V)} {e : Eff} {rs : List Nat} (h : (appendTo P site el n bv new).run st = some (e, rs)) : site ∈ e.new := by
  revert h
  unfold appendTo
  split
  · intro h2; simp only [T.run, Option.some.injEq, Prod.mk.injEq] at h2; obtain ⟨rfl, _⟩ := h2; simp
  · intro h2
    obtain ⟨o, r, _, h3, _⟩ := run_ask h2
    split at h3
    · rename_i m rows _
      cases hmn : m == n with
      | false => simp only [hmn, cond_false, T.run, reduceCtorEq] at h3
      | true => simp only [hmn, cond_true, T.run, Option.some.injEq, Prod.mk.injEq] at h3; obtain ⟨rfl, _⟩ := h3; simp
    · simp [T.run] at h3
  · intro h2; simp [T.run] at h2

theorem evAppendVw_res {P : Program} {base : Nat} {X G : Nat → Prop} {τ : Nat → Gh} {st : Nat → Option E.Obj} {w : World} {ids : List Nat} {site : Nat} {t u ty : TypeId} {bv : V} {id2 n2 a2 b2 : Nat} {bx x : Value} {e : Eff} {rs : List Nat}
    (hm : Mem base X G τ st w) (hbase : base ≤ w.heap.size) (hc : Closed ids st) (hnew : ∀ i ∈ e.new, i ∉ ids) (hb : bv.rep w G τ bx) (hv : (V.vw id2 n2 a2 b2).rep w G τ x)
    (h : (evAppendVw P site t u bv id2 n2 a2 b2).run st = some (e, rs)) (hp : ∀ p ∈ e.obs, p) :
    OpRes P base X ids G τ st w (do pure (Next.value (← Builtin.append_ #[t, u] ty #[bx, x]))) e := by
  unfold evAppendVw at h
  split at h
  · rename_i el n d z he hd hz
    rw [elemOf_spec he] at hz
    cases hq : Nat.ble 1 n && (z.length == n && (Nat.ble 1 (bytesOf P el) && n2 == n)) with
    | false => simp only [hq, cond_false, T.run, reduceCtorEq] at h
    | true =>
      simp only [hq, cond_true] at h
      simp only [Bool.and_eq_true, beq_iff_eq] at hq
      obtain ⟨_, f2, f3, f4⟩ := hq
      have f3' := Nat.le_of_ble_eq_true f3
      subst f4
      obtain ⟨o, r, ho, h, _⟩ := run_ask h
      split at h
      · rename_i m rows lim hpt
        cases hmn : m == n2 with
        | false => simp only [hmn, cond_false, T.run, reduceCtorEq] at h
        | true =>
          simp only [hmn, cond_true] at h
          have hmn' : m = n2 := by simpa using hmn
          subst hmn'
          obtain ⟨e0, r1, r2, h1, h2, _⟩ := T.run_bind_some h
          simp only [T.run, Option.some.injEq, Prod.mk.injEq] at h2
          obtain ⟨rfl, _⟩ := h2
          have p0 : b2 ≤ rows.length := hp _ (by simp)
          have hsite : site ∉ ids := hnew site (show site ∈ e0.new from appendTo_new h1)
          simp only [V.rep] at hv
          have hv' := hv
          obtain ⟨ad2, hx2, c1, c2, _⟩ := hv'
          obtain ⟨xs, q1, q2, q3, q4⟩ := part_read (P := P) (k := b2 - a2) hm ho hpt hv (by omega)
          have hl : (Builtin.lenOf x).run P w = .ok ((rows.drop a2).take (b2 - a2)).length w := by rw [hx2, q3]; rfl
          obtain ⟨x', w', G', τ', k1, k2, k3, k4, k5⟩ := append_core (ty := ty) (xs := xs) hm hbase hc hsite hb he hz f2 (.inr ⟨_, hd⟩) f3' hl (by rw [q3]; exact q1) q2 (by rw [← repIL_length q2, flat_len _ q4]) q4 h1 (fun p hp' => hp p (by simp [hp']))
          exact ⟨x', w', G', τ', k1, k2, k3, k4, k5⟩
      · simp [T.run] at h
  · simp [T.run] at h

theorem evGrow_res {P : Program} {base : Nat} {X G : Nat → Prop} {τ : Nat → Gh} {st : Nat → Option E.Obj} {w : World} {ids : List Nat} {site : Nat} {t u ty : TypeId} {id n a b : Nat} {bx : Value} {x : Int} {e : Eff} {rs : List Nat}
    (hm : Mem base X G τ st w) (hbase : base ≤ w.heap.size) (hc : Closed ids st) (hnew : ∀ i ∈ e.new, i ∉ ids) (hb : (V.vw id n a b).rep w G τ bx) (hu2 : isIntT P u = true) (h : (evGrow P site t id n a b x).run st = some (e, rs)) (hp : ∀ p ∈ e.obs, p) :
    OpRes P base X ids G τ st w (do pure (Next.value (← Builtin.append_ #[t, u] ty #[bx, .int .i64 x]))) e := by
  unfold evGrow at h
  split at h
  · rename_i el k he
    obtain ⟨hu, hn⟩ := elemOfSlice_spec he
    split at h
    · rename_i z hz
      obtain ⟨o, r, ho, h, _⟩ := run_ask h
      split at h
      · rename_i m rows c
        cases hmn : m == n && (k == n && (z.length == n && (Nat.ble 1 n && Nat.ble 1 (bytesOf P el)))) with
        | false => simp only [hmn, cond_false, T.run, reduceCtorEq] at h
        | true =>
          simp only [hmn, cond_true, T.run, Option.some.injEq, Prod.mk.injEq] at h
          obtain ⟨rfl, _⟩ := h
          simp only [Bool.and_eq_true, beq_iff_eq] at hmn
          obtain ⟨e1, e2, e3, e4, e5⟩ := hmn
          subst e1 e2
          have e4' := Nat.le_of_ble_eq_true e4
          have e5' := Nat.le_of_ble_eq_true e5
          have p0 : b ≤ rows.length := hp _ (by simp)
          have p1 : 0 ≤ x := hp _ (by simp)
          have p2 : c < b + x.toNat := hp _ (by simp)
          have p3 : (b - a + x.toNat) * bytesOf P el ≤ 2 ^ 47 := hp _ (by simp)
          have hs : site ∉ ids := hnew site (by simp)
          have hpt : (E.Obj.blk k rows c).parts = some (k, rows, c) := rfl
          have hok := hm.ok id _ ho
          simp only [Obj.ok] at hok
          obtain ⟨q, rfl⟩ : ∃ q : Nat, x = (q : Int) := ⟨x.toNat, by omega⟩
          simp only [Int.toNat_natCast] at p2 p3 ⊢
          simp only [V.rep] at hb
          obtain ⟨xs, y1, y2, y3, y4⟩ := part_read (P := P) (k := b - a) hm ho hpt hb (by obtain ⟨_, _, d1, _⟩ := hb; omega)
          obtain ⟨ad, rfl, d1, d2, d3⟩ := hb
          have hq : b - a + q ≤ 2 ^ 47 := Nat.le_trans (by have := Nat.mul_le_mul_left (b - a + q) e5'; omega) p3
          have hwr : IntKind.i64.wrap (q : Int) = (q : Int) := Go.IntWalk.i64_in _ (by constructor <;> omega)
          obtain ⟨i, hi, hib⟩ := bytesOf_run hn w
          obtain ⟨z0, hz0, hzn, _, _⟩ := zeros_rep (w := w) (G := G) hz e3 q
          have hi' : (typeInfo el).run P w.drew = .ok i w.drew := by
            have : P.info? el = some i := by
              unfold typeInfo at hi
              simp only [Sem.run_bind, run_program, Result.andThen_ok] at hi
              cases hq : P.info? el with
              | none => simp [hq] at hi
              | some j => simp only [hq, Sem.run_pure, Result.ok.injEq] at hi; rw [hi.1]
            simp [typeInfo, this]
          have hzz : (zeroValue el).run P w.drew = .ok z0 w.drew := by
            obtain ⟨z1, hz1', _, _⟩ := zeroOf_run hz w.drew
            have h3 := hz0
            have h4 := hz1'
            unfold zeroValue at h3 h4 ⊢
            simp only [Sem.run_bind, hi, hi', Result.andThen_ok] at h3 h4 ⊢
            cases hq : i.zero with
            | none => simp [hq] at h3
            | some j => simp only [hq, Sem.run_pure, Result.ok.injEq] at h3 ⊢; exact ⟨h3.1, trivial⟩
          obtain ⟨_, _, hzr, hzl⟩ : ∃ z1 : Value, True ∧ repIL w G (List.replicate q z).flatten (Builtin.zeroCells z0.cells q).toList ∧ (Builtin.zeroCells z0.cells q).toList.length = q * k := by
            obtain ⟨z1, g1, _, g3, g4⟩ := zeros_rep (w := w) (G := G) hz e3 q
            rw [hz0] at g1
            cases g1
            exact ⟨z0, trivial, g3, g4⟩
          have hxl : xs.length = (b - a) * k := by rw [← repIL_length y2, flat_len _ y4, y3]
          have hrows : (rows.take b).drop a = (rows.drop a).take (b - a) := by rw [List.drop_take]
          have hcap : ¬ (b - a + q ≤ (τ id).cap - a) := by omega
          have hgb := grow_bound p3 (cap := (τ id).cap - a) (by omega)
          have hrl : ((rows.take b).drop a ++ List.replicate q z).length = b - a + q := by rw [hrows, List.length_append, y3]; simp
          have hall : ∀ rw ∈ (rows.take b).drop a ++ List.replicate q z, rw.length = k := by
            intro rw hrw
            rw [List.mem_append] at hrw
            rcases hrw with hrw | hrw
            · rw [hrows] at hrw; exact y4 rw hrw
            · rw [List.eq_of_mem_replicate hrw]; exact e3
          have hge : b - a + q ≤ (Question.appendCap (b - a + q) ((τ id).cap - a) el).cut (w.tape w.drawn (.appendCap (b - a + q) ((τ id).cap - a) el)) := by show b - a + q ≤ b - a + q + _; omega
          generalize hnc : (Question.appendCap (b - a + q) ((τ id).cap - a) el).cut (w.tape w.drawn (.appendCap (b - a + q) ((τ id).cap - a) el)) = nc at hge
          refine arr_new (ws := []) (w1 := w.drew) (c := xs.toArray ++ Builtin.zeroCells z0.cells q ++ Builtin.zeroCells z0.cells (nc - (b - a + q))) (cap := nc) (t := el) (fz := (0, 0)) hm (Ext.refl _ _ _ _) hbase hc hs rfl rfl rfl rfl hall (by rw [hrl]; exact hge) ?_ (fun i _ hi => by omega) ?_ (run_v ?_)
          · simp only [Array.size_append, List.size_toArray, zeroCells_size, hzn, hxl]
            rw [← Nat.add_mul, ← Nat.add_mul]; congr 1; omega
          · rw [hrl]
            simp only [Array.toList_append]
            rw [List.take_left' (by rw [List.length_append, hzl, Nat.add_mul, ← hxl])]
            rw [List.flatten_append, hrows]
            exact repIL_append y2 hzr
          · obtain ⟨kk, hkk⟩ : ∃ kk, P.underlying u = some (.int kk) := by
              unfold isIntT at hu2
              split at hu2
              · rename_i kk hk; exact ⟨kk, hk⟩
              · simp at hu2
            rw [hrl]
            simp only [Builtin.append_, show (#[t, u] : Array TypeId)[0]? = some t from rfl, show (#[Value.slice ad (b - a) ((τ id).cap - a), .int .i64 (q : Int)] : Array Value)[0]? = some (.slice ad (b - a) ((τ id).cap - a)) from rfl,
              show (#[Value.slice ad (b - a) ((τ id).cap - a), .int .i64 (q : Int)] : Array Value)[1]? = some (.int .i64 (q : Int)) from rfl, Sem.run_bind, run_underlying hu, Result.andThen_ok, szOf_run hn w]
            simp only [show (#[t, u] : Array TypeId)[1]? = some u from rfl, Sem.run_bind, run_underlying hkk, Sem.run_pure, Result.andThen_ok, if_true, asInt, asIntOf, hwr, hi, hib, Bool.not_true, Bool.false_eq_true, if_false]
            rw [if_neg (by omega)]
            simp only [Sem.run_bind, hi, Result.andThen_ok, hib]
            rw [if_neg (by have : ((q : Int) * (bytesOf P el : Int)) = ((q * bytesOf P el : Nat) : Int) := by push_cast; rfl
                           rw [this]; have := Nat.mul_le_mul_right (bytesOf P el) (show q ≤ b - a + q by omega); omega)]
            simp only [Sem.run_pure, Result.andThen_ok, Int.toNat_natCast, if_neg hcap, Sem.run_bind, hi, hib, true_or, and_true]
            rw [if_neg (by have : IntKind.i64.max = 9223372036854775807 := rfl
                           rw [this]; omega)]
            simp only [Sem.run_bind, hi, Result.andThen_ok, hib, if_neg hgb]
            simp only [run_choose_drew, Question.forced, Bool.false_eq_true, if_false, Result.andThen_ok, hi', hib, run_askRoom, Sem.run_bind, y1 w.drew rfl, hzz, newRow, run_newObj_alloc, Sem.run_pure, hnc]
            by_cases h0 : q * k = 0
            · rw [if_pos h0]
              have hz1 : Builtin.zeroCells z0.cells q = #[] := by
                apply Array.eq_empty_of_size_eq_zero; rw [zeroCells_size, hzn]; exact h0
              rw [hz1]
              simp only [Sem.run_pure, Result.andThen_ok, hzz, Sem.run_bind, run_newObj_alloc]
              rfl
            · rw [if_neg h0]
              simp only [Sem.run_bind, hzz, Sem.run_pure, Result.andThen_ok, run_newObj_alloc]
              rfl
      · simp [T.run] at h
    · simp [T.run] at h
  · simp [T.run] at h

/-- A slice that is owned and a part of another one do not meet. -/
theorem overlaps_run {P : Program} {base : Nat} {X G : Nat → Prop} {τ : Nat → Gh} {st : Nat → Option E.Obj} {w : World} {id id2 n a b lim : Nat} {o : E.Obj} {rows r2 : List (List V)} {x y : Value} {g : FuncId}
    (hm : Mem base X G τ st w) (ho1 : st id2 = some (.arr n rows)) (ho : st id = some o) (hid : id2 ≠ id) (hpt : o.parts = some (n, r2, lim)) (hx : (V.own id2).rep w G τ x) (hy : (V.vw id n a b).rep w G τ y)
    (hg : IsOverlaps P g n) (hr : 0 < rows.length) (hab : a < b) :
    (callFunc g #[x, y]).run P w = .ok (.value (.bool false)) w := by
  obtain ⟨fn, t, r, el, f1, f2, f3, f4, f5, f6, f7, f8⟩ := hg
  rw [run_callFunc_extern f1 f2 f3 f4 f5]
  simp only [V.rep, Gh.hdr] at hx hy
  obtain ⟨ad, rfl, d1, d2, d3⟩ := hy
  obtain ⟨hro, _, _⟩ := parts_ok (hm.ok id o ho) hpt
  have hok1 := hm.ok id2 _ ho1
  simp only [Obj.ok] at hok1
  rcases hro.2 with ⟨_, e2, e3⟩ | ⟨bb, ys, ty, fz, e1, e2, e3, e4, e5, e6, _⟩
  · omega
  · rcases hok1.2.2 with ⟨_, h2, h3⟩ | ⟨bx, xs, tx, fx, h1, h2, h3, h4, h5, h6, _⟩
    · have := hok1.2.1; omega
    · have hB : ad = some ⟨bb, a * n, none⟩ := by
        rcases d3 with d3 | d3
        · rw [e2] at d3; simpa [add_plain] using d3
        · omega
      subst hB
      rw [h2] at hx
      subst hx
      have hne : bx ≠ bb := fun e => hid (hm.inj id2 id _ o bx ho1 ho h1 (e ▸ e1))
      have hmul : (a + 1) * n ≤ (τ id).cap * n := Nat.mul_le_mul_right n (by omega)
      rw [Nat.add_mul] at hmul
      have free : ∀ i, i ≤ xs.size → w.frozen? ⟨bx, i, none⟩ = false := by
        intro i hi
        have := h5 i (by omega)
        simp only [World.frozen?, h3]
        rw [Bool.and_eq_false_iff, decide_eq_false_iff_not, decide_eq_false_iff_not]
        by_cases h : fx.1 ≤ i
        · exact .inr fun h2 => this ⟨h, h2⟩
        · exact .inl h
      rw [Lib.run_overlaps_apart w t r el f6 n (fun w => szOf_run f7 w) ⟨bx, 0, none⟩ ⟨bb, a * n, none⟩ _ _ _ _ hne tx ty xs.size ys.size (by simp [World.shape?, h3]) (by simp [World.shape?, e3]) (by omega) (free 0 (by omega)) (free xs.size (Nat.le_refl _))]
      rfl

theorem recastW_spec : ∀ {ws ws' : List (Nat × Option E.Obj)} {r : List (List V)} {ps : List Prop}, recastW ws r = some (ws', ps) → (∀ p ∈ ps, p) → ws' = ws
  | [], _, _, _, h, _ => by simp [recastW] at h
  | [(i, none)], _, _, _, h, _ => by simp [recastW] at h
  | [(i, some (.box cs))], _, _, _, h, _ => by simp [recastW] at h
  | [(i, some (.arr n r0))], _, r, _, h, hp => by
    simp only [recastW, Option.some.injEq, Prod.mk.injEq] at h
    obtain ⟨rfl, rfl⟩ := h
    have : r0 = r := hp _ (by simp)
    rw [this]
  | [(i, some (.blk n r0 c))], _, r, _, h, hp => by
    simp only [recastW, Option.some.injEq, Prod.mk.injEq] at h
    obtain ⟨rfl, rfl⟩ := h
    have : r0 = r := hp _ (by simp)
    rw [this]
  | x :: y :: l, ws', r, ps, h, hp => by
    simp only [recastW] at h
    split at h
    · rename_i l' ps' hl
      simp only [Option.some.injEq, Prod.mk.injEq] at h
      obtain ⟨rfl, rfl⟩ := h
      rw [recastW_spec hl hp]
    · simp at h

theorem recast_spec {st : Nat → Option E.Obj} : ∀ {as : List Ans} {e e' : Eff} {rs : List Nat}, (recast as e).run st = some (e', rs) → (∀ p ∈ e'.obs, p) → e'.v = e.v ∧ e'.ws = e.ws ∧ e'.new = e.new ∧ ∀ p ∈ e.obs, p
  | [], e, e', rs, h, hp => by
    simp only [recast, T.run, Option.some.injEq, Prod.mk.injEq] at h
    obtain ⟨rfl, _⟩ := h
    exact ⟨rfl, rfl, rfl, hp⟩
  | a :: as, e, e', rs, h, hp => by
    simp only [recast] at h
    obtain ⟨e1, r1, r2, h1, h2, _⟩ := T.run_bind_some h
    obtain ⟨k1, k2, k3, k4⟩ := recast_spec h2 hp
    have : e1.v = e.v ∧ e1.ws = e.ws ∧ e1.new = e.new ∧ ∀ p ∈ e.obs, p := by
      unfold recast1 at h1
      split at h1
      · split at h1
        · rename_i k x k' y hv
          cases hk : decide (k = k') with
          | false => simp only [hk, cond_false, T.run, reduceCtorEq] at h1
          | true =>
            simp only [hk, cond_true, T.run, Option.some.injEq, Prod.mk.injEq] at h1
            obtain ⟨rfl, _⟩ := h1
            have hxy : x = y := k4 _ (by simp)
            have hkk : k = k' := of_decide_eq_true hk
            exact ⟨by simp only [hv, hxy, hkk], rfl, rfl, fun p hpm => k4 p (by simp [hpm])⟩
        · rename_i x y hv
          simp only [T.run, Option.some.injEq, Prod.mk.injEq] at h1
          obtain ⟨rfl, _⟩ := h1
          have hxy : x = y := k4 _ (by simp)
          exact ⟨by simp only [hv, hxy], rfl, rfl, fun p hpm => k4 p (by simp [hpm])⟩
        · rename_i n x n' y hv
          cases hk : n == n' with
          | false => simp only [hk, cond_false, T.run, reduceCtorEq] at h1
          | true =>
            simp only [hk, cond_true, T.run, Option.some.injEq, Prod.mk.injEq] at h1
            obtain ⟨rfl, _⟩ := h1
            have hxy : x = y := k4 _ (by simp)
            have hkk : n = n' := by simpa using hk
            exact ⟨by simp only [hv, hxy, hkk], rfl, rfl, fun p hpm => k4 p (by simp [hpm])⟩
        · rename_i id n a b id' n' a' b' hv
          cases hk : id == id' && n == n' with
          | false => simp only [hk, cond_false, T.run, reduceCtorEq] at h1
          | true =>
            simp only [hk, cond_true, T.run, Option.some.injEq, Prod.mk.injEq] at h1
            obtain ⟨rfl, _⟩ := h1
            have ha : a = a' := k4 _ (by simp)
            have hb : b = b' := k4 _ (by simp)
            simp only [Bool.and_eq_true, beq_iff_eq] at hk
            exact ⟨by simp only [hv, ha, hb, hk.1, hk.2], rfl, rfl, fun p hpm => k4 p (by simp [hpm])⟩
        · simp [T.run] at h1
      · split at h1
        · rename_i _ i k es0 hw
          simp only [T.run, Option.some.injEq, Prod.mk.injEq] at h1
          obtain ⟨rfl, _⟩ := h1
          have he := k4 _ (List.mem_append.2 (.inr (List.mem_singleton.2 rfl)))
          exact ⟨rfl, by simp only [hw, he], rfl, fun p hpm => k4 p (by simp [hpm])⟩
        · simp [T.run] at h1
      · split at h1
        · rename_i ws ps hw
          simp only [T.run, Option.some.injEq, Prod.mk.injEq] at h1
          obtain ⟨rfl, _⟩ := h1
          exact ⟨rfl, recastW_spec hw (fun p hpm => k4 p (by simp [hpm])), rfl, fun p hpm => k4 p (by simp [hpm])⟩
        · simp [T.run] at h1
      · simp only [T.run, Option.some.injEq, Prod.mk.injEq] at h1
        obtain ⟨rfl, _⟩ := h1
        exact ⟨rfl, rfl, rfl, k4⟩
    exact ⟨k1.trans this.1, k2.trans this.2.1, k3.trans this.2.2.1, this.2.2.2⟩

theorem evBoxA_res {P : Program} {base : Nat} {X G : Nat → Prop} {τ : Nat → Gh} {st : Nat → Option E.Obj} {w : World} {ids : List Nat} {site : Nat} {ans : List Ans} {t : TypeId} {v : V} {x : Value} {e : Eff} {rs : List Nat}
    (hm : Mem base X G τ st w) (hbase : base ≤ w.heap.size) (hc : Closed ids st) (hv : v.rep w G τ x) (hi : ∀ i ∈ v.ids, i ∈ ids) (hnew : ∀ i ∈ e.new, i ∉ ids) (h : (evBoxA site ans v).run st = some (e, rs)) :
    OpRes P base X ids G τ st w (do pure (Next.value (← Instr.box t x))) e := by
  unfold evBoxA at h
  split at h
  · rename_i n tl hcs
    simp only [T.run, Option.some.injEq, Prod.mk.injEq] at h
    obtain ⟨rfl, _⟩ := h
    have hs1 : site + 1 ∉ ids := hnew _ (by simp)
    have hs2 : site ∉ ids := hnew _ (by simp)
    obtain ⟨h1, _, _, _⟩ := cells_rep hcs hv
    obtain ⟨y, hxy, hy⟩ : ∃ y, x.cells.toList = [y] ∧ V.nil.rep w G τ y := by
      match hq : x.cells.toList with
      | [] => rw [hq] at h1; simp [repL] at h1
      | [y] => rw [hq] at h1; simp only [repL] at h1; exact ⟨y, rfl, h1.1⟩
      | y :: z :: l => rw [hq] at h1; simp [repL] at h1
    obtain ⟨y', w', G', τ', hrun, hr, hm', hext, hkeep⟩ := evMove_res (P := P) (site := site + 1) (ans := [.idx n]) (v := .nil) (x := y) (e := ⟨.own (site + 1), [(site + 1, some (.arr n []))], [], [site + 1]⟩) (rs := []) hm hc (by simpa using hs1) hy rfl (by simp)
    obtain ⟨rfl, rfl⟩ : y = y' ∧ w = w' := by
      rcases hrun with h | ⟨h, _⟩
      · have h' : (Result.ok (Next.value y) w : Result Next) = .ok (.value y') w' := h
        simp only [Result.ok.injEq, Next.value.injEq] at h'
        exact h'
      · have h' : (Result.ok (Next.value y) w : Result Next) = .ok .skip w' := h
        simp at h'
    have hc' : Closed ((site + 1) :: ids) (putSt st [(site + 1, some (E.Obj.arr n []))]) := by
      intro i o h
      simp only [putSt] at h
      by_cases hi : i = site + 1
      · subst hi
        simp at h
        subst h
        exact ⟨by simp, by simp [idsObj]⟩
      · have : (i == site + 1) = false := by simpa using hi
        simp only [this, cond_false] at h
        have := hc i o h
        exact ⟨List.mem_cons_of_mem _ this.1, fun j hj => List.mem_cons_of_mem _ (this.2 j hj)⟩
    obtain ⟨z, w2, G2, τ2, hrun2, hr2, hm2, hext2, hkeep2⟩ := box_new (s := do pure (Next.value (← Instr.box t x))) (site := site) P t x (cs := [.own (site + 1)]) hm' hbase hc' (by simp; exact hs2) (by simp [idsL, V.ids]) (by rw [hxy]; simp only [repL]; exact ⟨hr, trivial⟩) (run_v (by simp [Instr.box, newVar, newRow]))
    exact ⟨z, w2, G2, τ2, hrun2, hr2, hm2, hext.trans hext2, fun i hi => (hkeep2 i (by simp [hi])).trans (hkeep i hi)⟩
  · exact evBox_res hm hbase hc hv hi hnew h

end Go.Proofs.Ytieffigehkjifaa.E

/- The engine, part Mp (behind V): maps from integers to bools. -/
namespace Go.Proofs.Ytieffigehkjifaa.E
open Go
set_option linter.unusedSimpArgs false

theorem findNow_mapIs {k : IntKind} {n : Int} : ∀ (es : List (Int × Bool)) (m : List MapEntry) (i : Nat), mapIs k es m →
    Instr.findNow (.int k) (.int k n) m i = some (match es.findIdx? (fun p => n == p.1) with
      | some j => (es[j]?).map fun p => (i + j, Value.bool p.2)
      | none => none)
  | [], m, i, h => by
    simp only [mapIs, List.map_nil, List.map_eq_nil_iff] at h
    subst h
    rfl
  | p :: es, m, i, h => by
    cases m with
    | nil => simp [mapIs] at h
    | cons e m =>
      simp only [mapIs, List.map_cons, List.cons.injEq, Prod.mk.injEq] at h
      obtain ⟨⟨h1, h2⟩, h3⟩ := h
      have ih := findNow_mapIs (k := k) (n := n) es m (i + 1) h3
      unfold Instr.findNow
      rw [h1]
      simp only [Instr.sameNow, if_true]
      rw [List.findIdx?_cons]
      cases hb : n == p.1 with
      | true => simp [h2]
      | false =>
        simp only [ih]
        cases es.findIdx? (fun p => n == p.1) with
        | none => rfl
        | some j => simp [show i + 1 + j = i + (j + 1) by omega]

theorem mget_idx (es : List (Int × Bool)) (n : Int) : mget es n = (match es.findIdx? (fun p => n == p.1) with
    | some j => (match es[j]? with
      | some p => p.2
      | none => false)
    | none => false) := by
  unfold mget
  induction es with
  | nil => rfl
  | cons p es ih =>
    rw [List.find?_cons, List.findIdx?_cons]
    cases hb : n == p.1 with
    | true => simp
    | false =>
      simp only [ih]
      cases es.findIdx? (fun p => n == p.1) with
      | none => rfl
      | some j => simp

theorem zeroIsFalse_run {P : Program} {e : TypeId} (h : zeroIsFalse P e = true) (w : World) : (zeroValue e).run P w = .ok (.bool false) w := by
  unfold zeroIsFalse at h
  split at h
  · rename_i i hi
    split at h
    · rename_i b hz
      have hb : b = false := by simpa using h
      subst hb
      simp [zeroValue, typeInfo, hi, hz]
    · cases h
  · cases h

theorem evMakeMap_res {P : Program} {base : Nat} {X G : Nat → Prop} {τ : Nat → Gh} {st : Nat → Option E.Obj} {w : World} {ids : List Nat} {site : Nat} {t : TypeId} {r : Option V} {rv : Option Value} {e : Eff} {rs : List Nat}
    (hm : Mem base X G τ st w) (hbase : base ≤ w.heap.size) (hc : Closed ids st) (hnew : ∀ i ∈ e.new, i ∉ ids) (hr : r = none → rv = none) (h : (evMakeMap P site t r).run st = some (e, rs)) :
    OpRes P base X ids G τ st w (do pure (Next.value (← Instr.makeMap t rv))) e := by
  unfold evMakeMap at h
  split at h
  · split at h
    · rename_i k el hu kk hk he
      simp only [T.run, Option.some.injEq, Prod.mk.injEq] at h
      obtain ⟨rfl, _⟩ := h
      rw [hr rfl]
      have hs : site ∉ ids := hnew site (by simp)
      refine ⟨.map (some w.heap.size), w.alloc (.map #[] 0), G, setGh τ site ⟨some w.heap.size, none, 0, 0⟩, .inl ?_, ?_, ?_, ?_, fun i hi => setGh_ne fun e => hs (e ▸ hi)⟩
      · rfl
      · simp only [V.rep, setGh_same]; exact ⟨_, rfl, rfl⟩
      · refine Mem.new hm hbase hc hs (fun b hb => by simp at hb; exact hb.symm) ?_
        simp only [Obj.ok, setGh_same]
        exact ⟨_, #[], 0, rfl, alloc_new w _, fun hg => by have := hm.gold _ hg; omega, rfl⟩
      · exact ⟨rfl, rfl, rfl, by rw [alloc_size]; omega, fun b hb _ => alloc_get w _ b (by omega), fun b hb => ⟨hb, alloc_get w _ b (hm.gold b hb)⟩, fun b hb => .inl hb⟩
    · simp [T.run] at h
  · simp [T.run] at h

theorem evLookup_res {P : Program} {base : Nat} {X G : Nat → Prop} {τ : Nat → Gh} {st : Nat → Option E.Obj} {w : World} {ids : List Nat} {t : TypeId} {x i : V} {xv iv : Value} {ok : Bool} {e : Eff} {rs : List Nat}
    (hm : Mem base X G τ st w) (hx : x.rep w G τ xv) (hi : i.rep w G τ iv) (h : (evLookup P t x i ok).run st = some (e, rs)) :
    OpRes P base X ids G τ st w (do pure (Next.value (← Instr.lookup t xv iv ok))) e := by
  unfold evLookup at h
  split at h
  · rename_i kt et id kk n hu
    obtain ⟨o, r, ho, h, _⟩ := run_ask h
    split at h
    · rename_i k1 es k2 hk he
      cases hb : decide (kk = k1) && (decide (kk = k2) && zeroIsFalse P et) with
      | false => simp [hb, T.run] at h
      | true =>
        simp only [hb, cond_true, T.run, Option.some.injEq, Prod.mk.injEq] at h
        obtain ⟨rfl, _⟩ := h
        simp only [Bool.and_eq_true, decide_eq_true_eq] at hb
        obtain ⟨rfl, rfl, hzf⟩ := hb
        have hz := zeroIsFalse_run hzf w
        have hok := hm.ok id _ ho
        simp only [Obj.ok] at hok
        obtain ⟨b, m, clock, h1, h2, h3, h4⟩ := hok
        simp only [V.rep] at hx
        obtain ⟨b', h5, rfl⟩ := hx
        rw [h1] at h5; cases h5
        simp only [V.rep, V.repI] at hi
        subst hi
        have hkey : MapKept.IsKey (.int kk) (.int kk n) := by simp [MapKept.IsKey]
        have hf := findNow_mapIs (n := n) es m.toList 0 h4
        refine OpRes.pure hm (x := .bool (mget es n)) (run_v ?_) (by simp only [V.rep, V.repI])
        rw [mget_idx]
        simp only [Instr.lookup, Sem.run_bind, run_underlying hu, MapKept.run_getObj_map h2, Result.andThen_ok, Sem.run_pure, MapKept.run_checkKey hk hkey, MapKept.run_findKey hk hf]
        cases hj : es.findIdx? (fun p => n == p.1) with
        | none => simp [hz]
        | some j =>
          have hlt := (List.findIdx?_eq_some_iff_getElem.1 hj).1
          have e1 := List.getElem?_eq_getElem hlt
          simp [e1]
    · simp [T.run] at h
  · simp [T.run] at h

theorem map_modify {α β : Type} (f : α → β) (g : α → α) (g' : β → β) (hg : ∀ a, f (g a) = g' (f a)) : ∀ (l : List α) (j : Nat), (l.modify j g).map f = (l.map f).modify j g'
  | [], j => by cases j <;> rfl
  | a :: l, 0 => by simp [hg]
  | a :: l, j + 1 => by simp [map_modify f g g' hg l j]

theorem evMapUpdate_res {P : Program} {base : Nat} {X G : Nat → Prop} {τ : Nat → Gh} {st : Nat → Option E.Obj} {w : World} {ids : List Nat} {t : TypeId} {x i v : V} {xv iv vv : Value} {e : Eff} {rs : List Nat}
    (hm : Mem base X G τ st w) (hx : x.rep w G τ xv) (hi : i.rep w G τ iv) (hv : v.rep w G τ vv) (h : (evMapUpdate P t x i v).run st = some (e, rs)) :
    OpRes P base X ids G τ st w (do Instr.mapUpdate t xv iv vv; pure Next.skip) e := by
  unfold evMapUpdate at h
  split at h
  · rename_i kt et id kk n bv hu
    obtain ⟨o, r, ho, h, _⟩ := run_ask h
    split at h
    · rename_i k1 es k2 hk he
      cases hb : decide (kk = k1) && decide (kk = k2) with
      | false => simp [hb, T.run] at h
      | true =>
        simp only [hb, cond_true, T.run, Option.some.injEq, Prod.mk.injEq] at h
        obtain ⟨rfl, _⟩ := h
        simp only [Bool.and_eq_true, decide_eq_true_eq] at hb
        obtain ⟨rfl, rfl⟩ := hb
        have hok := hm.ok id _ ho
        simp only [Obj.ok] at hok
        obtain ⟨b, m, clock, h1, h2, h3, h4⟩ := hok
        simp only [V.rep] at hx
        obtain ⟨b', h5, rfl⟩ := hx
        rw [h1] at h5; cases h5
        simp only [V.rep, V.repI] at hi hv
        subst hi hv
        have hkey : MapKept.IsKey (.int kk) (.int kk n) := by simp [MapKept.IsKey]
        have hf := findNow_mapIs (n := n) es m.toList 0 h4
        have hlt : b < w.heap.size := lt_of_get h2
        have main : ∃ m' clock', (Instr.mapUpdate t (.map (some b)) (.int kk n) (.bool bv)).run P w = .ok () { w with heap := w.heap.setIfInBounds b (.map m' clock') } ∧ mapIs kk (mset es n bv) m'.toList := by
          unfold mset
          cases hj : es.findIdx? (fun p => n == p.1) with
          | none =>
            rw [hj] at hf
            refine ⟨m.push ⟨.int kk n, .bool bv, clock⟩, clock + 1, ?_, ?_⟩
            · simp [Instr.mapUpdate, run_underlying hu, MapKept.run_getObj_map h2, MapKept.run_checkKey hk hkey, MapKept.run_findKey hk hf, MapKept.run_setObj_map _ h2, Result.andThen]
            · unfold mapIs at h4 ⊢
              simp only [Array.toList_push, List.map_append, h4, List.map_cons, List.map_nil]
          | some j =>
            obtain ⟨g1, g2, _⟩ := List.findIdx?_eq_some_iff_getElem.1 hj
            rw [hj] at hf
            simp only [List.getElem?_eq_getElem g1, Option.map_some, Nat.zero_add] at hf
            have hlen : m.toList.length = es.length := by have := congrArg List.length h4; simpa using this
            have hmj : j < m.size := by rw [← Array.length_toList, hlen]; exact g1
            have he0 : m[j]? = some m[j] := Array.getElem?_eq_getElem hmj
            have hkj : m[j].key = .int kk n := by
              have h4' : m.toList.map (fun e => (e.key, e.val)) = es.map (fun p => (Value.int kk p.1, Value.bool p.2)) := h4
              have := congrArg (fun l => l[j]?) h4'
              simp only [List.getElem?_map, Array.getElem?_toList, he0, List.getElem?_eq_getElem g1, Option.map_some, Option.some.injEq, Prod.mk.injEq] at this
              rw [this.1]
              simp only [beq_iff_eq] at g2
              rw [g2]
            refine ⟨m.modify j (fun e' => { e' with key := .int kk n, val := .bool bv }), clock, ?_, ?_⟩
            · simp [Instr.mapUpdate, run_underlying hu, MapKept.run_getObj_map h2, MapKept.run_checkKey hk hkey, MapKept.run_findKey hk hf, he0, hkj, MapKept.run_keyThatStays hkey, MapKept.run_setObj_map _ h2, Result.andThen]
            · unfold mapIs at h4 ⊢
              simp only [beq_iff_eq] at g2
              apply List.ext_getElem?
              intro q
              have h4q := congrArg (fun l => l[q]?) h4
              simp only [List.getElem?_map, Array.toList_modify, List.getElem?_modify] at h4q ⊢
              by_cases hqj : j = q
              · subst hqj
                have e1 : m.toList[j]? = some m[j] := by simp
                simp [e1, List.getElem?_eq_getElem g1, g2]
              · simp only [hqj, if_false, Option.map_id_fun', id_eq] at h4q ⊢
                simpa using h4q
        obtain ⟨m', clock', hrun, hmi⟩ := main
        have hb2 : ∀ q, q ≠ b → ({ w with heap := w.heap.setIfInBounds b (.map m' clock') } : World).heap[q]? = w.heap[q]? := fun q hq => by
          show (w.heap.setIfInBounds b _)[q]? = _
          rw [Array.getElem?_setIfInBounds]
          simp [Ne.symm hq]
        have hbb : ({ w with heap := w.heap.setIfInBounds b (.map m' clock') } : World).heap[b]? = some (.map m' clock') := by
          show (w.heap.setIfInBounds b _)[b]? = _
          rw [Array.getElem?_setIfInBounds]
          simp [hlt]
        refine ⟨Go.undef, { w with heap := w.heap.setIfInBounds b (.map m' clock') }, G, τ, .inr ⟨by simp [hrun], rfl⟩, by simp only [V.rep, V.repI], ?_, ?_, fun _ _ => rfl⟩
        · refine Mem.set hm ho h1 (by simp) hb2 ?_
          simp only [Obj.ok]
          exact ⟨b, m', clock', h1, hbb, h3, hmi⟩
        · refine ⟨rfl, rfl, rfl, by simp, fun q hq hx => hb2 q fun e => ?_, fun q hq => ⟨hq, hb2 q fun e => h3 (e ▸ hq)⟩, fun _ h => .inl h⟩
          subst e
          rcases hm.own id _ q ho h1 with h | h
          · omega
          · exact hx h
    · simp [T.run] at h
  · simp [T.run] at h

theorem strRows_cells {w : World} {G : Nat → Prop} : ∀ {l : List UInt8} {xs : List Value}, repIL w G (l.map fun b => intRow .u8 b.toNat).flatten xs → xs = (l.map fun b => ((b.toNat : Nat) : Int)).map (Value.int .u8)
  | [], xs, h => by
    cases xs with
    | nil => rfl
    | cons x xs => simp [repIL] at h
  | b :: l, xs, h => by
    cases xs with
    | nil => simp [intRow, repIL] at h
    | cons x xs =>
      simp only [List.map_cons, intRow, List.flatten_cons, List.cons_append, List.nil_append, repIL, V.repI] at h
      obtain ⟨⟨h1, _⟩, h2⟩ := h
      rw [h1, strRows_cells (l := l) (xs := xs) h2]
      simp
theorem push_all : ∀ (l : List UInt8) (s : ByteArray), (l.map fun b => ((b.toNat : Nat) : Int)).foldl (fun r n => r.push (UInt8.ofNat n.toNat)) s = ⟨s.data ++ l.toArray⟩
  | [], s => by simp
  | b :: l, s => by
    simp only [List.map_cons, List.foldl_cons]
    rw [push_all l]
    simp [ByteArray.push]

theorem evConvert_res {P : Program} {base : Nat} {X G : Nat → Prop} {ids : List Nat} {τ : Nat → Gh} {st : Nat → Option E.Obj} {w : World} {rd : Operand → V} {ρ : Operand → Value} {o : Oper} {ans : List Ans} {src dst : TypeId} {x : Operand} {e : Eff} {rs : List Nat}
    (ho : o.op = .convert src dst x) (hrd : ∀ y ∈ o.op.operands, (rd y).rep w G τ (ρ y)) (hm : Mem base X G τ st w) (h : (evConvert P rd o ans src dst (rd x)).run st = some (e, rs)) (hp : ∀ p ∈ e.obs, p) :
    OpRes P base X ids G τ st w (execOp ρ o) e := by
  unfold evConvert at h
  split at h
  · rename_i s _
    split at h
    · rename_i el he hd
      split at h
      · rename_i hel
        obtain ⟨rows, r1, r2, h1, h2, _⟩ := T.run_bind_some h
        simp only [T.run, Option.some.injEq, Prod.mk.injEq] at h2
        obtain ⟨rfl, _⟩ := h2
        have hs : rows = strRows s := hp _ (by simp)
        have hx := hrd x (by simp [ho, Op.operands])
        obtain ⟨a, c, hxe, xs, k1, k2, k3, k4⟩ := rowsAt_res (P := P) hm hx h1
        obtain ⟨hu, _⟩ := elemOfSlice_spec he
        have k2' : repIL w G (s.data.toList.map fun b => intRow .u8 b.toNat).flatten xs := by rw [hs] at k2; exact k2
        have hxs := strRows_cells k2'
        refine OpRes.pure hm (x := .string s) ?_ (by simp only [V.rep, V.repI])
        simp only [execOp, ho]
        refine run_v ?_
        rw [hxe, run_convert_bytes_string w src dst el a _ c hu hel hd]
        have k1' := k1 w rfl
        rw [hxe] at k1'
        cases a with
        | none =>
          have hl : rows.length = 0 ∨ True := .inr trivial
          have h0 : xs = [] := by
            have := k1'
            simp only [Builtin.firstCells, Sem.run_pure, Result.ok.injEq, and_true] at this
            simpa using this.symm
          rw [h0] at hxs
          have hnil : s.data.toList = [] := by
            have := hxs.symm
            simpa using this
          have : s = ByteArray.empty := by
            cases s with | mk d => simp at hnil; subst hnil; rfl
          rw [this]
          rfl
        | some A =>
          have hload : (loadCells A rows.length).run P w = .ok ((s.data.toList.map fun b => ((b.toNat : Nat) : Int)).map (Value.int .u8)).toArray w := by
            simp only [Builtin.firstCells, Nat.mul_one] at k1'
            rw [k1', hxs]
          rw [run_bytesToString w A rows.length c _ hload, push_all]
          simp
      · simp [T.run] at h
    · simp [T.run] at h
  · exact genOp_res (fun cs b => by rw [ho]; simp) hrd hm h

end Go.Proofs.Ytieffigehkjifaa.E

/- The engine, part N: one operation, whatever it is. -/
namespace Go.Proofs.Ytieffigehkjifaa.E
open Go
set_option linter.unusedSimpArgs false

theorem ids_ofCell (x : Value) : (ofCell x).ids = [] := by unfold ofCell; split <;> rfl

theorem idsL_ofCell : ∀ l : List Value, idsL (l.map ofCell) = []
  | [] => rfl
  | x :: l => by simp only [List.map_cons, idsL, ids_ofCell, idsL_ofCell l, List.append_nil]

theorem ids_ofVal1 (x : Value) : (ofVal1 x).ids = [] := by
  unfold ofVal1; split
  · simp only [V.ids, idsL_ofCell]
  · exact ids_ofCell _

theorem idsL_ofVal1 : ∀ l : List Value, idsL (l.map ofVal1) = []
  | [] => rfl
  | x :: l => by simp only [List.map_cons, idsL, ids_ofVal1, idsL_ofVal1 l, List.append_nil]

theorem ids_ofVal (x : Value) : (ofVal x).ids = [] := by
  unfold ofVal; split
  · simp only [V.ids, idsL_ofVal1]
  · exact ids_ofVal1 _

theorem rd_rep {w : World} {G : Nat → Prop} {τ : Nat → Gh} {env : Nat → V} {a : Act} (h : ∀ t, (env t).rep w G τ (a.tmps.getD t Go.undef)) (x : Operand) : (rdO env x).rep w G τ (a.eval x) := by
  cases x with
  | tmp t => exact h t
  | const v => exact rep_ofVal v
  | global g => simp only [rdO, V.rep]
  | func f => simp only [rdO, V.rep, Act.eval]; exact ⟨#[], #[], rfl, by simp only [repL], by simp only [repL]⟩

theorem rd_ids {env : Nat → V} {ids : List Nat} (h : ∀ t, ∀ i ∈ (env t).ids, i ∈ ids) (x : Operand) : ∀ i ∈ (rdO env x).ids, i ∈ ids := by
  cases x with
  | tmp t => exact h t
  | const v => intro i hi; simp [rdO, ids_ofVal] at hi
  | global g => intro i hi; simp [rdO, V.ids] at hi
  | func f => intro i hi; simp [rdO, V.ids, idsL] at hi

theorem wp_of_res {P : Program} {base : Nat} {X G : Nat → Prop} {τ : Nat → Gh} {st : Nat → Option E.Obj} {w : World} {ids : List Nat} {o : Oper} {a : Act} {e : Eff} {K : Act → World → Prop} {Q : Exit → Act → World → Prop} {s : Sem Next}
    (hr : OpRes P base X ids G τ st w s e) (hs : execOp a.eval o = s)
    (hK : ∀ x w' G' τ', e.v.rep w' G' τ' x → Mem base X G' τ' (putSt st e.ws) w' → Ext base X G w G' w' → (∀ i ∈ ids, τ' i = τ i) → K (a.put o.dst x) w') : o.wp P a w K Q := by
  obtain ⟨x, w', G', τ', h1, h2, h3, h4, h5⟩ := hr
  unfold Oper.wp
  rw [hs]
  rcases h1 with h1 | ⟨h1, rfl⟩
  · rw [h1]; exact hK x w' G' τ' h2 h3 h4 h5
  · rw [h1]; exact hK _ w' G' τ' h2 h3 h4 h5

theorem repL_map {w : World} {G : Nat → Prop} {τ : Nat → Gh} {rd : Operand → V} {ρ : Operand → Value} (h : ∀ x, (rd x).rep w G τ (ρ x)) : ∀ l : List Operand, repL w G τ (l.map rd) (l.map ρ)
  | [] => by simp only [List.map_nil, repL]
  | x :: l => by simp only [List.map_cons, repL]; exact ⟨h x, repL_map h l⟩

theorem nilCmp_res {w : World} {G : Nat → Prop} {τ : Nat → Gh} {v u : V} {x y : Value} {b : Bool} (h : nilCmp v u = some b) (hv : v.rep w G τ x) (hu : u.rep w G τ y) :
    b = false ∧ (((∃ p, x = .pointer (some p)) ∧ y = .pointer none) ∨ (x = .pointer none ∧ ∃ p, y = .pointer (some p))) := by
  unfold nilCmp at h
  split at h <;> simp only [Option.some.injEq, reduceCtorEq] at h <;> subst h <;> refine ⟨rfl, ?_⟩
  · simp only [V.rep, V.repI] at hv hu; obtain ⟨q, _, rfl⟩ := hv; exact .inl ⟨⟨_, rfl⟩, hu⟩
  · simp only [V.rep, V.repI] at hv hu; obtain ⟨q, o, _, _, _, rfl⟩ := hv; exact .inl ⟨⟨_, rfl⟩, hu⟩
  · simp only [V.rep, V.repI] at hv hu; obtain ⟨q, _, rfl⟩ := hu; exact .inr ⟨hv, ⟨_, rfl⟩⟩
  · simp only [V.rep, V.repI] at hv hu; obtain ⟨q, o, _, _, _, rfl⟩ := hu; exact .inr ⟨hv, ⟨_, rfl⟩⟩

theorem run_eqIn_nil {P : Program} {w : World} {t el : TypeId} {x y : Value} (hu : P.underlying t = some (.pointer el)) (h : ((∃ p, x = .pointer (some p)) ∧ y = .pointer none) ∨ (x = .pointer none ∧ ∃ p, y = .pointer (some p))) (d : Nat) :
    (Op.equalIn (d + 1) t x y).run P w = .ok false w := by
  rcases h with ⟨⟨p, rfl⟩, rfl⟩ | ⟨rfl, ⟨p, rfl⟩⟩ <;> simp only [Op.equalIn, Sem.run_bind, run_underlying hu, Result.andThen_ok] <;> rfl

theorem run_binOp_nil {P : Program} {w : World} {t el : TypeId} {op : BinOp} {p q : Operand} {x y : Value} (hop : op = .eql ∨ op = .neq) (hu : P.underlying t = some (.pointer el)) (h : ((∃ p, x = .pointer (some p)) ∧ y = .pointer none) ∨ (x = .pointer none ∧ ∃ p, y = .pointer (some p))) :
    (do eqGuard op t p q x y; binOp op t x y : Sem Value).run P w = .ok (.bool (op == .neq)) w := by
  have h2 : (Op.equal t x y).run P w = .ok false w := run_eqIn_nil hu h 9999
  rcases hop with rfl | rfl <;> rcases h with ⟨⟨p, rfl⟩, rfl⟩ | ⟨rfl, ⟨p, rfl⟩⟩ <;> simp [eqGuard, binOp, h2]

theorem run_eqIn_sl {P : Program} {w : World} {t el : TypeId} {A : Addr} {n c : Nat} (hu : P.underlying t = some (.slice el)) (d : Nat) : (Op.equalIn (d + 1) t (.slice (some A) n c) (.slice none 0 0)).run P w = .ok false w := by
  simp only [Op.equalIn, Sem.run_bind, run_underlying hu, Result.andThen_ok]; rfl

theorem run_binOp_sliceNil {P : Program} {w : World} {t el : TypeId} {op : BinOp} {p q : Operand} {A : Addr} {n c : Nat} (hop : op = .eql ∨ op = .neq) (hu : P.underlying t = some (.slice el)) :
    (do eqGuard op t p q (.slice (some A) n c) (.slice none 0 0); binOp op t (.slice (some A) n c) (.slice none 0 0) : Sem Value).run P w = .ok (.bool (op == .neq)) w := by
  have h2 : (Op.equal t (.slice (some A) n c) (.slice none 0 0)).run P w = .ok false w := run_eqIn_sl hu 9999
  rcases hop with rfl | rfl <;> simp [eqGuard, binOp, h2]

theorem run_binOp_quo {P : Program} {w : World} {t : TypeId} {p q : Operand} {k : IntKind} {a b : Int} (hb : b ≠ 0) :
    (do eqGuard .quo t p q (.int k a) (.int k b); binOp .quo t (.int k a) (.int k b) : Sem Value).run P w = .ok (.int k (k.wrap (a.tdiv b))) w := by
  simp [eqGuard, binOp, Op.intDiv, hb]
theorem run_binOp_rem {P : Program} {w : World} {t : TypeId} {p q : Operand} {k : IntKind} {a b : Int} (hb : b ≠ 0) :
    (do eqGuard .rem t p q (.int k a) (.int k b); binOp .rem t (.int k a) (.int k b) : Sem Value).run P w = .ok (.int k (a.tmod b)) w := by
  simp [eqGuard, binOp, Op.intDiv, hb]

theorem run_binOp_shl {P : Program} {w : World} {t : TypeId} {p q : Operand} {k k' : IntKind} {a b : Int} (hb : 0 ≤ b) :
    (do eqGuard .shl t p q (.int k a) (.int k' b); binOp .shl t (.int k a) (.int k' b) : Sem Value).run P w = .ok (.int k (shlI k a b)) w := by
  have : ¬ (b < 0) := by omega
  simp [eqGuard, binOp, Op.shift, this, shlI]

theorem sliceNil_res {P : Program} {base : Nat} {X G : Nat → Prop} {τ : Nat → Gh} {st : Nat → Option E.Obj} {w : World} {ids : List Nat} {op : BinOp} {t : TypeId} {p q : Operand} {u v : V} {x y : Value} {e : Eff} {rs : List Nat} {tt : T Eff}
    (hm : Mem base X G τ st w) (hu : u.rep w G τ x) (hv : v.rep w G τ y) {fl : Bool} (ht : sliceNil P fl op t u v = some tt) (h : tt.run st = some (e, rs)) (hp : ∀ p ∈ e.obs, p) :
    OpRes P base X ids G τ st w (do pure (Next.value (← (do eqGuard op t p q x y; binOp op t x y : Sem Value)))) e := by
  have fin : ∀ {rows : List (List V)} {el : TypeId} {A : Addr} {n c : Nat} {b : Bool}, P.underlying t = some (.slice el) → op = .eql ∨ op = .neq → (op == .neq) = b → x = .slice (some A) n c → y = .slice none 0 0 →
      OpRes P base X ids G τ st w (do pure (Next.value (← (do eqGuard op t p q x y; binOp op t x y : Sem Value)))) ⟨.val (.bool b), [], [rows ≠ []], []⟩ := by
    rintro rows el A n c b h1 h2 rfl rfl rfl
    exact OpRes.pure hm (run_v (run_binOp_sliceNil h2 h1)) (by simp only [V.rep, V.repI])
  have sl : ∀ {n : Nat} {rows : List (List V)}, (V.sl n rows).rep w G τ x → rows ≠ [] → ∃ A k c, x = .slice (some A) k c := by
    intro n rows hr hne
    simp only [V.rep, V.repI] at hr
    obtain ⟨a, cap, hx, _, hr⟩ := hr
    rcases hr with hr | ⟨b, o, ha, _⟩
    · exact absurd hr hne
    · exact ⟨_, _, _, by rw [hx, ha]⟩
  have ow : ∀ {id n : Nat} {rows : List (List V)}, (V.own id).rep w G τ x → st id = some (.arr n rows) → rows ≠ [] → ∃ A k c, x = .slice (some A) k c := by
    intro id n rows hr ho hne
    have hok := hm.ok id _ ho
    simp only [Obj.ok] at hok
    simp only [V.rep, Gh.hdr] at hr
    rcases hok.2.2 with ⟨_, _, e3⟩ | ⟨b, _, _, _, _, e2, _⟩
    · exact absurd (List.eq_nil_of_length_eq_zero (by have := hok.2.1; omega)) hne
    · exact ⟨_, _, _, by rw [hr, e2]⟩
  unfold sliceNil at ht
  split at ht
  · rename_i k a k' b
    cases hb : fl with
    | false => simp [hb] at ht
    | true =>
      simp only [hb, cond_true] at ht
      simp only [V.rep, V.repI] at hu hv
      subst hu hv
      split at ht
      · cases ht
        simp only [T.run, Option.some.injEq, Prod.mk.injEq] at h
        obtain ⟨rfl, _⟩ := h
        exact OpRes.pure hm (run_v (run_binOp_shl (hp _ (by simp)))) (by simp only [V.rep, V.repI])
      · cases hk : decide (k = k') with
        | false => simp [hk] at ht
        | true =>
          have hk' : k = k' := by simpa using hk
          subst hk'
          simp only [hk, cond_true] at ht
          cases ht
          simp only [T.run, Option.some.injEq, Prod.mk.injEq] at h
          obtain ⟨rfl, _⟩ := h
          exact OpRes.pure hm (run_v (run_binOp_quo (hp _ (by simp)))) (by simp only [V.rep, V.repI])
      · cases hk : decide (k = k') with
        | false => simp [hk] at ht
        | true =>
          have hk' : k = k' := by simpa using hk
          subst hk'
          simp only [hk, cond_true] at ht
          cases ht
          simp only [T.run, Option.some.injEq, Prod.mk.injEq] at h
          obtain ⟨rfl, _⟩ := h
          exact OpRes.pure hm (run_v (run_binOp_rem (hp _ (by simp)))) (by simp only [V.rep, V.repI])
      · simp at ht
  · rename_i n rows
    simp only [V.rep, V.repI] at hv
    split at ht
    · rename_i el hel
      cases ht
      simp only [T.run, Option.some.injEq, Prod.mk.injEq] at h
      obtain ⟨rfl, _⟩ := h
      obtain ⟨A, k, c, hx⟩ := sl hu (hp _ (by simp))
      exact fin hel (.inl rfl) rfl hx hv
    · rename_i el hel
      cases ht
      simp only [T.run, Option.some.injEq, Prod.mk.injEq] at h
      obtain ⟨rfl, _⟩ := h
      obtain ⟨A, k, c, hx⟩ := sl hu (hp _ (by simp))
      exact fin hel (.inr rfl) rfl hx hv
    · simp at ht
  · rename_i id
    simp only [V.rep, V.repI] at hv
    split at ht
    · rename_i el hel
      cases ht
      obtain ⟨o, r, ho, h, _⟩ := run_ask h
      split at h
      · rename_i n rows
        simp only [T.run, Option.some.injEq, Prod.mk.injEq] at h
        obtain ⟨rfl, _⟩ := h
        obtain ⟨A, k, c, hx⟩ := ow hu ho (hp _ (by simp))
        exact fin hel (.inl rfl) rfl hx hv
      · simp [T.run] at h
    · rename_i el hel
      cases ht
      obtain ⟨o, r, ho, h, _⟩ := run_ask h
      split at h
      · rename_i n rows
        simp only [T.run, Option.some.injEq, Prod.mk.injEq] at h
        obtain ⟨rfl, _⟩ := h
        obtain ⟨A, k, c, hx⟩ := ow hu ho (hp _ (by simp))
        exact fin hel (.inr rfl) rfl hx hv
      · simp [T.run] at h
    · simp at ht
  · simp at ht

theorem eqFields_run {P : Program} {w : World} {d : Nat} {xs ys : Array Value} {g : Field → Option Bool} (hg : ∀ f b, g f = some b → ∃ a c, (part f.type xs f.offset).run P w = .ok a w ∧ (part f.type ys f.offset).run P w = .ok c w ∧ (Op.equalIn d f.type a c).run P w = .ok b w) :
    ∀ {fs : List Field} {r : Bool}, eqFields g fs = some r → (Op.eqFields d xs ys fs).run P w = .ok r w
  | [], r, h => by
    simp only [eqFields, Option.some.injEq] at h
    subst h
    simp [Op.eqFields]
  | f :: fs, r, h => by
    simp only [eqFields] at h
    cases hn : f.name == "_" with
    | true =>
      simp only [hn, cond_true] at h
      have : f.name = "_" := by simpa using hn
      simp only [Op.eqFields, this, ne_eq, not_true_eq_false, if_false]
      exact eqFields_run hg h
    | false =>
      simp only [hn, cond_false] at h
      have hne : f.name ≠ "_" := by simpa using hn
      split at h
      · rename_i b r' hb hr
        simp only [Option.some.injEq] at h
        subst h
        obtain ⟨a, c, h1, h2, h3⟩ := hg f b hb
        have ih := eqFields_run hg hr
        simp only [Op.eqFields, hne, ne_eq, not_false_eq_true, if_true, Sem.run_bind, h1, h2, h3, Result.andThen_ok]
        cases b with
        | true => simpa using ih
        | false => simp
      · simp at h

theorem eqElems_run {P : Program} {w : World} {d m : Nat} {e : TypeId} {xs ys : Array Value} {g : Nat → Option Bool} (hg : ∀ i b, g i = some b → ∃ a c, (part e xs (i * m)).run P w = .ok a w ∧ (part e ys (i * m)).run P w = .ok c w ∧ (Op.equalIn d e a c).run P w = .ok b w) :
    ∀ (k i : Nat) {r : Bool}, eqElems g i k = some r → (Op.eqItems d e m xs ys (List.range' i k)).run P w = .ok r w
  | 0, i, r, h => by
    simp only [eqElems, Option.some.injEq] at h
    subst h
    simp [Op.eqItems]
  | k + 1, i, r, h => by
    simp only [eqElems] at h
    split at h
    · rename_i b r' hb hr
      simp only [Option.some.injEq] at h
      subst h
      obtain ⟨a, c, h1, h2, h3⟩ := hg i b hb
      have ih := eqElems_run hg k (i + 1) hr
      simp only [List.range'_succ, Op.eqItems, Sem.run_bind, h1, h2, h3, Result.andThen_ok]
      cases b with
      | true => simpa using ih
      | false => simp
    · simp at h

theorem eqV_run {P : Program} {w : World} {G : Nat → Prop} {τ : Nat → Gh} : ∀ (d : Nat) {t : TypeId} {u v : V} {x y : Value} {r : Bool}, eqV P d t u v = some r → u.rep w G τ x → v.rep w G τ y → (Op.equalIn d t x y).run P w = .ok r w
  | 0, _, _, _, _, _, _, h, _, _ => by simp [eqV] at h
  | d + 1, t, u, v, x, y, r, h, hu, hv => by
    simp only [eqV] at h
    split at h
    · rename_i ht
      split at h
      · simp only [Option.some.injEq] at h
        subst h
        simp only [V.rep, V.repI] at hu hv
        subst hu hv
        exact run_equalIn_bool w d t _ _ ht
      · simp at h
    · rename_i k0 ht
      split at h
      · rename_i k a k' b
        cases hk : decide (k = k') with
        | false => simp only [hk, cond_false, reduceCtorEq] at h
        | true =>
          have hkk : k = k' := of_decide_eq_true hk
          subst hkk
          rw [hk] at h
          simp only [cond_true, Option.some.injEq] at h
          subst h
          simp only [V.rep, V.repI] at hu hv
          subst hu hv
          rw [run_equalIn_int w d t k k0 a b ht]
          rfl
      · simp at h
    · rename_i ht
      split at h
      · simp only [Option.some.injEq] at h
        subst h
        simp only [V.rep, V.repI] at hu hv
        subst hu hv
        rw [run_equalIn_string w d t _ _ ht, beq_toListBytes]
      · simp at h
    · rename_i fs ht
      split at h
      · rename_i cs ds
        cases hb : P.stoodInHeld t with
        | true => simp only [hb, cond_true, reduceCtorEq] at h
        | false =>
          simp only [hb, cond_false] at h
          simp only [V.rep] at hu hv
          obtain ⟨xs, rfl, hxs⟩ := hu
          obtain ⟨ys, rfl, hys⟩ := hv
          have hf : P.fieldsOf t = fs := by simp [Program.fieldsOf, ht]
          rw [run_equalIn_agg w d t xs ys (by rw [hf]; exact ht) hb, hf]
          refine eqFields_run (fun f b hg => ?_) h
          split at hg
          · rename_i a c ha hc
            obtain ⟨p, h1, h2⟩ := takeCells_part hxs ha
            obtain ⟨q, h3, h4⟩ := takeCells_part hys hc
            exact ⟨p, q, h1, h3, eqV_run d hg h2 h4⟩
          · simp at hg
      · simp at h
    · rename_i n e ht
      split at h
      · rename_i cs ds m hm
        simp only [V.rep] at hu hv
        obtain ⟨xs, rfl, hxs⟩ := hu
        obtain ⟨ys, rfl, hys⟩ := hv
        have hi : ∃ i, P.info? e = some i ∧ m = P.cellsOf e := by
          simp only [szOf] at hm
          split at hm
          · rename_i i hi
            simp only [Option.some.injEq] at hm
            exact ⟨i, hi, by simp [Program.cellsOf, hi, hm]⟩
          · simp at hm
        obtain ⟨i, hi, rfl⟩ := hi
        rw [run_equalIn_array w d xs ys ht hi, List.range_eq_range']
        refine eqElems_run (fun j b hg => ?_) n 0 h
        split at hg
        · rename_i a c ha hc
          obtain ⟨p, h1, h2⟩ := takeCells_part hxs ha
          obtain ⟨q, h3, h4⟩ := takeCells_part hys hc
          exact ⟨p, q, h1, h3, eqV_run d hg h2 h4⟩
        · simp at hg
      · simp at h
    · simp at h

theorem aggCmp_run {P : Program} {w : World} {G : Nat → Prop} {τ : Nat → Gh} {op : BinOp} {t : TypeId} {p q : Operand} {u v : V} {x y : Value} {b : Bool} (h : aggCmp P op t u v = some (some b)) (hu : u.rep w G τ x) (hv : v.rep w G τ y) :
    (do eqGuard op t p q x y; binOp op t x y : Sem Value).run P w = .ok (.bool b) w := by
  unfold aggCmp at h
  split at h
  · rename_i cs ds
    cases hg : P.eqGuardType P.depth t with
    | true => simp [hg] at h
    | false =>
      simp only [hg, cond_false] at h
      have hx := hu
      have hy := hv
      simp only [V.rep] at hu hv
      obtain ⟨xs, rfl, _⟩ := hu
      obtain ⟨ys, rfl, _⟩ := hv
      split at h
      · rename_i b' he
        simp only [Option.some.injEq] at h
        subst h
        simp only [Sem.run_bind, run_eqGuard_agg w _ t p q xs ys hg, Result.andThen_ok, run_eql_struct, eqV_run 10000 he hx hy]
      · rename_i b' he
        simp only [Option.some.injEq] at h
        subst h
        simp only [Sem.run_bind, run_eqGuard_agg w _ t p q xs ys hg, Result.andThen_ok, run_neq_struct, eqV_run 10000 he hx hy]
      · simp at h
  · simp at h

/-- ONE OPERATION: what the run says of it is so. -/
theorem op_wp {P : Program} {base : Nat} {X G : Nat → Prop} {τ : Nat → Gh} {env : Nat → V} {st : Nat → Option E.Obj} {ids : List Nat} {w : World} {a : Act} {o : Oper} {site : Nat} {ans : List Ans} {e : Eff} {rs : List Nat} {K : Act → World → Prop} {Q : Exit → Act → World → Prop}
    (hm : Mem base X G τ st w) (hbase : base ≤ w.heap.size) (hc : Closed ids st) (henv : ∀ t, (env t).rep w G τ (a.tmps.getD t Go.undef)) (hids : ∀ t, ∀ i ∈ (env t).ids, i ∈ ids)
    (hnew : ∀ i ∈ e.new, i ∉ ids) (h : (evalOp P (rdO env) site ans o).run st = some (e, rs)) (hp : ∀ p ∈ e.obs, p)
    (hK : ∀ x w' G' τ', e.v.rep w' G' τ' x → Mem base X G' τ' (putSt st e.ws) w' → Ext base X G w G' w' → (∀ i ∈ ids, τ' i = τ i) → K (a.put o.dst x) w') : o.wp P a w K Q := by
  have hr := rd_rep (w := w) (G := G) (τ := τ) (a := a) henv
  have hri := rd_ids hids
  have gen : (∀ cs b, o.op ≠ .select cs b) → (genOp P (rdO env) o).run st = some (e, rs) → o.wp P a w K Q := fun hsel hg =>
    wp_of_res (genOp_res hsel (fun x _ => hr x) hm hg) rfl hK
  unfold evalOp at h
  split at h
  · rename_i x ho
    exact wp_of_res (s := pure (.value (a.eval x))) (evMove_res hm hc hnew (hr x) h hp) (by simp only [execOp, ho]) hK
  · rename_i x ho
    exact wp_of_res (s := pure (.value (a.eval x))) (evMove_res hm hc hnew (hr x) h hp) (by simp only [execOp, ho]) hK
  · rename_i t ho
    exact wp_of_res (evAlloc_res hm hbase hc hnew h) (by simp only [execOp, ho]) hK
  · rename_i t x ho
    exact wp_of_res (evBoxA_res (t := t) hm hbase hc (hr x) (hri x) hnew h) (by simp only [execOp, ho]) hK
  · rename_i t ps ho
    exact wp_of_res (evBuild_res (ρ := a.eval) hm (fun p _ => hr p.2) h) (by simp only [execOp, ho]) hK
  · rename_i t n ps ho
    exact wp_of_res (evBuildSlice_res (ρ := a.eval) hm hbase hc hnew (fun p _ => hr p.2) h) (by simp only [execOp, ho]) hK
  · rename_i t x ho
    exact wp_of_res (evLoad_res hm (hr x) h hp) (by simp only [execOp, ho]) hK
  · rename_i t x y ho
    exact wp_of_res (evStore_res hm (hr x) (nilFix_rep (hr y)) h hp) (by simp only [execOp, ho]) hK
  · rename_i x ho
    have hx := hr x
    split at h
    · rename_i i n q k hv
      simp only [T.run, Option.some.injEq, Prod.mk.injEq] at h
      obtain ⟨rfl, _⟩ := h
      rw [hv] at hx
      have hx' := hx
      simp only [V.rep] at hx
      obtain ⟨b, _, hxe⟩ := hx
      exact wp_of_res (s := pure (.value (a.eval x))) (OpRes.pure hm rfl hx') (by simp only [execOp, ho, hxe]) hK
    · rename_i n rows q k hv
      simp only [T.run, Option.some.injEq, Prod.mk.injEq] at h
      obtain ⟨rfl, _⟩ := h
      rw [hv] at hx
      have hx' := hx
      simp only [V.rep] at hx
      obtain ⟨b, _, _, _, _, hxe⟩ := hx
      exact wp_of_res (s := pure (.value (a.eval x))) (OpRes.pure hm rfl hx') (by simp only [execOp, ho, hxe]) hK
    · simp [T.run] at h
  · rename_i op t x y yt ho
    split at h
    · rename_i tt htt
      exact wp_of_res (sliceNil_res (p := x) (q := y) hm (hr x) (hr y) htt h hp) (by simp only [execOp, ho]) hK
    · rename_i hsn
      split at h
      · rename_i b hb
        obtain ⟨rfl, hcase⟩ := nilCmp_res hb (hr x) (hr y)
        split at h
        · rename_i el hu
          simp only [T.run, Option.some.injEq, Prod.mk.injEq] at h
          obtain ⟨rfl, _⟩ := h
          exact wp_of_res (OpRes.pure hm (run_v (run_binOp_nil (p := x) (q := y) (.inl rfl) hu hcase)) (by simp only [V.rep, V.repI]; rfl)) (by simp only [execOp, ho]) hK
        · rename_i el hu
          simp only [T.run, Option.some.injEq, Prod.mk.injEq] at h
          obtain ⟨rfl, _⟩ := h
          exact wp_of_res (OpRes.pure hm (run_v (run_binOp_nil (p := x) (q := y) (.inr rfl) hu hcase)) (by simp only [V.rep, V.repI]; rfl)) (by simp only [execOp, ho]) hK
        · simp [T.run] at h
      · split at h
        · rename_i b hb
          simp only [T.run, Option.some.injEq, Prod.mk.injEq] at h
          obtain ⟨rfl, _⟩ := h
          exact wp_of_res (OpRes.pure hm (run_v (aggCmp_run (p := x) (q := y) hb (hr x) (hr y))) (by simp only [V.rep, V.repI])) (by simp only [execOp, ho]) hK
        · simp [T.run] at h
        · exact gen (fun cs b => by rw [ho]; simp) h
  · rename_i ho; exact gen (fun cs b => by rw [ho]; simp) h
  · rename_i s d x ho; exact wp_of_res (evConvert_res (ρ := a.eval) (by rw [ho]) (fun y _ => hr y) hm h hp) rfl hK
  · rename_i ho; exact gen (fun cs b => by rw [ho]; simp) h
  · rename_i x i ho
    have hx := hr x
    split at h
    · rename_i vs hv
      split at h
      · rename_i v hvi
        simp only [T.run, Option.some.injEq, Prod.mk.injEq] at h
        obtain ⟨rfl, _⟩ := h
        rw [hv] at hx
        simp only [V.rep] at hx
        obtain ⟨xs, hxe, hl⟩ := hx
        obtain ⟨z, h1, h2⟩ := repL_get hl i v hvi
        refine wp_of_res (s := do pure (Next.value (← Instr.extract (a.eval x) i))) (OpRes.pure hm (run_v (x := z) ?_) h2) (by simp only [execOp, ho]) hK
        have h3 : xs[i]? = some z := by simpa using h1
        rw [hxe]
        simp only [Instr.extract, h3]
        rfl
      · simp [T.run] at h
    · simp [T.run] at h
  · rename_i t x f ho
    exact wp_of_res (evField_res hm (hr x) h) (by simp only [execOp, ho]) hK
  · rename_i t x i ho
    exact wp_of_res (evIndex_res hm (hr x) (hr i) h hp) (by simp only [execOp, ho]) hK
  · rename_i t x f ho
    exact wp_of_res (evFieldAddr_res hm (hr x) h) (by simp only [execOp, ho]) hK
  · rename_i t x i ho
    exact wp_of_res (evIndexAddr_res hm (hr x) (hr i) h hp) (by simp only [execOp, ho]) hK
  · rename_i t x lo hi mx ho
    have hx := hr x
    unfold evSliceOp at h
    split at h
    · rename_i id n p q hv
      rw [hv] at hx
      exact wp_of_res (evPart_res (ρ := a.eval) hm hx (fun y _ => hr y) (fun y _ => hr y) (fun y _ => hr y) h hp) (by simp only [execOp, ho]) hK
    · rename_i id hv
      rw [hv] at hx
      cases hf : flagged ans with
      | true =>
        simp only [hf, cond_true] at h
        exact wp_of_res (evPartOwn_res (ρ := a.eval) hm hx (fun y _ => hr y) (fun y _ => hr y) (fun y _ => hr y) h hp) (by simp only [execOp, ho]) hK
      | false =>
        simp only [hf, cond_false] at h
        split at h
        · rename_i hmx
          have hmx' : mx = none := by simpa using hmx
          subst hmx'
          exact wp_of_res (evSlice_res (ρ := a.eval) hm hx (fun y _ => hr y) (fun y _ => hr y) h hp) (by simp only [execOp, ho]; rfl) hK
        · simp [T.run] at h
    · split at h
      · rename_i hmx
        have hmx' : mx = none := by simpa using hmx
        subst hmx'
        exact wp_of_res (evSlice_res (ρ := a.eval) hm hx (fun y _ => hr y) (fun y _ => hr y) h hp) (by simp only [execOp, ho]; rfl) hK
      · simp [T.run] at h
  · rename_i t l c ho
    exact wp_of_res (evMakeSlice_res hm hbase hc hnew (hr l) (hr c) h hp) (by simp only [execOp, ho]) hK
  · rename_i t r ho
    refine wp_of_res (evMakeMap_res (rv := r.map a.eval) hm hbase hc hnew (fun h => by cases r with
      | none => rfl
      | some y => simp at h) h) (by simp only [execOp, ho]) hK
  · rename_i t x i ok ho
    exact wp_of_res (evLookup_res hm (hr x) (hr i) h) (by simp only [execOp, ho]) hK
  · rename_i t x i y ho
    exact wp_of_res (evMapUpdate_res hm (hr x) (hr i) (hr y) h) (by simp only [execOp, ho]) hK
  · rename_i t x i y ho
    exact wp_of_res (evMapUpdate_res hm (hr x) (hr i) (hr y) h) (by simp only [execOp, ho]) hK
  · rename_i fn first caps ho
    simp only [T.run, Option.some.injEq, Prod.mk.injEq] at h
    obtain ⟨rfl, _⟩ := h
    refine wp_of_res (s := do pure (Next.value (← Instr.makeFunc fn (first.map a.eval) (caps.map a.eval)))) (OpRes.pure hm (run_v rfl) ?_) (by simp only [execOp, ho]) hK
    simp only [V.rep]
    exact ⟨_, _, rfl, by simpa using repL_map hr first.toList, by simpa using repL_map hr caps.toList⟩
  · rename_i c ho
    split at h
    · rename_i f hcal
      split at h
      · rename_i tt hov
        unfold evOverlaps at hov
        split at hov
        · rename_i g i j n p q hargs
          cases hb : flagged ans && i != j with
          | false => simp only [hb, cond_false, reduceCtorEq] at hov
          | true =>
            simp only [hb, cond_true, Option.some.injEq] at hov
            subst hov
            simp only [Bool.and_eq_true, bne_iff_ne, ne_eq] at hb
            obtain ⟨o1, r1, ho1, h, _⟩ := run_ask h
            split at h
            · rename_i m rows
              obtain ⟨o2, r2, ho2, h, _⟩ := run_ask h
              split at h
              · rename_i k rows2 lim hpt
                cases hmn : m == n && k == n with
                | false => simp only [hmn, cond_false, T.run, reduceCtorEq] at h
                | true =>
                  simp only [hmn, cond_true, T.run, Option.some.injEq, Prod.mk.injEq] at h
                  obtain ⟨rfl, _⟩ := h
                  simp only [Bool.and_eq_true, beq_iff_eq] at hmn
                  obtain ⟨e1, e2⟩ := hmn
                  have e3 : k = n := e2
                  subst e1
                  subst e3
                  have hall := repL_map (rd := rdO env) (ρ := a.eval) hr c.args.toList
                  rw [hargs] at hall
                  obtain ⟨x, y, hxy, hxr, hyr⟩ : ∃ x y, c.args.toList.map a.eval = [x, y] ∧ (V.own i).rep w G τ x ∧ (V.vw j k p q).rep w G τ y := by
                    cases hl : c.args.toList.map a.eval with
                    | nil => rw [hl] at hall; simp only [repL] at hall
                    | cons x l => cases l with
                      | nil => rw [hl] at hall; simp only [repL] at hall; exact hall.2.elim
                      | cons y l => cases l with
                        | nil => rw [hl] at hall; simp only [repL] at hall; exact ⟨x, y, rfl, hall.1, hall.2.1⟩
                        | cons z l => rw [hl] at hall; simp only [repL] at hall; exact hall.2.2.elim
                  have hca : c.args.map a.eval = #[x, y] := by apply Array.ext'; simpa using hxy
                  have hrun := overlaps_run (P := P) hm ho1 ho2 hb.2 hpt hxr hyr (hp (IsOverlaps P g k) (by simp)) (hp (0 < rows.length) (by simp)) (hp (p < q) (by simp))
                  refine wp_of_res (s := execOp a.eval o) (OpRes.pure hm (x := .bool false) ?_ (by simp only [V.rep, V.repI])) rfl hK
                  simp only [execOp, ho, resolve, hcal, Act.eval, Deferred.ofValue, Sem.run_bind, Sem.run_pure, Result.andThen_ok, invoke, hca]
                  simpa using hrun
              · simp [T.run] at h
            · simp [T.run] at h
        · simp at hov
      have hfix : ∀ (ts : List TypeId) (vs : List V) (xs : List Value), repL w G τ vs xs → repL w G τ (fixAll P ts vs) xs := by
        intro ts
        induction ts with
        | nil => intro vs xs hv; simpa [fixAll] using hv
        | cons t ts ih =>
          intro vs xs hv
          cases vs with
          | nil => simpa [fixAll] using hv
          | cons v vs => cases xs with
            | nil => simp only [repL] at hv
            | cons x xs => simp only [repL] at hv; simp only [fixAll, repL]; exact ⟨rep_fixV hv.1, ih vs xs hv.2⟩
      have hargs : repL w G τ (fixQ P ans c.argTypes.toList (c.args.toList.map (rdO env))) (c.args.map a.eval).toList := by
        unfold fixQ
        cases flagged ans with
        | true => simpa using repL_map hr c.args.toList
        | false => exact hfix _ _ _ (by simpa using repL_map hr c.args.toList)
      refine evCall_wp (o := o) hm hbase hc (hr f) hargs (fun g first caps hf hgo => ?_) (fun g first caps hf => ?_) hnew h hp hK
      rotate_left
      · simp only [execOp, ho, resolve, hcal, Deferred.ofValue, hf, Sem.run_bind, Sem.run_pure, Result.andThen_ok, invoke]
      obtain ⟨fn, hfn, hname, hbody⟩ := hgo
      simp only [execOp, ho, resolve, hcal, Deferred.ofValue, hf, Sem.run_bind, Sem.run_pure, Result.andThen_ok, invoke, callFunc, run_program, hfn]
      have h1 : (fn.name == "runtime.NumGoroutine") = false := by simpa using hname
      have h2 : fn.body.isNone = false := by cases hb : fn.body <;> simp_all
      simp only [h1, h2, Bool.false_eq_true, if_false, Sem.run_pure]
    · rename_i hcal
      split at h
      · rename_i x t hx ht
        split at h
        · rename_i el hu
          have hca : c.args = #[x] := by apply Array.ext'; simpa using hx
          have hct : c.argTypes = #[t] := by apply Array.ext'; simpa using ht
          have hsel : ∀ cs b, o.op ≠ .select cs b := fun cs b => by rw [ho]; simp
          refine wp_of_res (evLen_res (rd := rdO env) (o := o) hm (hr x) (fun ad n cap hxe => ?_) (fun hg => genOp_res hsel (fun y _ => hr y) hm hg) h) rfl hK
          simp only [execOp, ho, resolve, hcal, Sem.run_bind, Sem.run_pure, Result.andThen_ok, invoke, builtin, hca, hct]
          simp [Builtin.len_, run_underlying hu, hxe, goInt]
        · exact gen (fun cs b => by rw [ho]; simp) h
      · simp [T.run] at h
    · rename_i hcal
      split at h
      · rename_i b x t u hx ht
        have hca : c.args = #[b, x] := by apply Array.ext'; simpa using hx
        have hct : c.argTypes = #[t, u] := by apply Array.ext'; simpa using ht
        have he : (execOp a.eval o).run P w = (do pure (Next.value (← Builtin.append_ #[t, u] o.type #[a.eval b, a.eval x])) : Sem Next).run P w := by
          simp only [execOp, ho, resolve, hcal, Sem.run_bind, Sem.run_pure, Result.andThen_ok, invoke, builtin, hca, hct]
          simp
        have fin : OpRes P base X ids G τ st w (do pure (Next.value (← Builtin.append_ #[t, u] o.type #[a.eval b, a.eval x]))) e → o.wp P a w K Q := by
          rintro ⟨x', w', G', τ', h1, h2⟩
          exact wp_of_res (s := execOp a.eval o) ⟨x', w', G', τ', by rw [he]; exact h1, h2⟩ rfl hK
        have hb := hr b
        unfold evAppendOp at h
        split at h
        · rename_i id n p q hv
          rw [hv] at hb
          cases hi : isIntT P u with
          | true =>
            simp only [hi, cond_true] at h
            split at h
            · rename_i k hk
              have hx := hr x
              rw [hk] at hx
              simp only [V.rep, V.repI] at hx
              refine fin ?_
              rw [hx]
              exact evGrow_res (ty := o.type) hm hbase hc hnew hb hi h hp
            · simp [T.run] at h
          | false =>
            simp only [hi, cond_false] at h
            exact fin (evAppendIn_res hm hb (hr x) h hp)
        · split at h
          · rename_i id2 n2 a2 b2 hxv
            have hx := hr x
            rw [hxv] at hx
            exact fin (evAppendVw_res (ty := o.type) hm hbase hc hnew hb hx h hp)
          · exact fin (evAppend_res (ty := o.type) hm hbase hc hnew hb (hr x) h hp)
      · simp [T.run] at h
    · rename_i hcal
      split at h
      · rename_i x t hx ht
        split at h
        · rename_i el hu
          have hca : c.args = #[x] := by apply Array.ext'; simpa using hx
          have hct : c.argTypes = #[t] := by apply Array.ext'; simpa using ht
          refine wp_of_res (s := execOp a.eval o) (evCap_res hm (hr x) (fun ad n cap hxe => ?_) h) rfl hK
          simp only [execOp, ho, resolve, hcal, Sem.run_bind, Sem.run_pure, Result.andThen_ok, invoke, builtin, hca, hct]
          simp [Builtin.cap_, run_underlying hu, hxe, goInt]
        · simp [T.run] at h
      · simp [T.run] at h
    · rename_i hcal
      split at h
      · rename_i d x t u hx ht
        have hca : c.args = #[d, x] := by apply Array.ext'; simpa using hx
        have hct : c.argTypes = #[t, u] := by apply Array.ext'; simpa using ht
        obtain ⟨x', w', G', τ', h1, h2⟩ := evCopy_res (u := u) (ty := o.type) (ids := ids) hm (hr d) (hr x) h hp
        refine wp_of_res (s := execOp a.eval o) ⟨x', w', G', τ', ?_, h2⟩ rfl hK
        have he : (execOp a.eval o).run P w = (do pure (Next.value (← Builtin.copy_ #[t, u] o.type #[a.eval d, a.eval x])) : Sem Next).run P w := by
          simp only [execOp, ho, resolve, hcal, Sem.run_bind, Sem.run_pure, Result.andThen_ok, invoke, builtin, hca, hct]
          simp
        rw [he]; exact h1
      · simp [T.run] at h
    · rename_i hcal
      split at h
      · rename_i x t hx ht
        have hca : c.args = #[x] := by apply Array.ext'; simpa using hx
        have hct : c.argTypes = #[t] := by apply Array.ext'; simpa using ht
        obtain ⟨x', w', G', τ', h1, h2⟩ := evClear_res (ty := o.type) (ids := ids) hm (hr x) h hp
        refine wp_of_res (s := execOp a.eval o) ⟨x', w', G', τ', ?_, h2⟩ rfl hK
        have he : (execOp a.eval o).run P w = (do pure (Next.value (← Builtin.clear_ #[t] o.type #[a.eval x])) : Sem Next).run P w := by
          simp only [execOp, ho, resolve, hcal, Sem.run_bind, Sem.run_pure, Result.andThen_ok, invoke, builtin, hca, hct]
          simp
        rw [he]; exact h1
      · simp [T.run] at h
    · exact gen (fun cs b => by rw [ho]; simp) h
    · exact gen (fun cs b => by rw [ho]; simp) h
    · simp [T.run] at h
  · simp [T.run] at h

end Go.Proofs.Ytieffigehkjifaa.E

/- The engine, part O: one operation in a frame; what it hangs on. -/
namespace Go.Proofs.Ytieffigehkjifaa.E
open Go
set_option linter.unusedSimpArgs false

theorem allSome_congr {α β : Type} {f g : α → Option β} : ∀ {l : List α}, (∀ x ∈ l, f x = g x) → allSome f l = allSome g l
  | [], _ => rfl
  | a :: l, h => by simp only [allSome, h a (by simp), allSome_congr (l := l) (fun x hx => h x (by simp [hx]))]

theorem genOp_congr {P : Program} {rd rd' : Operand → V} {o : Oper} (hs : ∀ cs b, o.op ≠ .select cs b) (h : ∀ x ∈ o.op.operands, rd x = rd' x) : genOp P rd o = genOp P rd' o := by
  unfold genOp
  rw [allSome_congr (f := fun x => (rd x).toVal) (g := fun x => (rd' x).toVal) (fun x hx => by rw [h x (by simpa using hx)])]
  rw [execOp_congr (ρ := fun x => ((rd x).toVal).getD Go.undef) (ρ' := fun x => ((rd' x).toVal).getD Go.undef) o hs (fun x hx => by simp only [h x hx])]

theorem evalOp_congr {P : Program} {rd rd' : Operand → V} {site : Nat} {ans : List Ans} {o : Oper} (h : ∀ x ∈ o.op.operands, rd x = rd' x) : evalOp P rd site ans o = evalOp P rd' site ans o := by
  have gen : (∀ cs b, o.op ≠ .select cs b) → genOp P rd o = genOp P rd' o := fun hs => genOp_congr hs h
  unfold evalOp
  cases ho : o.op with
  | move x => simp only [h x (by simp [ho, Op.operands])]
  | assign x => simp only [h x (by simp [ho, Op.operands])]
  | alloc t => rfl
  | box t x => simp only [h x (by simp [ho, Op.operands])]
  | build t ps =>
    have : (ps.toList.map fun p => (p.1, rd p.2)) = ps.toList.map fun p => (p.1, rd' p.2) := List.map_congr_left fun p hp => by rw [h p.2 (by simp only [ho, Op.operands, List.mem_toArray, List.mem_map]; exact ⟨p, hp, rfl⟩)]
    simp only [evBuild, this]
  | buildSlice t n ps =>
    have : (ps.toList.map fun p => (p.1, rd p.2)) = ps.toList.map fun p => (p.1, rd' p.2) := List.map_congr_left fun p hp => by rw [h p.2 (by simp only [ho, Op.operands, List.mem_toArray, List.mem_map]; exact ⟨p, hp, rfl⟩)]
    simp only [evBuildSlice, this]
  | load t a => simp only [h a (by simp [ho, Op.operands])]
  | store t a x => simp only [h a (by simp [ho, Op.operands]), h x (by simp [ho, Op.operands])]
  | nilCheck x => simp only [h x (by simp [ho, Op.operands])]
  | binOp op t x y yt => simp only [h x (by simp [ho, Op.operands]), h y (by simp [ho, Op.operands]), gen (fun cs b => by rw [ho]; simp)]
  | unOp op t x => exact gen (fun cs b => by rw [ho]; simp)
  | convert s d x => simp only [h x (by simp [ho, Op.operands]), evConvert, gen (fun cs b => by rw [ho]; simp)]
  | pick c x y => exact gen (fun cs b => by rw [ho]; simp)
  | extract x i => simp only [h x (by simp [ho, Op.operands])]
  | field t x f => simp only [h x (by simp [ho, Op.operands])]
  | index t x i => simp only [h x (by simp [ho, Op.operands]), h i (by simp [ho, Op.operands])]
  | fieldAddr t x f => simp only [h x (by simp [ho, Op.operands])]
  | indexAddr t x i => simp only [h x (by simp [ho, Op.operands]), h i (by simp [ho, Op.operands])]
  | slice t x lo hi mx =>
    have h1 : lo.map rd = lo.map rd' := by cases lo with
      | none => rfl
      | some y => simp [h y (by simp [ho, Op.operands])]
    have h2 : hi.map rd = hi.map rd' := by cases hi with
      | none => rfl
      | some y => simp [h y (by simp [ho, Op.operands])]
    have h3 : mx.map rd = mx.map rd' := by cases mx with
      | none => rfl
      | some y => simp [h y (by simp [ho, Op.operands])]
    simp only [h x (by simp [ho, Op.operands]), h1, h2, h3]
  | makeSlice t l c => simp only [h l (by simp [ho, Op.operands]), h c (by simp [ho, Op.operands])]
  | makeMap t r => cases r with
    | none => rfl
    | some y => simp [h y (by simp [ho, Op.operands])]
  | lookup t x i ok => simp only [h x (by simp [ho, Op.operands]), h i (by simp [ho, Op.operands])]
  | mapUpdate t x i y => simp only [h x (by simp [ho, Op.operands]), h i (by simp [ho, Op.operands]), h y (by simp [ho, Op.operands])]
  | insert t x i y => simp only [h x (by simp [ho, Op.operands]), h i (by simp [ho, Op.operands]), h y (by simp [ho, Op.operands])]
  | makeFunc fn f c =>
    have h1 : f.toList.map rd = f.toList.map rd' := List.map_congr_left fun y hy => h y (by simp only [ho, Op.operands, Array.mem_append]; exact .inl (by simpa using hy))
    have h2 : c.toList.map rd = c.toList.map rd' := List.map_congr_left fun y hy => h y (by simp only [ho, Op.operands, Array.mem_append]; exact .inr (by simpa using hy))
    simp only [h1, h2]
  | call c =>
    have hargs : ∀ y ∈ c.args.toList, rd y = rd' y := fun y hy => h y (by simp only [ho, Op.operands, Call.operands, Array.mem_append]; exact .inr (by simpa using hy))
    have h1 : c.args.toList.map rd = c.args.toList.map rd' := List.map_congr_left hargs
    have hg := gen (fun cs b => by rw [ho]; simp)
    simp only
    cases hcal : c.callee with
    | value f => simp only [h1, h f (by simp [ho, Op.operands, Call.operands, hcal])]
    | invoke r m => rfl
    | builtin b =>
      cases b <;> simp only [hg]
      · split
        · rename_i x y t u hx ht
          rw [hx] at hargs
          simp only [hargs x (by simp), hargs y (by simp)]
        · rfl
      · split
        · rename_i x t hx ht
          rw [hx] at hargs
          simp only [hargs x (by simp)]
        · rfl
      · split
        · rename_i x t hx ht
          rw [hx] at hargs
          simp only [hargs x (by simp)]
        · rfl
      · split
        · rename_i x y t u hx ht
          rw [hx] at hargs
          simp only [hargs x (by simp), hargs y (by simp)]
        · rfl
      · split
        · rename_i x t hx ht
          rw [hx] at hargs
          simp only [hargs x (by simp), evLen, hg]
        · rfl
  | _ => rfl

theorem rdO_congr {env env' : Nat → V} {l : List Nat} {xs : Array Operand} (hl : ∀ t, (Operand.tmp t) ∈ xs → t ∈ l) (h : ∀ t ∈ l, env t = env' t) : ∀ x ∈ xs, rdO env x = rdO env' x := by
  intro x hx
  cases x with
  | tmp t => exact h t (hl t hx)
  | const v => rfl
  | global g => rfl
  | func f => rfl

theorem guardOf_congr {ops : Array Oper} {env env' : Nat → V} {o : Oper} (h : ∀ t ∈ looksOf ops o, env t = env' t) : guardOf ops env o = guardOf ops env' o := by
  unfold guardOf
  unfold looksOf at h
  cases hg : o.guard with
  | none => rfl
  | some p =>
    obtain ⟨j, want⟩ := p
    simp only [hg] at h ⊢
    cases hj : ops[j]? with
    | none => rfl
    | some oj =>
      simp only [hj] at h ⊢
      cases hd : oj.dst with
      | none => rfl
      | some d =>
        simp only [hd] at h ⊢
        rw [h d (by simp)]

theorem logOp_congr {P : Program} {rid : Nat} {ops : Array Oper} {sc : List (Nat × List Ans × Option Bool)} {i : Nat} {o : Oper} {env env' : Nat → V} {st st' : Nat → Option E.Obj} {l : Log}
    (h : logOp P rid ops sc i o env st = some l) (he : ∀ t ∈ looksOf ops o, env' t = env t) (hs : ∀ j ∈ l.rs, st' j = st j) : logOp P rid ops sc i o env' st' = some l := by
  unfold logOp at h ⊢
  rw [guardOf_congr (env := env') (env' := env) he]
  split at h
  · simp at h
  · exact h
  · have hev : evalOp P (rdO env') (site rid i) (ansOf i sc).1 o = evalOp P (rdO env) (site rid i) (ansOf i sc).1 o := by
      refine evalOp_congr (rdO_congr (l := looksOf ops o) (fun t ht => ?_) he)
      unfold looksOf
      rw [List.mem_append]
      left
      rw [List.mem_filterMap]
      exact ⟨.tmp t, by simpa using ht, rfl⟩
    rw [hev]
    split at h
    · simp at h
    · rename_i e rs hr
      simp only [Option.some.injEq] at h
      subst h
      simp only [T.run_congr hr hs]

theorem getD_put {a : Act} {dst : Option Nat} {x : Value} {n : Nat} (hn : a.tmps.size = n) (hd : dstOk n dst = true) (t : Nat) : (a.put dst x).tmps.getD t Go.undef = if dst = some t then x else a.tmps.getD t Go.undef := by
  cases dst with
  | none => simp [Act.put]
  | some d =>
    have hlt : d < a.tmps.size := by rw [hn]; simpa [dstOk, Nat.blt_eq] using hd
    by_cases hdt : d = t
    · subst hdt
      simp [Act.put, hlt]
    · simp [Act.put, hdt, Array.getElem?_setIfInBounds_ne hdt]

theorem putSt_some : ∀ {ws : List (Nat × Option E.Obj)} {st : Nat → Option E.Obj} {i : Nat} {o : E.Obj}, putSt st ws i = some o → (i, some o) ∈ ws ∨ st i = some o
  | [], _, _, _, h => .inr h
  | (j, p) :: ws, st, i, o, h => by
    simp only [putSt] at h
    rcases putSt_some h with h | h
    · exact .inl (by simp [h])
    · by_cases hij : i = j
      · subst hij; simp at h; subst h; exact .inl (by simp)
      · have : (i == j) = false := by simpa using hij
        simp only [this, cond_false] at h
        exact .inr h

/-- The frame behind an operation. -/
theorem St.put {base : Nat} {X G G' : Nat → Prop} {τ τ' : Nat → Gh} {σ : S} {a : Act} {w w' : World} {dst : Option Nat} {x : Value} {v : V} {ws : List (Nat × Option E.Obj)} {new : List Nat}
    (hs : St base X G τ σ a w) (hd : dstOk σ.n dst = true) (hr : v.rep w' G' τ' x) (hm : Mem base X G' τ' (putSt σ.st ws) w') (he : Ext base X G w G' w') (ht : ∀ i ∈ σ.ids, τ' i = τ i)
    (hv : ∀ i ∈ v.ids, i ∈ new ++ σ.ids) (hw : ∀ i ∈ ws.map (·.1), i ∈ new ++ σ.ids) (hwo : ∀ i o, (i, some o) ∈ ws → ∀ j ∈ idsObj o, j ∈ new ++ σ.ids) :
    St base X G' τ' ⟨σ.n, putEnv σ.env dst v, putSt σ.st ws, new ++ σ.ids⟩ (a.put dst x) w' := by
  refine ⟨hm, Nat.le_trans hs.base he.size, ?_, fun t => ?_, fun t i hi => ?_, fun i o hi => ?_, ?_⟩
  · cases dst <;> simp [Act.put, hs.size]
  · rw [getD_put hs.size hd]
    have hold : (σ.env t).rep w' G' τ' (a.tmps.getD t Go.undef) := rep_mono he.keep _ _ (fun i hi => ht i (hs.ids t i hi)) (hs.env t)
    cases dst with
    | none => simpa [putEnv] using hold
    | some d =>
      simp only [putEnv]
      by_cases hdt : t = d
      · subst hdt; simpa using hr
      · have h1 : (t == d) = false := by simpa using hdt
        have h2 : ¬ d = t := fun e => hdt e.symm
        simp only [h1, cond_false, Option.some.injEq, h2, if_false]
        exact hold
  · cases dst with
    | none => exact List.mem_append.2 (.inr (hs.ids t i hi))
    | some d =>
      simp only [putEnv] at hi
      by_cases hdt : t = d
      · subst hdt; simp only [beq_self_eq_true, cond_true] at hi; exact hv i hi
      · have h1 : (t == d) = false := by simpa using hdt
        simp only [h1, cond_false] at hi
        exact List.mem_append.2 (.inr (hs.ids t i hi))
  · rcases putSt_some hi with h | h
    · exact ⟨hw i (List.mem_map.2 ⟨_, h, rfl⟩), hwo i o h⟩
    · obtain ⟨h1, h2⟩ := hs.objs i o h
      exact ⟨List.mem_append.2 (.inr h1), fun j hj => List.mem_append.2 (.inr (h2 j hj))⟩
  · cases dst <;> simp [Act.put, hs.defers]

theorem wanted_of {ops : Array Oper} {base : Nat} {X G : Nat → Prop} {τ : Nat → Gh} {σ : S} {a : Act} {w : World} {o : Oper} {b : Bool} (hs : St base X G τ σ a w) (h : guardOf ops σ.env o = some b) : Region.wanted o (yielded ops a.tmps) = b := by
  unfold guardOf at h
  unfold Region.wanted
  cases hg : o.guard with
  | none => simpa [hg] using h
  | some p =>
    obtain ⟨j, want⟩ := p
    simp only [hg] at h ⊢
    cases hj : ops[j]? with
    | none => simp [hj] at h
    | some oj =>
      simp only [hj] at h
      cases hd : oj.dst with
      | none => simp [hd] at h
      | some d =>
        simp only [hd] at h
        have hrep := hs.env d
        split at h
        · rename_i q hq
          simp only [Option.some.injEq] at h
          rw [hq] at hrep
          simp only [V.rep, V.repI] at hrep
          have hget : a.tmps[d]? = some (.bool q) := by
            cases hx : a.tmps[d]? with
            | none => simp [hx, Go.undef] at hrep
            | some y => simp [hx] at hrep; rw [hrep]
          simp only [yielded, hj, Option.bind_some, hd, hget]
          rw [← h]
          cases q <;> cases want <;> rfl
        · rename_i q hq
          simp only [Option.some.injEq] at h
          rw [hq] at hrep
          simp only [V.rep, V.repI] at hrep
          have hy : yielded ops a.tmps j = none := by
            simp only [yielded, hj, Option.bind_some, hd]
            cases hx : a.tmps[d]? with
            | none => rfl
            | some y => simp [hx] at hrep; subst hrep; rfl
          rw [hy, ← h]
          rfl
        · simp at h

/-- One operation in a frame. -/
theorem log_wp {P : Program} {base : Nat} {X G : Nat → Prop} {τ : Nat → Gh} {σ : S} {a : Act} {w : World} {rid : Nat} {ops : Array Oper} {sc : List (Nat × List Ans × Option Bool)} {i : Nat} {o : Oper} {l : Log} {K : Act → World → Prop} {Q : Exit → Act → World → Prop}
    (hs : St base X G τ σ a w) (ho : ops[i]? = some o) (h : logOp P rid ops sc i o σ.env σ.st = some l) (hp : ∀ p ∈ l.obs, p) (hd : dstOk σ.n o.dst = true) (hn : disjoint l.new σ.ids = true) (hv : ∀ j ∈ l.vids, j ∈ l.new ++ σ.ids)
    (hK : ∀ a' w' G' τ', St base X G' τ' ⟨σ.n, putEnv σ.env o.dst l.v, putSt σ.st l.ws, l.new ++ σ.ids⟩ a' w' → Ext base X G w G' w' → (∀ i ∈ σ.ids, τ' i = τ i) → K a' w') : wpOp P ops Q i K a w := by
  unfold wpOp
  rw [ho]
  simp only
  have hv1 : ∀ j ∈ l.v.ids, j ∈ l.new ++ σ.ids := fun j hj => hv j (by simp only [Log.vids, List.mem_append]; exact .inl hj)
  have hv2 : ∀ j ∈ l.ws.map (·.1), j ∈ l.new ++ σ.ids := fun j hj => hv j (by simp only [Log.vids, List.mem_append, Log.touch]; exact .inr (.inl hj))
  have hv3 : ∀ i o, (i, some o) ∈ l.ws → ∀ j ∈ idsObj o, j ∈ l.new ++ σ.ids := fun i o hi j hj => hv j (by
    simp only [Log.vids, List.mem_append]
    exact .inr (.inr (List.mem_flatMap.2 ⟨(i, some o), hi, hj⟩)))
  unfold logOp at h
  split at h
  · simp at h
  · rename_i hg
    simp only [Option.some.injEq] at h
    subst h
    rw [wanted_of hs hg]
    simp only [Bool.false_eq_true, if_false]
    exact hK _ w G τ (St.put hs hd (by simp only [V.rep, V.repI]) hs.mem (Ext.refl _ _ _ _) (fun _ _ => rfl) hv1 hv2 hv3) (Ext.refl _ _ _ _) (fun _ _ => rfl)
  · rename_i hg
    rw [wanted_of hs hg]
    simp only [if_true]
    left
    split at h
    · simp at h
    · rename_i e rs hr
      simp only [Option.some.injEq] at h
      subst h
      obtain ⟨e0, r1, r2, h1, h2', _⟩ := T.run_bind_some hr
      obtain ⟨e1, r3, r4, h3, h2, _⟩ := T.run_bind_some h2'
      have hdec : e.ws = e0.ws ∧ e.new = e0.new ∧ (∀ p ∈ e0.obs, p) ∧ ∀ {w' : World} {G' : Nat → Prop} {τ' : Nat → Gh} {x : Value}, e0.v.rep w' G' τ' x → e.v.rep w' G' τ' x := by
        have hdec1 : e.ws = e1.ws ∧ e.new = e1.new ∧ (∀ p ∈ e1.obs, p) ∧ ∀ {w' : World} {G' : Nat → Prop} {τ' : Nat → Gh} {x : Value}, e1.v.rep w' G' τ' x → e.v.rep w' G' τ' x := by
          unfold decided at h2
          split at h2
          · simp only [T.run, Option.some.injEq, Prod.mk.injEq] at h2
            obtain ⟨rfl, _⟩ := h2
            exact ⟨rfl, rfl, hp, fun h => h⟩
          · rename_i t _
            split at h2
            · rename_i b hb
              simp only [T.run, Option.some.injEq, Prod.mk.injEq] at h2
              obtain ⟨rfl, _⟩ := h2
              have hbt : b = t := hp _ (by simp)
              refine ⟨rfl, rfl, fun p hpm => hp p (by simp [hpm]), fun h => ?_⟩
              rw [hb, hbt] at h
              exact h
            · simp [T.run] at h2
        obtain ⟨q1, q2, q3, q4⟩ := hdec1
        obtain ⟨k1, k2, k3, k4⟩ := recast_spec h3 q3
        exact ⟨q1.trans k2, q2.trans k3, k4, fun h => q4 (by rw [k1]; exact h)⟩
      obtain ⟨d1, d2, d3, d4⟩ := hdec
      refine op_wp (rs := r1) hs.mem hs.base hs.objs hs.env hs.ids (fun j hj => ?_) h1 d3 (fun x w' G' τ' g1 g2 g3 g4 => ?_)
      · exact disjoint_spec hn j (by rw [d2]; exact hj)
      · exact hK _ w' G' τ' (St.put hs hd (d4 g1) (by simp only [d1]; exact g2) g3 g4 hv1 hv2 hv3) g3 g4

end Go.Proofs.Ytieffigehkjifaa.E

/- The engine, part P: regions, also those whose order is open. -/
namespace Go.Proofs.Ytieffigehkjifaa.E
open Go
set_option linter.unusedSimpArgs false

theorem runOps_cons {P : Program} {rid : Nat} {ops : Array Oper} {sc : List (Nat × List Ans × Option Bool)} {i : Nat} {is : List Nat} {σ σ' : S} {ls : List Log} (h : runOps P rid ops sc (i :: is) σ = some (σ', ls)) :
    ∃ o l ls', ops[i]? = some o ∧ logOp P rid ops sc i o σ.env σ.st = some l ∧ dstOk σ.n o.dst = true ∧ nodupB l.new = true ∧ disjoint l.new σ.ids = true ∧ subset l.vids (l.new ++ σ.ids) = true ∧
      ls = l :: ls' ∧ runOps P rid ops sc is ⟨σ.n, putEnv σ.env o.dst l.v, putSt σ.st l.ws, l.new ++ σ.ids⟩ = some (σ', ls') := by
  unfold runOps at h
  split at h
  · simp at h
  · rename_i o ho
    split at h
    · simp at h
    · rename_i l hl
      cases hb : dstOk σ.n o.dst && nodupB l.new && disjoint l.new σ.ids && subset l.vids (l.new ++ σ.ids) with
      | false => simp only [hb, cond_false, reduceCtorEq] at h
      | true =>
        simp only [hb, cond_true] at h
        simp only [Bool.and_eq_true] at hb
        split at h
        · simp at h
        · rename_i σ2 ls2 h2
          simp only [Option.some.injEq, Prod.mk.injEq] at h
          obtain ⟨rfl, rfl⟩ := h
          exact ⟨o, l, ls2, ho, hl, hb.1.1.1, hb.1.1.2, hb.1.2, hb.2, rfl, h2⟩

/-- In the text's order. -/
theorem runOps_wp {P : Program} {base : Nat} {X : Nat → Prop} {rid : Nat} {ops : Array Oper} {sc : List (Nat × List Ans × Option Bool)} {Q : Exit → Act → World → Prop} :
    ∀ {is : List Nat} {σ σ' : S} {ls : List Log} {G : Nat → Prop} {τ : Nat → Gh} {a : Act} {w : World}, runOps P rid ops sc is σ = some (σ', ls) → (∀ l ∈ ls, ∀ p ∈ l.obs, p) → St base X G τ σ a w →
      (∀ a' w' G' τ', St base X G' τ' σ' a' w' → Ext base X G w G' w' → (∀ i ∈ σ.ids, τ' i = τ i) → Q .normal a' w') → wpOps P ops Q is a w
  | [], σ, σ', ls, G, τ, a, w, h, _, hs, hQ => by
    simp only [runOps, Option.some.injEq, Prod.mk.injEq] at h
    obtain ⟨rfl, _⟩ := h
    simp only [wpOps]
    exact hQ a w G τ hs (Ext.refl _ _ _ _) (fun _ _ => rfl)
  | i :: is, σ, σ', ls, G, τ, a, w, h, hp, hs, hQ => by
    obtain ⟨o, l, ls', h1, h2, h3, _, h5, h6, rfl, h8⟩ := runOps_cons h
    rw [wpOps_cons]
    refine log_wp hs h1 h2 (hp l (by simp)) h3 h5 (subset_spec h6) fun a' w' G' τ' k1 k2 k3 => ?_
    exact runOps_wp h8 (fun l' hl' => hp l' (by simp [hl'])) k1 fun a2 w2 G2 τ2 q1 q2 q3 => hQ a2 w2 G2 τ2 q1 (k2.trans q2) (fun j hj => (q3 j (List.mem_append.2 (.inr hj))).trans (k3 j hj))

/-! ### Whatever order -/

abbrev Row := Nat × Oper × Log

def stEnv (L : List Row) (p : Nat → Bool) (env : Nat → V) : Nat → V := L.foldl (fun e x => if p x.1 then putEnv e x.2.1.dst x.2.2.v else e) env
def stSt (L : List Row) (p : Nat → Bool) (st : Nat → Option E.Obj) : Nat → Option E.Obj := L.foldl (fun s x => if p x.1 then putSt s x.2.2.ws else s) st
def stIds (L : List Row) (p : Nat → Bool) (ids : List Nat) : List Nat := L.foldl (fun s x => if p x.1 then x.2.2.new ++ s else s) ids

theorem putEnv_at {env env' : Nat → V} {dst : Option Nat} {v : V} {t : Nat} (h : env t = env' t) : putEnv env dst v t = putEnv env' dst v t := by
  cases dst with
  | none => exact h
  | some d => simp only [putEnv, h]

theorem putEnv_other {env : Nat → V} {dst : Option Nat} {v : V} {t : Nat} (h : dst ≠ some t) : putEnv env dst v t = env t := by
  cases dst with
  | none => rfl
  | some d =>
    have : (t == d) = false := by simp; exact fun e => h (by rw [e])
    simp only [putEnv, this, cond_false]

theorem putEnv_same {env : Nat → V} {v : V} {t : Nat} : putEnv env (some t) v t = v := by simp [putEnv]

theorem putSt_at : ∀ {ws : List (Nat × Option E.Obj)} {st st' : Nat → Option E.Obj} {i : Nat}, st i = st' i → putSt st ws i = putSt st' ws i
  | [], _, _, _, h => h
  | (j, o) :: ws, st, st', i, h => by
    simp only [putSt]
    exact putSt_at (by simp only [h])

theorem putSt_other : ∀ {ws : List (Nat × Option E.Obj)} {st : Nat → Option E.Obj} {i : Nat}, i ∉ ws.map (·.1) → putSt st ws i = st i
  | [], _, _, _ => rfl
  | (j, o) :: ws, st, i, h => by
    simp only [List.map_cons, List.mem_cons, not_or] at h
    simp only [putSt]
    rw [putSt_other h.2]
    have : (i == j) = false := by simpa using h.1
    simp only [this, cond_false]

theorem putSt_touch : ∀ {ws : List (Nat × Option E.Obj)} {st st' : Nat → Option E.Obj} {i : Nat}, i ∈ ws.map (·.1) → putSt st ws i = putSt st' ws i
  | [], _, _, _, h => by simp at h
  | (j, o) :: ws, st, st', i, h => by
    simp only [putSt]
    by_cases hw : i ∈ ws.map (·.1)
    · exact putSt_touch hw
    · simp only [List.map_cons, List.mem_cons, hw, or_false] at h
      subst h
      exact putSt_at (by simp)

theorem stEnv_at {p q : Nat → Bool} {t : Nat} : ∀ {L : List Row} {env env' : Nat → V}, env t = env' t → (∀ x ∈ L, x.2.1.dst = some t → p x.1 = q x.1) → stEnv L p env t = stEnv L q env' t
  | [], _, _, h, _ => h
  | x :: L, env, env', h, hp => by
    simp only [stEnv, List.foldl_cons]
    refine stEnv_at (L := L) ?_ (fun y hy => hp y (by simp [hy]))
    by_cases hd : x.2.1.dst = some t
    · rw [hp x (by simp) hd]
      split
      · exact putEnv_at h
      · exact h
    · split <;> split
      · exact putEnv_at h
      · rw [putEnv_other hd]; exact h
      · rw [putEnv_other hd]; exact h
      · exact h

theorem stSt_at {p q : Nat → Bool} {i : Nat} : ∀ {L : List Row} {st st' : Nat → Option E.Obj}, st i = st' i → (∀ x ∈ L, i ∈ x.2.2.touch → p x.1 = q x.1) → stSt L p st i = stSt L q st' i
  | [], _, _, h, _ => h
  | x :: L, st, st', h, hp => by
    simp only [stSt, List.foldl_cons]
    refine stSt_at (L := L) ?_ (fun y hy => hp y (by simp [hy]))
    by_cases hd : i ∈ x.2.2.touch
    · rw [hp x (by simp) hd]
      split
      · exact putSt_at h
      · exact h
    · split <;> split
      · exact putSt_at h
      · rw [putSt_other hd]; exact h
      · rw [putSt_other hd]; exact h
      · exact h

theorem stEnv_append (A B : List Row) (p : Nat → Bool) (env : Nat → V) : stEnv (A ++ B) p env = stEnv B p (stEnv A p env) := by simp [stEnv, List.foldl_append]
theorem stSt_append (A B : List Row) (p : Nat → Bool) (st : Nat → Option E.Obj) : stSt (A ++ B) p st = stSt B p (stSt A p st) := by simp [stSt, List.foldl_append]

theorem stIds_mem {p : Nat → Bool} {i : Nat} : ∀ {L : List Row} {ids : List Nat}, i ∈ stIds L p ids ↔ i ∈ ids ∨ ∃ x ∈ L, p x.1 = true ∧ i ∈ x.2.2.new
  | [], ids => by simp [stIds]
  | x :: L, ids => by
    simp only [stIds, List.foldl_cons]
    have ih := stIds_mem (p := p) (i := i) (L := L) (ids := if p x.1 = true then x.2.2.new ++ ids else ids)
    simp only [stIds] at ih
    rw [ih]
    by_cases hp : p x.1 = true
    · simp only [hp, if_true, List.mem_append, List.mem_cons, exists_eq_or_imp, true_and]
      constructor
      · rintro ((h | h) | h)
        · exact .inr (.inl h)
        · exact .inl h
        · exact .inr (.inr h)
      · rintro (h | h | h)
        · exact .inl (.inr h)
        · exact .inl (.inl h)
        · exact .inr h
    · have hp' : p x.1 = false := by simpa using hp
      simp only [hp', Bool.false_eq_true, if_false, List.mem_cons, exists_eq_or_imp, false_and, false_or]

/-- The rows of a run in the text's order. -/
inductive Good (P : Program) (rid : Nat) (ops : Array Oper) (sc : List (Nat × List Ans × Option Bool)) (n : Nat) : List Row → (Nat → V) → (Nat → Option E.Obj) → List Nat → Prop
  | nil {env st ids} : Good P rid ops sc n [] env st ids
  | cons {i o l L env st ids} : ops[i]? = some o → logOp P rid ops sc i o env st = some l → dstOk n o.dst = true → disjoint l.new ids = true → (∀ j ∈ l.vids, j ∈ l.new ++ ids) → (∀ x ∈ L, i < x.1) →
      Good P rid ops sc n L (putEnv env o.dst l.v) (putSt st l.ws) (l.new ++ ids) → Good P rid ops sc n ((i, o, l) :: L) env st ids

theorem good_of_run {P : Program} {rid : Nat} {ops : Array Oper} {sc : List (Nat × List Ans × Option Bool)} : ∀ {is : List Nat} {σ σ' : S} {ls : List Log} (k : Nat), runOps P rid ops sc is σ = some (σ', ls) → is = List.range' k is.length →
    Good P rid ops sc σ.n (is.zip ((ops.toList.drop k).zip ls)) σ.env σ.st σ.ids ∧ σ'.n = σ.n ∧ σ'.env = stEnv (is.zip ((ops.toList.drop k).zip ls)) (fun _ => true) σ.env ∧ σ'.st = stSt (is.zip ((ops.toList.drop k).zip ls)) (fun _ => true) σ.st ∧
      (∀ i, i ∈ σ'.ids ↔ i ∈ stIds (is.zip ((ops.toList.drop k).zip ls)) (fun _ => true) σ.ids) ∧ ls.length = is.length
  | [], σ, σ', ls, k, h, _ => by
    simp only [runOps, Option.some.injEq, Prod.mk.injEq] at h
    obtain ⟨rfl, rfl⟩ := h
    exact ⟨by simp; exact .nil, rfl, rfl, rfl, fun _ => Iff.rfl, rfl⟩
  | i :: is, σ, σ', ls, k, h, hk => by
    obtain ⟨o, l, ls', h1, h2, h3, _, h5, h6, rfl, h8⟩ := runOps_cons h
    simp only [List.length_cons, List.range'_succ, List.cons.injEq] at hk
    obtain ⟨rfl, hk⟩ := hk
    obtain ⟨g1, g2, g3, g4, g5, g6⟩ := good_of_run (i + 1) h8 hk
    have hi : i < ops.toList.length := by simpa using (Array.getElem?_eq_some_iff.1 h1).1
    have hdrop : ops.toList.drop i = o :: ops.toList.drop (i + 1) := by
      rw [List.drop_eq_getElem_cons hi]
      congr 1
      have := (Array.getElem?_eq_some_iff.1 h1).2
      simpa using this
    rw [hdrop]
    simp only [List.zip_cons_cons]
    refine ⟨.cons h1 h2 h3 h5 (subset_spec h6) (fun x hx => ?_) g1, g2, ?_, ?_, fun j => ?_, by simp [g6]⟩
    · have : x.1 ∈ is := (List.of_mem_zip hx).1
      rw [hk, List.mem_range'] at this
      obtain ⟨q, _, hq⟩ := this
      omega
    · rw [g3]; rfl
    · rw [g4]; rfl
    · rw [g5 j]; rfl

theorem Good.at {P : Program} {rid : Nat} {ops : Array Oper} {sc : List (Nat × List Ans × Option Bool)} {n : Nat} {L : List Row} {env : Nat → V} {st : Nat → Option E.Obj} {ids : List Nat} (h : Good P rid ops sc n L env st ids) :
    ∀ x ∈ L, ops[x.1]? = some x.2.1 ∧ logOp P rid ops sc x.1 x.2.1 (stEnv L (fun k => decide (k < x.1)) env) (stSt L (fun k => decide (k < x.1)) st) = some x.2.2 ∧ dstOk n x.2.1.dst = true ∧
      (∀ j ∈ x.2.2.new, j ∉ ids) ∧ (∀ y ∈ L, y.1 < x.1 → ∀ j ∈ x.2.2.new, j ∉ y.2.2.new) ∧ (∀ j ∈ x.2.2.vids, j ∈ x.2.2.new ∨ j ∈ ids ∨ ∃ y ∈ L, y.1 < x.1 ∧ j ∈ y.2.2.new) ∧ (∀ y ∈ L, y.1 = x.1 → y = x) := by
  induction h with
  | nil => intro x hx; simp at hx
  | @cons i o l L env st ids h1 h2 h3 h4 h5 h6 _ ih =>
    intro x hx
    rcases List.mem_cons.1 hx with rfl | hx
    · have hnone : ∀ y ∈ ((i, o, l) :: L : List Row), (fun k => decide (k < i)) y.1 = false := by
        intro y hy
        rcases List.mem_cons.1 hy with rfl | hy
        · simp
        · have := h6 y hy; simp; omega
      have e1 : stEnv ((i, o, l) :: L) (fun k => decide (k < i)) env = env := by
        funext t
        have : stEnv ((i, o, l) :: L) (fun k => decide (k < i)) env t = stEnv ((i, o, l) :: L) (fun _ => false) env t := stEnv_at rfl fun y hy _ => hnone y hy
        rw [this]
        have : ∀ (M : List Row) (e : Nat → V), stEnv M (fun _ => false) e = e := by
          intro M
          induction M with
          | nil => intro e; rfl
          | cons y M ih => intro e; simpa [stEnv] using ih e
        rw [this]
      have e2 : stSt ((i, o, l) :: L) (fun k => decide (k < i)) st = st := by
        funext t
        have : stSt ((i, o, l) :: L) (fun k => decide (k < i)) st t = stSt ((i, o, l) :: L) (fun _ => false) st t := stSt_at rfl fun y hy _ => hnone y hy
        rw [this]
        have : ∀ (M : List Row) (e : Nat → Option E.Obj), stSt M (fun _ => false) e = e := by
          intro M
          induction M with
          | nil => intro e; rfl
          | cons y M ih => intro e; simpa [stSt] using ih e
        rw [this]
      refine ⟨h1, by rw [e1, e2]; exact h2, h3, disjoint_spec h4, fun y hy hlt => ?_, fun j hj => ?_, fun y hy he => ?_⟩
      · have hnn : decide (y.1 < i) = false := hnone y hy
        exact absurd hlt (by simpa using hnn)
      · rcases List.mem_append.1 (h5 j hj) with h | h
        · exact .inl h
        · exact .inr (.inl h)
      · rcases List.mem_cons.1 hy with rfl | hy
        · rfl
        · have := h6 y hy; simp only at he; omega
    · obtain ⟨g1, g2, g3, g4, g5, g6, g7⟩ := ih x hx
      have hix := h6 x hx
      have e1 : stEnv ((i, o, l) :: L) (fun k => decide (k < x.1)) env = stEnv L (fun k => decide (k < x.1)) (putEnv env o.dst l.v) := by simp [stEnv, hix]
      have e2 : stSt ((i, o, l) :: L) (fun k => decide (k < x.1)) st = stSt L (fun k => decide (k < x.1)) (putSt st l.ws) := by simp [stSt, hix]
      rw [e1, e2]
      refine ⟨g1, g2, g3, fun j hj hids => g4 j hj (List.mem_append.2 (.inr hids)), fun y hy hlt j hj => ?_, fun j hj => ?_, fun y hy he => ?_⟩
      · rcases List.mem_cons.1 hy with rfl | hy
        · exact fun hn => g4 j hj (List.mem_append.2 (.inl hn))
        · exact g5 y hy hlt j hj
      · rcases g6 j hj with h | h | ⟨y, hy, h1, h2⟩
        · exact .inl h
        · rcases List.mem_append.1 h with h | h
          · exact .inr (.inr ⟨(i, o, l), by simp, hix, h⟩)
          · exact .inr (.inl h)
        · exact .inr (.inr ⟨y, by simp [hy], h1, h2⟩)
      · rcases List.mem_cons.1 hy with rfl | hy
        · simp only at he; omega
        · exact g7 y hy he

end Go.Proofs.Ytieffigehkjifaa.E

/- The engine, part Q: a region whose order is open comes to what it comes to in the text's order. -/
namespace Go.Proofs.Ytieffigehkjifaa.E
open Go
set_option linter.unusedSimpArgs false

theorem St.ids_congr {base : Nat} {X G : Nat → Prop} {τ : Nat → Gh} {n : Nat} {env : Nat → V} {st : Nat → Option E.Obj} {ids ids' : List Nat} {a : Act} {w : World} (h : St base X G τ ⟨n, env, st, ids⟩ a w) (hi : ∀ i ∈ ids, i ∈ ids') : St base X G τ ⟨n, env, st, ids'⟩ a w :=
  ⟨h.mem, h.base, h.size, h.env, fun t i hm => hi i (h.ids t i hm), fun i o ho => ⟨hi i (h.objs i o ho).1, fun j hj => hi j ((h.objs i o ho).2 j hj)⟩, h.defers⟩

def aheadStep (acc : List Nat) (o : Oper) : Nat := o.after.toList.foldl (fun s e => bif Region.binds .any e then s ||| 2 ^ e.on ||| acc.getD e.on 0 else s) 0

theorem aheadStep_bit (acc : List Nat) (j : Nat) : ∀ (l : List Edge) (s : Nat), (l.foldl (fun s e => bif Region.binds .any e then s ||| 2 ^ e.on ||| acc.getD e.on 0 else s) s).testBit j = true →
    s.testBit j = true ∨ ∃ e ∈ l, Region.binds .any e = true ∧ (j = e.on ∨ (acc.getD e.on 0).testBit j = true)
  | [], s, h => .inl h
  | e :: l, s, h => by
    simp only [List.foldl_cons] at h
    rcases aheadStep_bit acc j l _ h with h | ⟨e', h1, h2, h3⟩
    · cases hb : Region.binds .any e with
      | false => simp only [hb, cond_false] at h; exact .inl h
      | true =>
        simp only [hb, cond_true, Nat.testBit_or, Bool.or_eq_true] at h
        rcases h with (h | h) | h
        · exact .inl h
        · rw [Nat.testBit_two_pow] at h
          exact .inr ⟨e, by simp, hb, .inl (by have := of_decide_eq_true h; omega)⟩
        · exact .inr ⟨e, by simp, hb, .inr h⟩
    · exact .inr ⟨e', by simp [h1], h2, h3⟩

theorem aheadOf_fold : ∀ (l : List Oper) (acc : List Nat), ∃ tl, l.foldl (fun acc o => acc ++ [aheadStep acc o]) acc = acc ++ tl ∧ tl.length = l.length ∧
    ∀ (m : Nat) (o : Oper), l[m]? = some o → tl.getD m 0 = aheadStep (acc ++ tl.take m) o
  | [], acc => ⟨[], by simp, rfl, by simp⟩
  | o :: l, acc => by
    obtain ⟨tl, h1, h2, h3⟩ := aheadOf_fold l (acc ++ [aheadStep acc o])
    refine ⟨aheadStep acc o :: tl, by simp only [List.foldl_cons, h1]; simp, by simp [h2], fun m q hq => ?_⟩
    cases m with
    | zero => simp at hq; subst hq; simp
    | succ m =>
      have := h3 m q (by simpa using hq)
      simpa using this

theorem aheadOf_eq (ops : Array Oper) : aheadOf ops = ops.toList.foldl (fun acc o => acc ++ [aheadStep acc o]) [] := rfl

theorem aheadOf_bit {ops : Array Oper} {k j : Nat} (h : ((aheadOf ops).getD k 0).testBit j = true) : ∃ o, ops[k]? = some o ∧ ∃ e ∈ o.after, Region.binds .any e = true ∧ (j = e.on ∨ ((aheadOf ops).getD e.on 0).testBit j = true) := by
  rw [aheadOf_eq] at h ⊢
  obtain ⟨tl, h1, h2, h3⟩ := aheadOf_fold ops.toList []
  rw [h1] at h ⊢
  simp only [List.nil_append] at h ⊢ h3
  by_cases hk : k < ops.toList.length
  · have ho : ops.toList[k]? = some ops.toList[k] := List.getElem?_eq_getElem hk
    rw [h3 k _ ho] at h
    rcases aheadStep_bit _ j _ _ h with h | ⟨e, q1, q2, q3⟩
    · simp at h
    · refine ⟨ops.toList[k], by simp, e, by simpa using q1, q2, ?_⟩
      rcases q3 with q3 | q3
      · exact .inl q3
      · right
        by_cases he : e.on < k
        · have : (tl.take k).getD e.on 0 = tl.getD e.on 0 := by simp [List.getElem?_take_of_lt he]
          rwa [this] at q3
        · have : (tl.take k).getD e.on 0 = 0 := by simp [List.getElem?_take, he]
          rw [this] at q3; simp at q3
  · have : tl.getD k 0 = 0 := by simp [List.getElem?_eq_none (show tl.length ≤ k by omega)]
    rw [this] at h; simp at h

theorem edgesBack_spec {ops : Array Oper} (h : edgesBack ops = true) {i : Nat} {o : Oper} (ho : ops[i]? = some o) : ∀ e ∈ o.after, Region.binds .any e = true → e.on < i := by
  intro e he hb
  have hm : (o, i) ∈ ops.toList.zipIdx := by
    rw [List.mem_zipIdx_iff_getElem?]
    simpa using ho
  have := List.all_eq_true.1 h _ hm
  have := List.all_eq_true.1 this e (by simpa using he)
  simp only [hb, Bool.not_true, Bool.false_or, Nat.blt_eq] at this
  exact this

theorem calm_spec {ops : Array Oper} {ah : List Nat} {L : List Row} (h : calmAt ops ah L = true) {x y : Row} (hx : x ∈ L) (hy : y ∈ L) :
    (x.1 < y.1 → (ah.getD y.1 0).testBit x.1 = false → clash ops x.2.1 y.2.1 x.2.2 y.2.2 = false) ∧ (x.1 ≠ y.1 → (ah.getD y.1 0).testBit x.1 = false → disjoint x.2.2.new y.2.2.vids = true) := by
  have h1 := List.all_eq_true.1 (List.all_eq_true.1 h x hx) y hy
  simp only [Bool.and_eq_true] at h1
  refine ⟨fun hlt hb => ?_, fun hne hb => ?_⟩
  · have hlt' : Nat.blt x.1 y.1 = true := by simpa [Nat.blt_eq] using hlt
    have := h1.1
    simp only [hlt', hb, Bool.not_false, Bool.and_true, cond_true, Bool.not_eq_true'] at this
    exact this
  · have hne' : (x.1 != y.1) = true := by simpa using hne
    have := h1.2
    simp only [hne', hb, Bool.not_false, Bool.and_true, cond_true] at this
    exact this

theorem clash_spec {ops : Array Oper} {oi oj : Oper} {li lj : Log} (h : clash ops oi oj li lj = false) :
    (∀ d, oi.dst = some d → d ∉ looksOf ops oj ∧ oj.dst ≠ some d) ∧ (∀ d, oj.dst = some d → d ∉ looksOf ops oi) ∧ (∀ i ∈ li.touch, i ∉ lj.rs ∧ i ∉ lj.touch) ∧ (∀ i ∈ lj.touch, i ∉ li.rs) := by
  unfold clash at h
  simp only [Bool.or_eq_false_iff, Bool.not_eq_false'] at h
  obtain ⟨⟨⟨h1, h2⟩, h3⟩, h4⟩ := h
  refine ⟨fun d hd => ?_, fun d hd => ?_, fun i hi => ?_, fun i hi => disjoint_spec h4 i hi⟩
  · simp only [hd, Bool.or_eq_false_iff] at h1
    refine ⟨by simpa using h1.1, fun e => ?_⟩
    have := h1.2
    simp [e] at this
  · simpa [hd] using h2
  · have := disjoint_spec h3 i hi
    simp only [List.mem_append, not_or] at this
    exact this

theorem stEnv_cons_true {p : Nat → Bool} {x : Row} {L : List Row} {env : Nat → V} (h : p x.1 = true) : stEnv (x :: L) p env = stEnv L p (putEnv env x.2.1.dst x.2.2.v) := by simp [stEnv, h]
theorem stSt_cons_true {p : Nat → Bool} {x : Row} {L : List Row} {st : Nat → Option E.Obj} (h : p x.1 = true) : stSt (x :: L) p st = stSt L p (putSt st x.2.2.ws) := by simp [stSt, h]

/-- What is known of a region's rows. -/
structure Calm (P : Program) (rid : Nat) (ops : Array Oper) (sc : List (Nat × List Ans × Option Bool)) (n : Nat) (L : List Row) (env : Nat → V) (st : Nat → Option E.Obj) (ids : List Nat) : Prop where
  good : Good P rid ops sc n L env st ids
  calm : calmAt ops (aheadOf ops) L = true
  edges : edgesBack ops = true
  all : ∀ (i : Nat) (o : Oper), ops[i]? = some o → ∃ l, (i, o, l) ∈ L
  obs : ∀ x ∈ L, ∀ p ∈ x.2.2.obs, p

theorem any_wp {P : Program} {base : Nat} {X : Nat → Prop} {rid : Nat} {ops : Array Oper} {sc : List (Nat × List Ans × Option Bool)} {n : Nat} {L : List Row} {env : Nat → V} {st : Nat → Option E.Obj} {ids : List Nat} {Q : Exit → Act → World → Prop}
    (hC : Calm P rid ops sc n L env st ids) : ∀ (fuel : Nat) (listed : Array Bool) (G : Nat → Prop) (τ : Nat → Gh) (a : Act) (w : World),
      ((List.range ops.size).filter fun i => !listed.getD i false).length ≤ fuel → listed.size = ops.size → (∀ k, listed.getD k false = true → ∀ j, ((aheadOf ops).getD k 0).testBit j = true → listed.getD j false = true) →
      St base X G τ ⟨n, stEnv L (fun k => listed.getD k false) env, stSt L (fun k => listed.getD k false) st, stIds L (fun k => listed.getD k false) ids⟩ a w →
      (∀ a' w' G' τ', St base X G' τ' ⟨n, stEnv L (fun _ => true) env, stSt L (fun _ => true) st, stIds L (fun _ => true) ids⟩ a' w' → Ext base X G w G' w' → (∀ i ∈ ids, τ' i = τ i) → Q .normal a' w') →
      wpAny P .any ops Q fuel listed a w := by
  -- a row is there once
  have huniq : ∀ x ∈ L, ∀ y ∈ L, y.1 = x.1 → y = x := fun x hx => (hC.good.at x hx).2.2.2.2.2.2
  have hidx : ∀ x ∈ L, x.1 < ops.size := fun x hx => (Array.getElem?_eq_some_iff.1 (hC.good.at x hx).1).1
  -- if none is ready, all are listed
  have hready : ∀ (listed : Array Bool), listed.size = ops.size → Region.ready .any ops listed = [] → ∀ i, i < ops.size → listed.getD i false = true := by
    intro listed hsz hr i
    induction i using Nat.strongRecOn with
    | _ i ih =>
      intro hi
      cases hl : listed.getD i false with
      | true => rfl
      | false =>
        exfalso
        have hmem : i ∈ Region.ready .any ops listed := by
          rw [mem_ready]
          refine ⟨?_, ops[i], by simp [hi], fun e he hb => ih e.on (edgesBack_spec hC.edges (by simp [hi]) e he hb) ?_⟩
          · have : i < listed.size := by omega
            simp [this] at hl ⊢; exact hl
          · have := edgesBack_spec hC.edges (i := i) (o := ops[i]) (by simp [hi]) e he hb
            omega
        rw [hr] at hmem; simp at hmem
  have hdone : ∀ (listed : Array Bool), listed.size = ops.size → Region.ready .any ops listed = [] → ∀ {G τ a w}, St base X G τ ⟨n, stEnv L (fun k => listed.getD k false) env, stSt L (fun k => listed.getD k false) st, stIds L (fun k => listed.getD k false) ids⟩ a w →
      St base X G τ ⟨n, stEnv L (fun _ => true) env, stSt L (fun _ => true) st, stIds L (fun _ => true) ids⟩ a w := by
    intro listed hsz hr G τ a w hs
    have hall := hready listed hsz hr
    have e1 : stEnv L (fun k => listed.getD k false) env = stEnv L (fun _ => true) env := by
      funext t; exact stEnv_at rfl fun x hx _ => hall x.1 (hidx x hx)
    have e2 : stSt L (fun k => listed.getD k false) st = stSt L (fun _ => true) st := by
      funext t; exact stSt_at rfl fun x hx _ => hall x.1 (hidx x hx)
    rw [e1, e2] at hs
    refine hs.ids_congr fun i hi => ?_
    rw [stIds_mem] at hi ⊢
    rcases hi with hi | ⟨x, hx, _, hn⟩
    · exact .inl hi
    · exact .inr ⟨x, hx, rfl, hn⟩
  intro fuel
  induction fuel with
  | zero =>
    intro listed G τ a w hcnt hsz _ hs hQ
    have hr : Region.ready .any ops listed = [] := by
      apply List.eq_nil_iff_forall_not_mem.2
      intro i hi
      rw [mem_ready] at hi
      obtain ⟨h0, o, ho, _⟩ := hi
      have hlt : i < ops.size := (Array.getElem?_eq_some_iff.1 ho).1
      have hmem : i ∈ (List.range ops.size).filter fun i => !listed.getD i false := by
        rw [List.mem_filter]
        have : i < listed.size := by omega
        refine ⟨by simpa using hlt, ?_⟩
        simp [this] at h0 ⊢; exact h0
      have : ((List.range ops.size).filter fun i => !listed.getD i false) = [] := List.eq_nil_of_length_eq_zero (by omega)
      rw [this] at hmem; simp at hmem
    exact ⟨hr, hQ a w G τ (hdone listed hsz hr hs) (Ext.refl _ _ _ _) (fun _ _ => rfl)⟩
  | succ fuel ih =>
    intro listed G τ a w hcnt hsz hdc hs hQ
    refine ⟨fun hr => hQ a w G τ (hdone listed hsz hr hs) (Ext.refl _ _ _ _) (fun _ _ => rfl), fun i hi => ?_⟩
    rw [mem_ready] at hi
    obtain ⟨h0, o, ho, hpre⟩ := hi
    have hlt : i < ops.size := (Array.getElem?_eq_some_iff.1 ho).1
    have hli : i < listed.size := by omega
    have h0' : listed.getD i false = false := by simp [hli] at h0 ⊢; exact h0
    obtain ⟨l, hx⟩ := hC.all i o ho
    obtain ⟨g1, g2, g3, g4, g5, g6, g7⟩ := hC.good.at _ hx
    simp only at g1 g2 g3 g4 g5 g6 g7
    -- whoever is ahead is listed
    have hahead : ∀ j, ((aheadOf ops).getD i 0).testBit j = true → listed.getD j false = true := by
      intro j hj
      obtain ⟨o', ho', e, he, hb, hor⟩ := aheadOf_bit hj
      rw [ho] at ho'; cases ho'
      have hel := hpre e he hb
      rcases hor with rfl | hor
      · exact hel
      · exact hdc e.on hel j hor
    -- who is listed does not wait for this one
    have hnot : ∀ y ∈ L, listed.getD y.1 false = true → ((aheadOf ops).getD y.1 0).testBit i = false := by
      intro y _ hly
      cases hb : ((aheadOf ops).getD y.1 0).testBit i with
      | false => rfl
      | true => rw [hdc y.1 hly i hb] at h0'; simp at h0'
    -- rows that meet this one stand as in the text
    have hsame : ∀ y ∈ L, ((∃ d, y.2.1.dst = some d ∧ (d ∈ looksOf ops o ∨ o.dst = some d)) ∨ (∃ j ∈ y.2.2.touch, j ∈ l.rs ∨ j ∈ l.touch)) → y.1 ≠ i → listed.getD y.1 false = decide (y.1 < i) := by
      intro y hy hmeet hne
      rcases Nat.lt_or_gt_of_ne hne with hlt' | hgt
      · simp only [hlt', decide_true]
        cases hb : ((aheadOf ops).getD i 0).testBit y.1 with
        | true => exact hahead y.1 hb
        | false =>
          exfalso
          obtain ⟨c1, c2, c3, c4⟩ := clash_spec ((calm_spec hC.calm hy hx).1 hlt' hb)
          rcases hmeet with ⟨d, hd, hm⟩ | ⟨j, hj, hm⟩
          · obtain ⟨k1, k2⟩ := c1 d hd
            rcases hm with hm | hm
            · exact k1 hm
            · exact k2 hm
          · obtain ⟨k1, k2⟩ := c3 j hj
            rcases hm with hm | hm
            · exact k1 hm
            · exact k2 hm
      · have hnlt : ¬ y.1 < i := by omega
        simp only [hnlt, decide_false]
        cases hl : listed.getD y.1 false with
        | false => rfl
        | true =>
          exfalso
          obtain ⟨c1, c2, c3, c4⟩ := clash_spec ((calm_spec hC.calm hx hy).1 hgt (hnot y hy hl))
          rcases hmeet with ⟨d, hd, hm⟩ | ⟨j, hj, hm⟩
          · rcases hm with hm | hm
            · exact c2 d hd hm
            · exact (c1 d hm).2 hd
          · rcases hm with hm | hm
            · exact c4 j hj hm
            · exact (c3 j hm).2 hj
    have hself : ∀ y ∈ L, y.1 = i → y = (i, o, l) := fun y hy he => huniq _ hx y hy he
    have hlog : logOp P rid ops sc i o (stEnv L (fun k => listed.getD k false) env) (stSt L (fun k => listed.getD k false) st) = some l := by
      refine logOp_congr g2 (fun t ht => ?_) (fun j hj => ?_)
      · refine stEnv_at rfl fun y hy hd => ?_
        by_cases hyi : y.1 = i
        · simp only [hyi, h0']; simp
        · exact hsame y hy (.inl ⟨t, hd, .inl ht⟩) hyi
      · refine stSt_at rfl fun y hy hd => ?_
        by_cases hyi : y.1 = i
        · simp only [hyi, h0']; simp
        · exact hsame y hy (.inr ⟨j, hd, .inl hj⟩) hyi
    have hobs := hC.obs _ hx
    refine log_wp hs ho hlog hobs g3 ?_ ?_ fun a' w' G' τ' k1 k2 k3 => ?_
    · apply List.all_eq_true.2
      intro j hj
      simp only [Bool.not_eq_true']
      have : j ∉ stIds L (fun k => listed.getD k false) ids := by
        rw [stIds_mem]
        rintro (h | ⟨y, hy, hyl, hn⟩)
        · exact g4 j hj h
        · by_cases hyi : y.1 = i
          · rw [hyi, h0'] at hyl; simp at hyl
          · rcases Nat.lt_or_gt_of_ne hyi with hlt' | hgt
            · exact g5 y hy hlt' j hj hn
            · exact (hC.good.at y hy).2.2.2.2.1 _ hx hgt j hn hj
      simpa using this
    · intro j hj
      rw [List.mem_append, stIds_mem]
      rcases g6 j hj with h | h | ⟨y, hy, hlt', hn⟩
      · exact .inl h
      · exact .inr (.inl h)
      · right; right
        refine ⟨y, hy, ?_, hn⟩
        cases hb : ((aheadOf ops).getD i 0).testBit y.1 with
        | true => exact hahead y.1 hb
        | false => exact absurd hj (disjoint_spec ((calm_spec hC.calm hy hx).2 (Nat.ne_of_lt hlt') hb) j hn)
    · -- behind it
      have hset : ∀ k, (listed.setIfInBounds i true).getD k false = if k = i then true else listed.getD k false := by
        intro k
        by_cases hk : k = i
        · subst hk; simp [hli]
        · simp [hk, Array.getElem?_setIfInBounds_ne (Ne.symm hk)]
      have hpi : (listed.setIfInBounds i true).getD i false = true := by rw [hset, if_pos rfl]
      have hpne : ∀ y ∈ L, y.1 ≠ i → (listed.setIfInBounds i true).getD y.1 false = listed.getD y.1 false := fun y _ hne => by rw [hset, if_neg hne]
      obtain ⟨A, B, hAB⟩ := List.append_of_mem hx
      have hBne : ∀ y ∈ A ++ B, y.1 = i → y = (i, o, l) := fun y hy he => hself y (by rw [hAB]; rcases List.mem_append.1 hy with h | h <;> simp [h]) he
      have e1 : putEnv (stEnv L (fun k => listed.getD k false) env) o.dst l.v = stEnv L (fun k => (listed.setIfInBounds i true).getD k false) env := by
        funext t
        by_cases ht : o.dst = some t
        · rw [ht, putEnv_same, hAB, stEnv_append]
          have hstep : stEnv ((i, o, l) :: B) (fun k => (listed.setIfInBounds i true).getD k false) (stEnv A (fun k => (listed.setIfInBounds i true).getD k false) env) t
              = stEnv B (fun _ => false) (putEnv (stEnv A (fun k => (listed.setIfInBounds i true).getD k false) env) o.dst l.v) t := by
            rw [stEnv_cons_true hpi]
            refine stEnv_at rfl fun y hy hd => ?_
            show (listed.setIfInBounds i true).getD y.1 false = false
            rw [hset]
            have hyL : y ∈ L := by rw [hAB]; simp [hy]
            by_cases hyi : y.1 = i
            · exfalso
              -- the same row twice: the indices rise
              have := hBne y (by simp [hy]) hyi
              subst this
              have hsorted : ∀ (M : List Row) {env st ids}, Good P rid ops sc n M env st ids → ∀ (A B : List Row) (x : Row), M = A ++ x :: B → ∀ y ∈ B, x.1 < y.1 := by
                intro M env' st' ids' hg
                induction hg with
                | nil => intro A B x hM; simp at hM
                | cons _ _ _ _ _ h6 _ ih =>
                  intro A B x hM y hy
                  cases A with
                  | nil => simp only [List.nil_append, List.cons.injEq] at hM; obtain ⟨rfl, rfl⟩ := hM; exact h6 y hy
                  | cons z A => simp only [List.cons_append, List.cons.injEq] at hM; exact ih A B x hM.2 y hy
              have := hsorted L hC.good A B _ hAB _ hy
              omega
            · have hs1 := hsame y hyL (.inl ⟨t, hd, .inr ht⟩) hyi
              simp only [hyi, if_false]
              rw [hs1]
              have : ¬ y.1 < i := by
                have hsorted : ∀ (M : List Row) {env st ids}, Good P rid ops sc n M env st ids → ∀ (A B : List Row) (x : Row), M = A ++ x :: B → ∀ y ∈ B, x.1 < y.1 := by
                  intro M env' st' ids' hg
                  induction hg with
                  | nil => intro A B x hM; simp at hM
                  | cons _ _ _ _ _ h6 _ ih =>
                    intro A B x hM y hy
                    cases A with
                    | nil => simp only [List.nil_append, List.cons.injEq] at hM; obtain ⟨rfl, rfl⟩ := hM; exact h6 y hy
                    | cons z A => simp only [List.cons_append, List.cons.injEq] at hM; exact ih A B x hM.2 y hy
                have := hsorted L hC.good A B _ hAB _ hy
                omega
              simp [this]
          rw [hstep]
          have hfalse : ∀ (M : List Row) (e : Nat → V), stEnv M (fun _ => false) e = e := by
            intro M
            induction M with
            | nil => intro e; rfl
            | cons y M ih => intro e; simpa [stEnv] using ih e
          rw [hfalse, ht, putEnv_same]
        · rw [putEnv_other ht]
          refine stEnv_at rfl fun y hy hd => ?_
          by_cases hyi : y.1 = i
          · have := hself y hy hyi
            subst this
            exact absurd hd ht
          · exact (hpne y hy hyi).symm
      have e2 : putSt (stSt L (fun k => listed.getD k false) st) l.ws = stSt L (fun k => (listed.setIfInBounds i true).getD k false) st := by
        funext t
        by_cases ht : t ∈ l.touch
        · rw [hAB, stSt_append (p := fun k => (listed.setIfInBounds i true).getD k false)]
          have hstep : stSt ((i, o, l) :: B) (fun k => (listed.setIfInBounds i true).getD k false) (stSt A (fun k => (listed.setIfInBounds i true).getD k false) st) t
              = stSt B (fun _ => false) (putSt (stSt A (fun k => (listed.setIfInBounds i true).getD k false) st) l.ws) t := by
            rw [stSt_cons_true hpi]
            refine stSt_at rfl fun y hy hd => ?_
            show (listed.setIfInBounds i true).getD y.1 false = false
            rw [hset]
            have hyL : y ∈ L := by rw [hAB]; simp [hy]
            have hsorted : ∀ (M : List Row) {env st ids}, Good P rid ops sc n M env st ids → ∀ (A B : List Row) (x : Row), M = A ++ x :: B → ∀ y ∈ B, x.1 < y.1 := by
              intro M env' st' ids' hg
              induction hg with
              | nil => intro A B x hM; simp at hM
              | cons _ _ _ _ _ h6 _ ih =>
                intro A B x hM y hy
                cases A with
                | nil => simp only [List.nil_append, List.cons.injEq] at hM; obtain ⟨rfl, rfl⟩ := hM; exact h6 y hy
                | cons z A => simp only [List.cons_append, List.cons.injEq] at hM; exact ih A B x hM.2 y hy
            have hgt := hsorted L hC.good A B _ hAB _ hy
            have hyi : y.1 ≠ i := by omega
            have hs1 := hsame y hyL (.inr ⟨t, hd, .inr ht⟩) hyi
            simp only [hyi, if_false]
            rw [hs1]
            have : ¬ y.1 < i := by omega
            simp [this]
          rw [hstep]
          have hfalse : ∀ (M : List Row) (e : Nat → Option E.Obj), stSt M (fun _ => false) e = e := by
            intro M
            induction M with
            | nil => intro e; rfl
            | cons y M ih => intro e; simpa [stSt] using ih e
          rw [hfalse]
          exact putSt_touch ht
        · rw [putSt_other ht]
          refine stSt_at rfl fun y hy hd => ?_
          by_cases hyi : y.1 = i
          · have := hself y hy hyi
            subst this
            exact absurd hd ht
          · exact (hpne y hy hyi).symm
      simp only [e1, e2] at k1
      have k1' : St base X G' τ' ⟨n, stEnv L (fun k => (listed.setIfInBounds i true).getD k false) env, stSt L (fun k => (listed.setIfInBounds i true).getD k false) st, stIds L (fun k => (listed.setIfInBounds i true).getD k false) ids⟩ a' w' := by
        refine k1.ids_congr fun j hj => ?_
        rw [stIds_mem]
        rcases List.mem_append.1 hj with h | h
        · exact .inr ⟨(i, o, l), hx, by simp [hli], h⟩
        · rw [stIds_mem] at h
          rcases h with h | ⟨y, hy, hyl, hn⟩
          · exact .inl h
          · refine .inr ⟨y, hy, ?_, hn⟩
            show (listed.setIfInBounds i true).getD y.1 false = true
            rw [hset]
            split
            · rfl
            · exact hyl
      refine ih (listed.setIfInBounds i true) G' τ' a' w' ?_ (by simpa using hsz) ?_ k1' fun a2 w2 G2 τ2 q1 q2 q3 => hQ a2 w2 G2 τ2 q1 (k2.trans q2) (fun j hj => (q3 j hj).trans (k3 j (show j ∈ stIds L (fun k => listed.getD k false) ids from stIds_mem.2 (.inl hj))))
      · have hsub : ((List.range ops.size).filter fun k => !(listed.setIfInBounds i true).getD k false).length < ((List.range ops.size).filter fun k => !listed.getD k false).length := by
          have h1 : ((List.range ops.size).filter fun k => !(listed.setIfInBounds i true).getD k false) = (((List.range ops.size).filter fun k => !listed.getD k false).filter fun k => decide (k ≠ i)) := by
            rw [List.filter_filter]
            apply List.filter_congr
            intro k _
            rw [hset]
            by_cases hk : k = i
            · simp [hk]
            · simp [hk]
          rw [h1]
          apply List.length_filter_lt_length_iff_exists.2
          refine ⟨i, ?_, by simp⟩
          rw [List.mem_filter]
          exact ⟨by simpa using hlt, by simp only [h0', Bool.not_false]⟩
        omega
      · intro k hk j hj
        rw [hset] at hk ⊢
        by_cases hji : j = i
        · simp [hji]
        · rw [if_neg hji]
          by_cases hki : k = i
          · subst hki; exact hahead j hj
          · rw [if_neg hki] at hk; exact hdc k hk j hj

end Go.Proofs.Ytieffigehkjifaa.E

/- The engine, part R: code: what the run says of it is so. -/
namespace Go.Proofs.Ytieffigehkjifaa.E
open Go
set_option linter.unusedSimpArgs false

/-! ### Regions -/

theorem St.heap {base : Nat} {X G : Nat → Prop} {τ : Nat → Gh} {σ : S} {a : Act} {w w' : World} (h : St base X G τ σ a w) (hw : w'.heap = w.heap) : St base X G τ σ a w' :=
  ⟨h.mem.heap hw, by rw [hw]; exact h.base, h.size, fun t => rep_mono (fun b hb => ⟨hb, by rw [hw]⟩) _ _ (fun _ _ => rfl) (h.env t), h.ids, h.objs, h.defers⟩

theorem obsAll_mem : ∀ {ls : List Log}, (∀ p ∈ obsAll ls, p) → ∀ l ∈ ls, ∀ p ∈ l.obs, p
  | [], _, l, hl => by simp at hl
  | m :: ls, h, l, hl => by
    simp only [obsAll, List.mem_append] at h
    rcases List.mem_cons.1 hl with rfl | hl
    · exact fun p hp => h p (.inl hp)
    · exact obsAll_mem (fun p hp => h p (.inr hp)) l hl

theorem St.more {base : Nat} {X G : Nat → Prop} {τ : Nat → Gh} {σ : S} {a : Act} {w : World} {l : List Nat} (hs : St base X G τ σ a w) : St base X G τ (σ.more l) a w :=
  ⟨hs.mem, hs.base, hs.size, hs.env, fun t i hi => List.mem_append.2 (.inr (hs.ids t i hi)), fun i o ho => ⟨List.mem_append.2 (.inr (hs.objs i o ho).1), fun j hj => List.mem_append.2 (.inr ((hs.objs i o ho).2 j hj))⟩, hs.defers⟩

theorem runRegion_wp {P : Program} (hmix : P.follows .mixedOrders = true) {base : Nat} {X G : Nat → Prop} {τ : Nat → Gh} {rid : Nat} {ops : Array Oper} {draw : Bool} {sc : List (Nat × List Ans × Option Bool)} {σ σ' : S} {ps : List Prop} {a : Act} {w : World} {Q : Exit → Act → World → Prop}
    (h : runRegion P rid ops draw sc σ = some (σ', ps)) (hp : ∀ p ∈ ps, p) (hs : St base X G τ σ a w)
    (hQ : ∀ a' w' G' τ', St base X G' τ' σ' a' w' → Ext base X G w G' w' → (∀ i ∈ σ.ids, τ' i = τ i) → Q .normal a' w') : (Code.region rid ops draw).wp P Q a w := by
  unfold runRegion at h
  split at h
  · simp at h
  · rename_i σ2 ls hr
    cases draw with
    | false =>
      simp only [cond_false, Option.some.injEq, Prod.mk.injEq] at h
      obtain ⟨rfl, rfl⟩ := h
      exact wp_region (runOps_wp hr (obsAll_mem hp) hs fun a' w' G' τ' k1 k2 k3 => hQ a' w' G' τ' k1.more k2 k3)
    | true =>
      simp only [cond_true] at h
      cases hb : edgesBack ops && calmAt ops (aheadOf ops) ((List.range ops.size).zip (ops.toList.zip ls)) with
      | false => simp only [hb, cond_false, reduceCtorEq] at h
      | true =>
        simp only [hb, cond_true, Option.some.injEq, Prod.mk.injEq] at h
        obtain ⟨rfl, rfl⟩ := h
        simp only [Bool.and_eq_true] at hb
        obtain ⟨g1, g2, g3, g4, g5, g6⟩ := good_of_run 0 hr (by simp [List.range_eq_range'])
        simp only [List.drop_zero] at g1 g3 g4 g5
        have hls : ls.length = ops.size := by simpa using g6
        have hC : Calm P rid ops sc σ.n ((List.range ops.size).zip (ops.toList.zip ls)) σ.env σ.st σ.ids := by
          refine ⟨g1, hb.2, hb.1, fun i o ho => ?_, fun x hx => ?_⟩
          · have hi : i < ops.size := (Array.getElem?_eq_some_iff.1 ho).1
            have hil : i < ls.length := by omega
            refine ⟨ls[i], ?_⟩
            have hz : ((List.range ops.size).zip (ops.toList.zip ls))[i]? = some (i, o, ls[i]) := by
              have ho' : ops[i] = o := (Array.getElem?_eq_some_iff.1 ho).2
              simp [List.getElem?_zip_eq_some, ho', hi, hil]
            exact List.mem_of_getElem? hz
          · have h1 := (List.of_mem_zip hx).2
            have h2 := (List.of_mem_zip h1).2
            exact obsAll_mem hp _ h2
        refine wp_region_any hmix ?_
        have hfalse1 : stEnv ((List.range ops.size).zip (ops.toList.zip ls)) (fun k => (Array.replicate ops.size false).getD k false) σ.env = σ.env := by
          have : ∀ (M : List Row) (e : Nat → V), stEnv M (fun k => (Array.replicate ops.size false).getD k false) e = e := by
            intro M
            induction M with
            | nil => intro e; rfl
            | cons y M ih =>
              intro e
              have : (Array.replicate ops.size false).getD y.1 false = false := by simp [Array.getElem?_replicate]; split <;> rfl
              simp only [stEnv, List.foldl_cons, this, Bool.false_eq_true, if_false]
              exact ih e
          exact this _ _
        have hfalse2 : stSt ((List.range ops.size).zip (ops.toList.zip ls)) (fun k => (Array.replicate ops.size false).getD k false) σ.st = σ.st := by
          have : ∀ (M : List Row) (e : Nat → Option E.Obj), stSt M (fun k => (Array.replicate ops.size false).getD k false) e = e := by
            intro M
            induction M with
            | nil => intro e; rfl
            | cons y M ih =>
              intro e
              have : (Array.replicate ops.size false).getD y.1 false = false := by simp [Array.getElem?_replicate]; split <;> rfl
              simp only [stSt, List.foldl_cons, this, Bool.false_eq_true, if_false]
              exact ih e
          exact this _ _
        have hs2 : St base X G τ σ a { w with drawn := w.drawn + 1 } := hs.heap rfl
        refine any_wp (base := base) (X := X) hC ops.size _ G τ a _ ?_ (by simp) (fun k hk => ?_) ?_ fun a' w' G' τ' k1 k2 k3 => ?_
        · refine Nat.le_trans (List.length_filter_le _ _) (by simp)
        · have : (Array.replicate ops.size false).getD k false = false := by simp [Array.getElem?_replicate]; split <;> rfl
          rw [this] at hk; simp at hk
        · rw [hfalse1, hfalse2]
          exact St.ids_congr hs2 fun i hi => stIds_mem.2 (.inl hi)
        · refine hQ a' w' G' τ' ?_ (Ext.trans (Ext.drew w) k2) k3
          cases σ2 with
          | mk n2 env2 st2 ids2 =>
            simp only at g2 g3 g4 g5
            subst g2 g3 g4
            exact (St.ids_congr k1 fun i hi => (g5 i).2 hi).more

/-! ### What is kept of a frame -/

mutual
theorem renV_rep {w : World} {G : Nat → Prop} {τ τ' : Nat → Gh} {ren : List (Nat × Nat)} (ht : ∀ a b : Nat, renId ren a = some b → τ' b = τ a) : ∀ {v v' : V} {x : Value}, renV ren v = some v' → v.rep w G τ x → v'.rep w G τ' x
  | .own j, v', x, h, hr => by
    simp only [renV] at h
    split at h
    · rename_i id hid
      simp only [Option.some.injEq] at h
      subst h
      simp only [V.rep] at hr ⊢
      rw [ht j id hid]; exact hr
    · simp at h
  | .ptr j n r o, v', x, h, hr => by
    simp only [renV] at h
    split at h
    · rename_i id hid
      simp only [Option.some.injEq] at h
      subst h
      simp only [V.rep] at hr ⊢
      rw [ht j id hid]; exact hr
    · simp at h
  | .vw j n a b, v', x, h, hr => by
    simp only [renV] at h
    split at h
    · rename_i id hid
      simp only [Option.some.injEq] at h
      subst h
      simp only [V.rep] at hr ⊢
      rw [ht j id hid]; exact hr
    · simp at h
  | .mref j, v', x, h, hr => by
    simp only [renV] at h
    split at h
    · rename_i id hid
      simp only [Option.some.injEq] at h
      subst h
      simp only [V.rep] at hr ⊢
      rw [ht j id hid]; exact hr
    · simp at h
  | .agg cs, v', x, h, hr => by
    simp only [renV] at h
    split at h
    · rename_i cs' hcs
      simp only [Option.some.injEq] at h
      subst h
      simp only [V.rep] at hr ⊢
      obtain ⟨xs, e, hr⟩ := hr
      exact ⟨xs, e, renL_rep ht hcs hr⟩
    · simp at h
  | .tup cs, v', x, h, hr => by
    simp only [renV] at h
    split at h
    · rename_i cs' hcs
      simp only [Option.some.injEq] at h
      subst h
      simp only [V.rep] at hr ⊢
      obtain ⟨xs, e, hr⟩ := hr
      exact ⟨xs, e, renL_rep ht hcs hr⟩
    · simp at h
  | .clo fn f c, v', x, h, hr => by
    simp only [renV] at h
    split at h
    · rename_i f' c' hf hc
      simp only [Option.some.injEq] at h
      subst h
      simp only [V.rep] at hr ⊢
      obtain ⟨xs, ys, e, h1, h2⟩ := hr
      exact ⟨xs, ys, e, renL_rep ht hf h1, renL_rep ht hc h2⟩
    · simp at h
  | .val _, v', x, h, hr => by simp only [renV, Option.some.injEq] at h; subst h; simp only [V.rep] at hr ⊢; exact hr
  | .nil, v', x, h, hr => by simp only [renV, Option.some.injEq] at h; subst h; simp only [V.rep] at hr ⊢; exact hr
  | .sl _ _, v', x, h, hr => by simp only [renV, Option.some.injEq] at h; subst h; simp only [V.rep] at hr ⊢; exact hr
  | .iptr _ _ _ _, v', x, h, hr => by simp only [renV, Option.some.injEq] at h; subst h; simp only [V.rep] at hr ⊢; exact hr
  | .undef, v', x, h, _ => by simp only [renV, Option.some.injEq] at h; subst h; simp only [V.rep]
theorem renL_rep {w : World} {G : Nat → Prop} {τ τ' : Nat → Gh} {ren : List (Nat × Nat)} (ht : ∀ a b : Nat, renId ren a = some b → τ' b = τ a) : ∀ {cs cs' : List V} {xs : List Value}, renL ren cs = some cs' → repL w G τ cs xs → repL w G τ' cs' xs
  | [], cs', xs, h, hr => by
    simp only [renL, Option.some.injEq] at h
    subst h
    cases xs with
    | nil => simp only [repL]
    | cons => simp only [repL] at hr
  | c :: cs, cs', xs, h, hr => by
    simp only [renL] at h
    split at h
    · rename_i c' ds hc hd
      simp only [Option.some.injEq] at h
      subst h
      cases xs with
      | nil => simp only [repL] at hr
      | cons x xs =>
        simp only [repL] at hr ⊢
        exact ⟨renV_rep ht hc hr.1, renL_rep ht hd hr.2⟩
    · simp at h
end

theorem renId_mem : ∀ {ren : List (Nat × Nat)} {a b : Nat}, renId ren a = some b → (a, b) ∈ ren
  | [], a, b, h => by simp [renId] at h
  | (c, d) :: l, a, b, h => by
    simp only [renId] at h
    cases hca : a == c with
    | true =>
      simp only [hca, cond_true, Option.some.injEq] at h
      have : a = c := by simpa using hca
      subst this h
      simp
    | false =>
      simp only [hca, cond_false] at h
      exact List.mem_cons_of_mem _ (renId_mem h)

/-- The names that a nil slice got: none of them stands for anything yet. -/
def Newly (τ : Nat → Gh) (l : List (Nat × E.Obj)) : Prop := ∀ p ∈ l, τ p.1 = ⟨none, none, 0, 0⟩ ∧ ∃ n, p.2 = .arr n []

theorem renAt_rep {w : World} {G : Nat → Prop} {τ τ' : Nat → Gh} {ren : List (Nat × Nat)} (ht : ∀ a b : Nat, renId ren a = some b → τ' b = τ a) {fr : Option (Nat × Nat)} {v v' : V} {l : List (Nat × E.Obj)} {x : Value}
    (h : renAt ren fr v = some (v', l)) (hn : ∀ p ∈ l, τ' p.1 = ⟨none, none, 0, 0⟩) (hr : v.rep w G τ x) : v'.rep w G τ' x := by
  unfold renAt at h
  split at h
  · rename_i id n
    simp only [Option.some.injEq, Prod.mk.injEq] at h
    obtain ⟨rfl, rfl⟩ := h
    simp only [V.rep, V.repI] at hr ⊢
    rw [hn (id, .arr n []) (by simp), hr]
    rfl
  · split at h
    · rename_i v2 hv2
      simp only [Option.some.injEq, Prod.mk.injEq] at h
      obtain ⟨rfl, _⟩ := h
      exact renV_rep ht hv2 hr
    · simp at h

theorem renAt_new {ren : List (Nat × Nat)} {fr : Option (Nat × Nat)} {v v' : V} {l : List (Nat × E.Obj)} (h : renAt ren fr v = some (v', l)) : ∀ p ∈ l, ∃ n, p.2 = E.Obj.arr n [] := by
  unfold renAt at h
  split at h
  · simp only [Option.some.injEq, Prod.mk.injEq] at h
    obtain ⟨_, rfl⟩ := h
    intro p hp; simp at hp; subst hp; exact ⟨_, rfl⟩
  · split at h
    · simp only [Option.some.injEq, Prod.mk.injEq] at h
      obtain ⟨_, rfl⟩ := h
      simp
    · simp at h

theorem renCells_rep {w : World} {G : Nat → Prop} {τ τ' : Nat → Gh} {ren : List (Nat × Nat)} (ht : ∀ a b : Nat, renId ren a = some b → τ' b = τ a) {fr : List Fr} {b : Nat} : ∀ {cs cs' : List V} {o : Nat} {l : List (Nat × E.Obj)} {xs : List Value},
    renCells ren fr b o cs = some (cs', l) → (∀ p ∈ l, τ' p.1 = ⟨none, none, 0, 0⟩) → repL w G τ cs xs → repL w G τ' cs' xs
  | [], cs', o, l, xs, h, _, hr => by
    simp only [renCells, Option.some.injEq, Prod.mk.injEq] at h
    obtain ⟨rfl, _⟩ := h
    cases xs with
    | nil => simp only [repL]
    | cons => simp only [repL] at hr
  | c :: cs, cs', o, l, xs, h, hn, hr => by
    simp only [renCells] at h
    split at h
    · rename_i c' l1 ds l2 h1 h2
      simp only [Option.some.injEq, Prod.mk.injEq] at h
      obtain ⟨rfl, rfl⟩ := h
      cases xs with
      | nil => simp only [repL] at hr
      | cons x xs =>
        simp only [repL] at hr ⊢
        exact ⟨renAt_rep ht h1 (fun p hp => hn p (by simp [hp])) hr.1, renCells_rep ht h2 (fun p hp => hn p (by simp [hp])) hr.2⟩
    · simp at h

theorem renCells_new {ren : List (Nat × Nat)} {fr : List Fr} {b : Nat} : ∀ {cs cs' : List V} {o : Nat} {l : List (Nat × E.Obj)}, renCells ren fr b o cs = some (cs', l) → ∀ p ∈ l, ∃ n, p.2 = E.Obj.arr n []
  | [], cs', o, l, h => by
    simp only [renCells, Option.some.injEq, Prod.mk.injEq] at h
    obtain ⟨_, rfl⟩ := h
    simp
  | c :: cs, cs', o, l, h => by
    simp only [renCells] at h
    split at h
    · rename_i c' l1 ds l2 h1 h2
      simp only [Option.some.injEq, Prod.mk.injEq] at h
      obtain ⟨_, rfl⟩ := h
      intro p hp
      rcases List.mem_append.1 hp with hp | hp
      · exact renAt_new h1 p hp
      · exact renCells_new h2 p hp
    · simp at h

theorem normEnv_get {σ : S} {nm : Norm} : ∀ {ts : List Nat} {env : List (Nat × V)} {l : List (Nat × E.Obj)}, normEnv σ nm ts = some (env, l) →
    (∀ t, mkEnv env t = .undef ∨ ∃ l', renAt nm.ren (frSlot nm.fresh t) (σ.env t) = some (mkEnv env t, l') ∧ ∀ p ∈ l', p ∈ l) ∧ (∀ p ∈ l, ∃ n, p.2 = E.Obj.arr n []) ∧ ∀ t, mkEnv env t = .undef ∨ (t, mkEnv env t) ∈ env
  | [], env, l, h => by
    simp only [normEnv, Option.some.injEq, Prod.mk.injEq] at h
    obtain ⟨rfl, rfl⟩ := h
    exact ⟨fun t => .inl rfl, by simp, fun t => .inl rfl⟩
  | t :: ts, env, l, h => by
    simp only [normEnv] at h
    split at h
    · rename_i v l1 e l2 h1 h2
      simp only [Option.some.injEq, Prod.mk.injEq] at h
      obtain ⟨rfl, rfl⟩ := h
      obtain ⟨g1, g2, g3⟩ := normEnv_get h2
      refine ⟨fun u => ?_, fun p hp => ?_, fun u => ?_⟩
      · simp only [mkEnv]
        cases hu : u == t with
        | true =>
          have : u = t := by simpa using hu
          subst this
          exact .inr ⟨l1, h1, fun p hp => by simp [hp]⟩
        | false =>
          simp only [cond_false]
          rcases g1 u with g | ⟨l', g, g'⟩
          · exact .inl g
          · exact .inr ⟨l', g, fun p hp => by simp [g' p hp]⟩
      · rcases List.mem_append.1 hp with hp | hp
        · exact renAt_new h1 p hp
        · exact g2 p hp
      · simp only [mkEnv]
        cases hu : u == t with
        | true =>
          have : u = t := by simpa using hu
          subst this
          exact .inr (by simp)
        | false =>
          simp only [cond_false]
          rcases g3 u with g | g
          · exact .inl g
          · exact .inr (by simp [g])
    · simp at h

theorem normSt_get {σ : S} {nm : Norm} : ∀ {ren : List (Nat × Nat)} {st l : List (Nat × E.Obj)}, normSt σ nm ren = some (st, l) →
    st.map (·.1) = ren.map (·.2) ∧ (∀ p ∈ l, ∃ n, p.2 = E.Obj.arr n []) ∧ (∀ b o', (b, o') ∈ st → ∃ a o, (a, b) ∈ ren ∧ σ.st a = some o ∧ ((o.rowsB = true ∧ o' = o) ∨ ∃ cs cs' l', o = E.Obj.box cs ∧ o' = E.Obj.box cs' ∧ renCells nm.ren nm.fresh a 0 cs = some (cs', l') ∧ ∀ p ∈ l', p ∈ l)) ∧
      ∀ a b, (a, b) ∈ ren → ∃ o, σ.st a = some o
  | [], st, l, h => by
    simp only [normSt, Option.some.injEq, Prod.mk.injEq] at h
    obtain ⟨rfl, rfl⟩ := h
    exact ⟨rfl, by simp, by simp, by simp⟩
  | (a, b) :: ren, st, l, h => by
    simp only [normSt] at h
    split at h
    · rename_i n rows s l1 h1 h2
      simp only [Option.some.injEq, Prod.mk.injEq] at h
      obtain ⟨rfl, rfl⟩ := h
      obtain ⟨g1, g2, g3, g4⟩ := normSt_get h2
      refine ⟨by simp [g1], g2, fun b' o' hb => ?_, fun a' b' hab => ?_⟩
      · rcases List.mem_cons.1 hb with hb | hb
        · simp only [Prod.mk.injEq] at hb
          obtain ⟨rfl, rfl⟩ := hb
          exact ⟨a, _, by simp, h1, .inl ⟨rfl, rfl⟩⟩
        · obtain ⟨a', o, k1, k2, k3⟩ := g3 b' o' hb
          exact ⟨a', o, by simp [k1], k2, k3⟩
      · rcases List.mem_cons.1 hab with hab | hab
        · simp only [Prod.mk.injEq] at hab
          obtain ⟨rfl, rfl⟩ := hab
          exact ⟨_, h1⟩
        · exact g4 a' b' hab
    · rename_i n rows c s l1 h1 h2
      simp only [Option.some.injEq, Prod.mk.injEq] at h
      obtain ⟨rfl, rfl⟩ := h
      obtain ⟨g1, g2, g3, g4⟩ := normSt_get h2
      refine ⟨by simp [g1], g2, fun b' o' hb => ?_, fun a' b' hab => ?_⟩
      · rcases List.mem_cons.1 hb with hb | hb
        · simp only [Prod.mk.injEq] at hb
          obtain ⟨rfl, rfl⟩ := hb
          exact ⟨a, _, by simp, h1, .inl ⟨rfl, rfl⟩⟩
        · obtain ⟨a', o, k1, k2, k3⟩ := g3 b' o' hb
          exact ⟨a', o, by simp [k1], k2, k3⟩
      · rcases List.mem_cons.1 hab with hab | hab
        · simp only [Prod.mk.injEq] at hab
          obtain ⟨rfl, rfl⟩ := hab
          exact ⟨_, h1⟩
        · exact g4 a' b' hab
    · rename_i k es s l1 h1 h2
      simp only [Option.some.injEq, Prod.mk.injEq] at h
      obtain ⟨rfl, rfl⟩ := h
      obtain ⟨g1, g2, g3, g4⟩ := normSt_get h2
      refine ⟨by simp [g1], g2, fun b' o' hb => ?_, fun a' b' hab => ?_⟩
      · rcases List.mem_cons.1 hb with hb | hb
        · simp only [Prod.mk.injEq] at hb
          obtain ⟨rfl, rfl⟩ := hb
          exact ⟨a, _, by simp, h1, .inl ⟨rfl, rfl⟩⟩
        · obtain ⟨a', o, k1, k2, k3⟩ := g3 b' o' hb
          exact ⟨a', o, by simp [k1], k2, k3⟩
      · rcases List.mem_cons.1 hab with hab | hab
        · simp only [Prod.mk.injEq] at hab
          obtain ⟨rfl, rfl⟩ := hab
          exact ⟨_, h1⟩
        · exact g4 a' b' hab
    · rename_i cs s l1 h1 h2
      split at h
      · rename_i cs' l2 h3
        simp only [Option.some.injEq, Prod.mk.injEq] at h
        obtain ⟨rfl, rfl⟩ := h
        obtain ⟨g1, g2, g3, g4⟩ := normSt_get h2
        refine ⟨by simp [g1], fun p hp => ?_, fun b' o' hb => ?_, fun a' b' hab => ?_⟩
        · rcases List.mem_append.1 hp with hp | hp
          · exact renCells_new h3 p hp
          · exact g2 p hp
        · rcases List.mem_cons.1 hb with hb | hb
          · simp only [Prod.mk.injEq] at hb
            obtain ⟨rfl, rfl⟩ := hb
            exact ⟨a, _, by simp, h1, .inr ⟨cs, cs', l2, rfl, rfl, h3, fun p hp => by simp [hp]⟩⟩
          · obtain ⟨a', o, k1, k2, k3⟩ := g3 b' o' hb
            refine ⟨a', o, by simp [k1], k2, ?_⟩
            rcases k3 with k3 | ⟨ds, ds', l', q1, q2, q3, q4⟩
            · exact .inl k3
            · exact .inr ⟨ds, ds', l', q1, q2, q3, fun p hp => by simp [q4 p hp]⟩
        · rcases List.mem_cons.1 hab with hab | hab
          · simp only [Prod.mk.injEq] at hab
            obtain ⟨rfl, rfl⟩ := hab
            exact ⟨_, h1⟩
          · exact g4 a' b' hab
      · simp at h
    · simp at h

theorem mkSt_get : ∀ {l : List (Nat × E.Obj)} {i : Nat} {o : E.Obj}, mkSt l i = some o → (i, o) ∈ l
  | [], i, o, h => by simp [mkSt] at h
  | (k, p) :: l, i, o, h => by
    simp only [mkSt] at h
    cases hik : i == k with
    | true =>
      have : i = k := by simpa using hik
      subst this
      simp only [hik, cond_true, Option.some.injEq] at h
      subst h; simp
    | false =>
      simp only [hik, cond_false] at h
      exact List.mem_cons_of_mem _ (mkSt_get h)

theorem pair_unique {α : Type} : ∀ {l : List (Nat × α)}, nodupB (l.map (·.1)) = true → ∀ {i : Nat} {x y : α}, (i, x) ∈ l → (i, y) ∈ l → x = y
  | [], _, i, x, y, h, _ => by simp at h
  | (k, z) :: l, hn, i, x, y, h1, h2 => by
    simp only [List.map_cons, nodupB, Bool.and_eq_true, Bool.not_eq_true'] at hn
    have hk : k ∉ l.map (·.1) := by simpa using hn.1
    rcases List.mem_cons.1 h1 with h1 | h1 <;> rcases List.mem_cons.1 h2 with h2 | h2
    · simp only [Prod.mk.injEq] at h1 h2; rw [h1.2, h2.2]
    · simp only [Prod.mk.injEq] at h1; rw [← h1.1] at hk; exact absurd (List.mem_map.2 ⟨_, h2, rfl⟩) hk
    · simp only [Prod.mk.injEq] at h2; rw [← h2.1] at hk; exact absurd (List.mem_map.2 ⟨_, h1, rfl⟩) hk
    · exact pair_unique hn.2 h1 h2

/-- Who is behind a name. -/
def whose (ren : List (Nat × Nat)) (b : Nat) : Option Nat := match ren with
  | [] => none
  | (a, c) :: l => if c = b then some a else whose l b

theorem whose_mem : ∀ {ren : List (Nat × Nat)} {a b : Nat}, nodupB (ren.map (·.2)) = true → (a, b) ∈ ren → whose ren b = some a
  | [], a, b, _, h => by simp at h
  | (c, d) :: l, a, b, hn, h => by
    simp only [List.map_cons, nodupB, Bool.and_eq_true, Bool.not_eq_true'] at hn
    have hd : d ∉ l.map (·.2) := by simpa using hn.1
    simp only [whose]
    rcases List.mem_cons.1 h with h | h
    · simp only [Prod.mk.injEq] at h; rw [if_pos h.2.symm, h.1]
    · have : d ≠ b := fun e => hd (e ▸ List.mem_map.2 ⟨_, h, rfl⟩)
      rw [if_neg this]; exact whose_mem hn.2 h

theorem whose_none : ∀ {ren : List (Nat × Nat)} {b : Nat}, b ∉ ren.map (·.2) → whose ren b = none
  | [], b, _ => rfl
  | (c, d) :: l, b, h => by
    simp only [List.map_cons, List.mem_cons, not_or] at h
    simp only [whose]
    rw [if_neg (fun e => h.1 e.symm)]; exact whose_none h.2

theorem nodup_left {a b : List Nat} (h : nodupB (a ++ b) = true) : nodupB a = true := by
  induction a with
  | nil => rfl
  | cons x a ih =>
    simp only [List.cons_append, nodupB, Bool.and_eq_true, Bool.not_eq_true'] at h
    simp only [nodupB, Bool.and_eq_true, Bool.not_eq_true']
    refine ⟨?_, ih h.2⟩
    have : x ∉ a ++ b := by simpa using h.1
    simp only [List.mem_append, not_or] at this
    simpa using this.1

theorem nodup_apart {a b : List Nat} (h : nodupB (a ++ b) = true) : ∀ i ∈ a, i ∉ b := by
  induction a with
  | nil => intro i hi; simp at hi
  | cons x a ih =>
    simp only [List.cons_append, nodupB, Bool.and_eq_true, Bool.not_eq_true'] at h
    intro i hi
    rcases List.mem_cons.1 hi with rfl | hi
    · have : i ∉ a ++ b := by simpa using h.1
      simp only [List.mem_append, not_or] at this
      exact this.2
    · exact ih h.2 i hi

/-- WHAT IS KEPT OF A FRAME HOLDS OF IT. -/
theorem norm_St {k : Nat} {base : Nat} {X G : Nat → Prop} {τ : Nat → Gh} {σ : S} {a : Act} {w : World} {nm : Norm} {s : SL} (hs : St base X G τ σ a w) (h : norm k σ nm = some s) :
    (∃ τ', St base X G τ' (s.toS σ.n) a w ∧ ∀ i, i < k → τ' i = τ i) ∧ ∀ i, i < k → i ∈ s.ids := by
  unfold norm at h
  split at h
  · rename_i env l1 st l2 he hst
    simp only at h
    cases hb : nodupB (st.map (·.1) ++ (l1 ++ l2).map (·.1)) && (normIds k nm.ren && nodupB (nm.ren.map (·.1))) && ((l1 ++ l2).all fun p => Nat.ble k p.1) && (env.all fun p => subset p.2.ids (st.map (·.1) ++ (l1 ++ l2).map (·.1))) && (st.all fun p => subset (idsObj p.2) (st.map (·.1) ++ (l1 ++ l2).map (·.1))) with
    | false => simp only [hb, cond_false, reduceCtorEq] at h
    | true =>
      simp only [hb, cond_true, Option.some.injEq] at h
      subst h
      simp only [Bool.and_eq_true] at hb
      obtain ⟨⟨⟨⟨b1, b2, b2'⟩, b3⟩, b4⟩, b5⟩ := hb
      obtain ⟨e1, e2, e3⟩ := normEnv_get he
      obtain ⟨s1, s2, s3, s4⟩ := normSt_get hst
      have hnr : nodupB (nm.ren.map (·.2)) = true := by rw [← s1]; exact nodup_left b1
      let τ' : Nat → Gh := fun b => match whose nm.ren b with
        | some a => τ a
        | none => if b ∈ (l1 ++ l2).map (·.1) then ⟨none, none, 0, 0⟩ else τ b
      have hren : ∀ a b : Nat, (a, b) ∈ nm.ren → τ' b = τ a := by
        intro a b hab
        show (match whose nm.ren b with | some a => τ a | none => if b ∈ (l1 ++ l2).map (·.1) then ⟨none, none, 0, 0⟩ else τ b) = τ a
        rw [whose_mem hnr hab]
      have hrenId : ∀ a b : Nat, renId nm.ren a = some b → τ' b = τ a := fun a b h => hren a b (renId_mem h)
      have hfresh : ∀ p ∈ l1 ++ l2, τ' p.1 = ⟨none, none, 0, 0⟩ := by
        intro p hp
        have hpm : p.1 ∈ (l1 ++ l2).map (·.1) := List.mem_map.2 ⟨p, hp, rfl⟩
        have hnot : p.1 ∉ nm.ren.map (·.2) := by
          rw [← s1]
          exact fun h => nodup_apart b1 p.1 h hpm
        show (match whose nm.ren p.1 with | some a => τ a | none => if p.1 ∈ (l1 ++ l2).map (fun (p : Nat × E.Obj) => p.1) then (⟨none, none, 0, 0⟩ : Gh) else τ p.1) = ⟨none, none, 0, 0⟩
        rw [whose_none hnot, if_pos hpm]
      have hnewarr : ∀ p ∈ l1 ++ l2, ∃ n, p.2 = E.Obj.arr n [] := by
        intro p hp
        rcases List.mem_append.1 hp with hp | hp
        · exact e2 p hp
        · exact s2 p hp
      -- objects
      have hobj : ∀ b o', mkSt (st ++ (l1 ++ l2)) b = some o' → ((b, o') ∈ st ∧ b ∈ st.map (·.1)) ∨ ((b, o') ∈ l1 ++ l2) := by
        intro b o' hb
        rcases List.mem_append.1 (mkSt_get hb) with h | h
        · exact .inl ⟨h, List.mem_map.2 ⟨_, h, rfl⟩⟩
        · exact .inr h
      have hnoblk : ∀ b o', (b, o') ∈ l1 ++ l2 → (τ' b).blk = none := fun b o' hb => by rw [hfresh _ hb]
      refine ⟨?_, fun i hi => List.mem_append.2 (.inr (List.mem_range.2 hi))⟩
      refine ⟨τ', ⟨⟨hs.mem.gold, fun b o' hb => ?_, fun b o' q hb hq => ?_, fun b c o1 o2 q hb hc hq1 hq2 => ?_⟩, hs.base, hs.size, fun t => ?_, fun t i hi => ?_, fun b o' hb => ?_, hs.defers⟩, fun i hi => ?_⟩
      · rcases hobj b o' hb with ⟨hbs, _⟩ | hbl
        · obtain ⟨a0, o, k1, k2, k3⟩ := s3 b o' hbs
          have hok := hs.mem.ok a0 o k2
          rcases k3 with ⟨hrb, rfl⟩ | ⟨cs, cs', l', rfl, rfl, k4, k5⟩
          · exact Obj.ok_name hrb (hren a0 b k1) hok
          · simp only [Obj.ok, rowsOk] at hok ⊢
            rw [hren a0 b k1]
            obtain ⟨q, xs, t, fz, q1, q2, q3, q4, q5⟩ := hok
            exact ⟨q, xs, t, fz, q1, q2, q3, q4, renCells_rep hrenId k4 (fun p hp => hfresh p (List.mem_append.2 (.inr (k5 p hp)))) q5⟩
        · obtain ⟨n, hn⟩ := hnewarr _ hbl
          simp only at hn
          subst hn
          simp only [Obj.ok, rowsOk]
          rw [hfresh _ hbl]
          exact ⟨rfl, Nat.le_refl _, .inl ⟨rfl, rfl, rfl⟩⟩
      · rcases hobj b o' hb with ⟨hbs, _⟩ | hbl
        · obtain ⟨a0, o, k1, k2, _⟩ := s3 b o' hbs
          rw [hren a0 b k1] at hq
          exact hs.mem.own a0 o q k2 hq
        · rw [hnoblk b o' hbl] at hq; simp at hq
      · rcases hobj b o1 hb with ⟨hbs, _⟩ | hbl <;> rcases hobj c o2 hc with ⟨hcs, _⟩ | hcl
        · obtain ⟨a1, p1, k1, k2, _⟩ := s3 b o1 hbs
          obtain ⟨a2, p2, j1, j2, _⟩ := s3 c o2 hcs
          rw [hren a1 b k1] at hq1
          rw [hren a2 c j1] at hq2
          have := hs.mem.inj a1 a2 p1 p2 q k2 j2 hq1 hq2
          subst this
          exact pair_unique b2' k1 j1
        · rw [hnoblk c o2 hcl] at hq2; simp at hq2
        · rw [hnoblk b o1 hbl] at hq1; simp at hq1
        · rw [hnoblk b o1 hbl] at hq1; simp at hq1
      · show (mkEnv env t).rep w G τ' _
        rcases e1 t with h | ⟨l', h, h'⟩
        · rw [h]; simp only [V.rep]
        · exact renAt_rep hrenId h (fun p hp => hfresh p (List.mem_append.2 (.inl (h' p hp)))) (hs.env t)
      · rcases e3 t with h | h
        · simp only [SL.toS, h, V.ids, List.not_mem_nil] at hi
        · exact List.mem_append.2 (.inl (subset_spec (List.all_eq_true.1 b4 _ h) i hi))
      · rcases hobj b o' hb with ⟨hbs, hbm⟩ | hbl
        · exact ⟨List.mem_append.2 (.inl (List.mem_append.2 (.inl hbm))), fun j hj => List.mem_append.2 (.inl (subset_spec (List.all_eq_true.1 b5 _ hbs) j hj))⟩
        · obtain ⟨n, hn⟩ := hnewarr _ hbl
          simp only at hn
          subst hn
          exact ⟨List.mem_append.2 (.inl (List.mem_append.2 (.inr (List.mem_map.2 ⟨_, hbl, rfl⟩)))), fun j hj => by simp [idsObj] at hj⟩
      · show (match whose nm.ren i with | some a => τ a | none => if i ∈ (l1 ++ l2).map (fun (p : Nat × E.Obj) => p.1) then (⟨none, none, 0, 0⟩ : Gh) else τ i) = τ i
        cases hw : whose nm.ren i with
        | some a0 =>
          have hmem : ∀ {l : List (Nat × Nat)}, whose l i = some a0 → (a0, i) ∈ l := by
            intro l
            induction l with
            | nil => intro h; simp [whose] at h
            | cons p l ih =>
              intro h
              simp only [whose] at h
              by_cases hp : p.2 = i
              · rw [if_pos hp] at h; simp only [Option.some.injEq] at h; rw [← hp, ← h]; simp
              · rw [if_neg hp] at h; exact List.mem_cons_of_mem _ (ih h)
          have hm := List.all_eq_true.1 b2 _ (hmem hw)
          have hlt : Nat.blt i k = true := by simpa [Nat.blt_eq] using hi
          simp only [hlt, cond_true] at hm
          have : a0 = i := by simpa using hm
          rw [this]
        | none =>
          simp only
          rw [if_neg]
          intro hmem
          obtain ⟨p, hp, hpi⟩ := List.mem_map.1 hmem
          have := Nat.le_of_ble_eq_true (List.all_eq_true.1 b3 p hp)
          omega
  · simp at h

end Go.Proofs.Ytieffigehkjifaa.E

/- The engine, part Y (between R and S): two frames that are made one. -/
namespace Go.Proofs.Ytieffigehkjifaa.E
open Go
set_option linter.unusedSimpArgs false

mutual
theorem mergeV_rep {w : World} {G : Nat → Prop} {τ : Nat → Gh} {B : Bool} : ∀ {u v : V} {x : Value}, (bif B then u else v).rep w G τ x → (mergeV B u v).rep w G τ x
  | u, v, x, h => by
    unfold mergeV
    split
    · rename_i k m k' m'
      cases hk : decide (k = k') with
      | false => simp only [cond_false, V.rep]
      | true =>
        have : k = k' := of_decide_eq_true hk
        subst this
        cases B <;> simpa only [cond_true, cond_false] using h
    · cases B <;> simpa only [cond_true, cond_false] using h
    · cases B <;> simpa only [cond_true, cond_false] using h
    · cases B <;> simpa only [cond_true, cond_false] using h
    · rename_i cs cs'
      split
      · rename_i l hl
        have h' : ∃ xs, x = .agg xs ∧ repL w G τ (bif B then cs else cs') xs.toList := by cases B <;> simpa only [cond_true, cond_false, V.rep] using h
        obtain ⟨xs, e, hr⟩ := h'
        simp only [V.rep]
        exact ⟨xs, e, mergeL_rep hl hr⟩
      · simp only [V.rep]
    · cases B <;> simpa only [cond_true, cond_false] using h
    · rename_i n rows n' rows'
      cases hk : n == n' with
      | false => simp only [cond_false, V.rep]
      | true =>
        have : n = n' := by simpa using hk
        subst this
        cases B <;> simpa only [cond_true, cond_false] using h
    · rename_i n rows
      cases B with
      | true =>
        simp only [cond_true, V.rep, V.repI] at h ⊢
        subst h
        exact ⟨none, 0, rfl, Nat.le_refl _, .inl trivial⟩
      | false => simpa only [cond_true, cond_false] using h
    · rename_i n rows
      cases B with
      | false =>
        simp only [cond_false, V.rep, V.repI] at h ⊢
        subst h
        exact ⟨none, 0, rfl, Nat.le_refl _, .inl trivial⟩
      | true => simpa only [cond_true, cond_false] using h
    · rename_i i j
      cases hk : i == j with
      | false => simp only [cond_false, V.rep]
      | true =>
        have : i = j := by simpa using hk
        subst this
        cases B <;> simpa only [cond_true, cond_false] using h
    · rename_i i n r o i' n' r' o'
      cases hk : i == i' && (n == n' && o == o') with
      | false => simp only [cond_false, V.rep]
      | true =>
        simp only [Bool.and_eq_true, beq_iff_eq] at hk
        obtain ⟨rfl, rfl, rfl⟩ := hk
        cases B <;> simpa only [cond_true, cond_false] using h
    · rename_i g f c g' f' c'
      cases hk : g == g' with
      | false => simp only [cond_false, V.rep]
      | true =>
        have : g = g' := by simpa using hk
        subst this
        simp only [cond_true]
        split
        · rename_i f2 c2 hf hc
          have h' : ∃ xs ys, x = .func (.func g) xs ys ∧ repL w G τ (bif B then f else f') xs.toList ∧ repL w G τ (bif B then c else c') ys.toList := by cases B <;> simpa only [cond_true, cond_false, V.rep] using h
          obtain ⟨xs, ys, e, h1, h2⟩ := h'
          simp only [V.rep]
          exact ⟨xs, ys, e, mergeL_rep hf h1, mergeL_rep hc h2⟩
        · simp only [V.rep]
    · simp only [V.rep]
theorem mergeL_rep {w : World} {G : Nat → Prop} {τ : Nat → Gh} {B : Bool} : ∀ {us vs l : List V} {xs : List Value}, mergeL B us vs = some l → repL w G τ (bif B then us else vs) xs → repL w G τ l xs
  | [], [], l, xs, h, hr => by
    simp only [mergeL, Option.some.injEq] at h
    subst h
    cases B <;> simpa only [cond_true, cond_false] using hr
  | [], _ :: _, l, xs, h, _ => by simp [mergeL] at h
  | _ :: _, [], l, xs, h, _ => by simp [mergeL] at h
  | u :: us, v :: vs, l, xs, h, hr => by
    simp only [mergeL] at h
    split at h
    · rename_i l' hl
      simp only [Option.some.injEq] at h
      subst h
      cases xs with
      | nil => cases B <;> simp [repL] at hr
      | cons x xs =>
        have hr' : (bif B then u else v).rep w G τ x ∧ repL w G τ (bif B then us else vs) xs := by cases B <;> simpa only [cond_true, cond_false, repL] using hr
        simp only [repL]
        exact ⟨mergeV_rep hr'.1, mergeL_rep hl hr'.2⟩
    · simp at h
end

mutual
theorem mergeV_ids {B : Bool} : ∀ {u v : V}, ∀ i ∈ (mergeV B u v).ids, i ∈ (bif B then u else v).ids
  | u, v, i, hi => by
    unfold mergeV at hi
    split at hi
    · rename_i k m k' m'
      cases hk : decide (k = k') <;> simp [hk, V.ids] at hi
    · simp [V.ids] at hi
    · simp [V.ids] at hi
    · simp [V.ids] at hi
    · rename_i cs cs'
      split at hi
      · rename_i l hl
        simp only [V.ids] at hi
        have := mergeL_ids hl i hi
        cases B <;> simpa only [cond_true, cond_false, V.ids] using this
      · simp [V.ids] at hi
    · simp [V.ids] at hi
    · rename_i n rows n' rows'
      cases hk : n == n' <;> simp only [hk, cond_true, cond_false, V.ids] at hi <;> simp at hi
    · simp [V.ids] at hi
    · simp [V.ids] at hi
    · rename_i a b
      cases hk : a == b with
      | false => simp only [hk, cond_false, V.ids] at hi; simp at hi
      | true =>
        have : a = b := by simpa using hk
        subst this
        simp only [hk, cond_true] at hi
        cases B <;> simpa only [cond_true, cond_false] using hi
    · rename_i a n r o a' n' r' o'
      cases hk : a == a' && (n == n' && o == o') with
      | false => simp only [hk, cond_false, V.ids] at hi; simp at hi
      | true =>
        simp only [hk, cond_true, V.ids] at hi
        simp only [Bool.and_eq_true, beq_iff_eq] at hk
        obtain ⟨rfl, rfl, rfl⟩ := hk
        cases B <;> simpa only [cond_true, cond_false, V.ids] using hi
    · rename_i g f c g' f' c'
      cases hk : g == g' with
      | false => simp only [hk, cond_false, V.ids] at hi; simp at hi
      | true =>
        simp only [hk, cond_true] at hi
        split at hi
        · rename_i f2 c2 hf hc
          simp only [V.ids, List.mem_append] at hi
          rcases hi with hi | hi
          · have := mergeL_ids hf i hi
            cases B <;> (simp only [cond_true, cond_false, V.ids, List.mem_append] at this ⊢; exact .inl this)
          · have := mergeL_ids hc i hi
            cases B <;> (simp only [cond_true, cond_false, V.ids, List.mem_append] at this ⊢; exact .inr this)
        · simp [V.ids] at hi
    · simp [V.ids] at hi
theorem mergeL_ids {B : Bool} : ∀ {us vs l : List V}, mergeL B us vs = some l → ∀ i ∈ idsL l, i ∈ idsL (bif B then us else vs)
  | [], [], l, h, i, hi => by
    simp only [mergeL, Option.some.injEq] at h
    subst h
    simp [idsL] at hi
  | [], _ :: _, l, h, _, _ => by simp [mergeL] at h
  | _ :: _, [], l, h, _, _ => by simp [mergeL] at h
  | u :: us, v :: vs, l, h, i, hi => by
    simp only [mergeL] at h
    split at h
    · rename_i l' hl
      simp only [Option.some.injEq] at h
      subst h
      simp only [idsL, List.mem_append] at hi
      rcases hi with hi | hi
      · have := mergeV_ids i hi
        cases B <;> (simp only [cond_true, cond_false, idsL, List.mem_append] at this ⊢; exact .inl this)
      · have := mergeL_ids hl i hi
        cases B <;> (simp only [cond_true, cond_false, idsL, List.mem_append] at this ⊢; exact .inr this)
    · simp at h
end

theorem mergeO_ok {w : World} {G : Nat → Prop} {τ : Nat → Gh} {B : Bool} {id : Nat} {o1 o2 : Option E.Obj} {o : E.Obj} (h : mergeO B o1 o2 = some o) :
    ∃ p, (bif B then o1 else o2) = some p ∧ (∀ i ∈ idsObj o, i ∈ idsObj p) ∧ (p.ok w G τ id → o.ok w G τ id) := by
  unfold mergeO at h
  split at h
  · rename_i cs ds
    split at h
    · rename_i l hl
      simp only [Option.some.injEq] at h
      subst h
      refine ⟨.box (bif B then cs else ds), by cases B <;> rfl, fun i hi => mergeL_ids hl i hi, fun hok => ?_⟩
      simp only [Obj.ok, rowsOk] at hok ⊢
      obtain ⟨b, xs, t, fz, e1, e2, e3, e4, e5⟩ := hok
      exact ⟨b, xs, t, fz, e1, e2, e3, e4, mergeL_rep hl e5⟩
    · simp at h
  · rename_i n rows n' rows'
    cases hk : n == n' with
    | false => simp only [hk, cond_false, reduceCtorEq] at h
    | true =>
      have : n = n' := by simpa using hk
      subst this
      simp only [hk, cond_true, Option.some.injEq] at h
      subst h
      exact ⟨.arr n (bif B then rows else rows'), by cases B <;> rfl, fun i hi => by simp [idsObj] at hi, fun hok => hok⟩
  · simp at h

/-- What a run did not touch. -/
def Kept (D : List Nat) (σ σ' : S) : Prop := (∀ t, t ∉ D → σ'.env t = σ.env t) ∧ ∃ pre, σ'.ids = pre ++ σ.ids ∧ ∀ i, i ∉ pre → σ'.st i = σ.st i

theorem Kept.refl (D : List Nat) (σ : S) : Kept D σ σ := ⟨fun _ _ => rfl, [], rfl, fun _ _ => rfl⟩

theorem Kept.trans {D D' : List Nat} {σ σ1 σ2 : S} (h : Kept D σ σ1) (h' : Kept D' σ1 σ2) : Kept (D ++ D') σ σ2 := by
  obtain ⟨a1, p1, b1, c1⟩ := h
  obtain ⟨a2, p2, b2, c2⟩ := h'
  refine ⟨fun t ht => ?_, p2 ++ p1, by rw [b2, b1, List.append_assoc], fun i hi => ?_⟩
  · simp only [List.mem_append, not_or] at ht
    rw [a2 t ht.2, a1 t ht.1]
  · simp only [List.mem_append, not_or] at hi
    rw [c2 i hi.1, c1 i hi.2]

theorem Kept.mono {D D' : List Nat} {σ σ' : S} (h : Kept D σ σ') (hd : ∀ t ∈ D, t ∈ D') : Kept D' σ σ' :=
  ⟨fun t ht => h.1 t fun hm => ht (hd t hm), h.2⟩

theorem freshIds_of {σ σ1 : S} {pre : List Nat} (h : σ1.ids = pre ++ σ.ids) : freshIds σ σ1 = pre := by
  unfold freshIds
  rw [h, List.length_append]
  have : pre.length + σ.ids.length - σ.ids.length = pre.length := by omega
  rw [this, List.take_left']
  rfl

theorem Kept.merge {B : Bool} {σ σ1 σ2 : S} {D : List Nat} : Kept D σ (mergeS B σ D σ1 σ2) := by
  refine ⟨fun t ht => ?_, freshIds σ σ1 ++ freshIds σ σ2, rfl, fun i hi => ?_⟩
  · have : D.contains t = false := by simpa using ht
    simp only [mergeS, this, cond_false]
  · have : (freshIds σ σ1 ++ freshIds σ σ2).contains i = false := by simpa using hi
    simp only [mergeS, this, cond_false]

theorem St.merge {B : Bool} {base : Nat} {X G : Nat → Prop} {τ : Nat → Gh} {σ σ1 σ2 : S} {D : List Nat} {a : Act} {w : World} (h1 : Kept D σ σ1) (h2 : Kept D σ σ2) (n1 : σ1.n = σ.n) (n2 : σ2.n = σ.n)
    (hs : St base X G τ (bif B then σ1 else σ2) a w) : St base X G τ (mergeS B σ D σ1 σ2) a w := by
  obtain ⟨a1, p1, b1, c1⟩ := h1
  obtain ⟨a2, p2, b2, c2⟩ := h2
  have hpre : freshIds σ σ1 ++ freshIds σ σ2 = p1 ++ p2 := by rw [freshIds_of b1, freshIds_of b2]
  have henv : ∀ t, (bif B then σ1 else σ2).env t = bif B then σ1.env t else σ2.env t := fun t => by cases B <;> rfl
  have hst : ∀ t, (bif B then σ1 else σ2).st t = bif B then σ1.st t else σ2.st t := fun t => by cases B <;> rfl
  have hids : ∀ i, i ∈ (bif B then σ1 else σ2).ids → i ∈ (mergeS B σ D σ1 σ2).ids := by
    intro i hi
    show i ∈ (freshIds σ σ1 ++ freshIds σ σ2) ++ σ.ids
    rw [hpre]
    cases B with
    | true =>
      have hi : i ∈ σ1.ids := hi
      rw [b1] at hi
      simp only [List.mem_append] at hi ⊢
      rcases hi with hi | hi
      · exact .inl (.inl hi)
      · exact .inr hi
    | false =>
      have hi : i ∈ σ2.ids := hi
      rw [b2] at hi
      simp only [List.mem_append] at hi ⊢
      rcases hi with hi | hi
      · exact .inl (.inr hi)
      · exact .inr hi
  have hobj : ∀ i o, (mergeS B σ D σ1 σ2).st i = some o → ∃ p, (bif B then σ1 else σ2).st i = some p ∧ (∀ j ∈ idsObj o, j ∈ idsObj p) ∧ (p.ok w G τ i → o.ok w G τ i) := by
    intro i o ho
    simp only [mergeS, hpre] at ho
    cases hc : (p1 ++ p2).contains i with
    | true =>
      simp only [hc, cond_true] at ho
      rw [hst]
      exact mergeO_ok ho
    | false =>
      simp only [hc, cond_false] at ho
      have hni : i ∉ p1 ++ p2 := by simpa using hc
      simp only [List.mem_append, not_or] at hni
      refine ⟨o, ?_, fun _ h => h, fun h => h⟩
      rw [hst, c1 i hni.1, c2 i hni.2]
      cases B <;> exact ho
  refine ⟨⟨hs.mem.gold, fun i o ho => ?_, fun i o b ho hb => ?_, fun i j o p b hi hj h1 h2 => ?_⟩, hs.base, ?_, fun t => ?_, fun t i hi => ?_, fun i o ho => ?_, hs.defers⟩
  · obtain ⟨p, k1, _, k3⟩ := hobj i o ho
    exact k3 (hs.mem.ok i p k1)
  · obtain ⟨p, k1, _, _⟩ := hobj i o ho
    exact hs.mem.own i p b k1 hb
  · obtain ⟨p1, k1, _, _⟩ := hobj i o hi
    obtain ⟨p2, k2, _, _⟩ := hobj j p hj
    exact hs.mem.inj i j p1 p2 b k1 k2 h1 h2
  · rw [hs.size]
    show (bif B then σ1 else σ2).n = σ.n
    cases B
    · exact n2
    · exact n1
  · have := hs.env t
    rw [henv] at this
    cases hc : D.contains t with
    | true =>
      simp only [mergeS, hc, cond_true]
      exact mergeV_rep this
    | false =>
      simp only [mergeS, hc, cond_false]
      have ht : t ∉ D := by simpa using hc
      rw [a1 t ht, a2 t ht] at this
      cases B <;> exact this
  · have hi2 : i ∈ (bif B then σ1 else σ2).ids := by
      refine hs.ids t i ?_
      rw [henv]
      cases hc : D.contains t with
      | true =>
        simp only [mergeS, hc, cond_true] at hi
        exact mergeV_ids i hi
      | false =>
        simp only [mergeS, hc, cond_false] at hi
        have ht : t ∉ D := by simpa using hc
        rw [a1 t ht, a2 t ht]
        cases B <;> exact hi
    exact hids i hi2
  · obtain ⟨p, k1, k2, _⟩ := hobj i o ho
    obtain ⟨g1, g2⟩ := hs.objs i p k1
    exact ⟨hids i g1, fun j hj => hids j (g2 j (k2 j hj))⟩

theorem allP_spec : ∀ {ps : List Prop}, allP ps → ∀ p ∈ ps, p
  | [], _, p, hp => by simp at hp
  | [q], h, p, hp => by rw [List.mem_singleton] at hp; rw [hp]; exact h
  | q :: r :: l, h, p, hp => by
    obtain ⟨h1, h2⟩ := h
    rcases List.mem_cons.1 hp with rfl | hp
    · exact h1
    · exact allP_spec h2 p hp

theorem orP_true {B : Bool} {ps qs : List Prop} (h : ∀ p ∈ orP B ps qs, p) (hb : B = true) : ∀ p ∈ ps, p := by
  cases ps with
  | nil => simp
  | cons a l => exact allP_spec (h (B = true → allP (a :: l)) (by simp [orP]) hb)

theorem orP_false {B : Bool} {ps qs : List Prop} (h : ∀ p ∈ orP B ps qs, p) (hb : B = false) : ∀ p ∈ qs, p := by
  cases qs with
  | nil => simp
  | cons a l => exact allP_spec (h (B = false → allP (a :: l)) (by simp [orP]) hb)

end Go.Proofs.Ytieffigehkjifaa.E

/- The engine, part S: code, loops, functions. -/
namespace Go.Proofs.Ytieffigehkjifaa.E
open Go
set_option linter.unusedSimpArgs false

/-! ### Loops -/

theorem wp_of_loopWp {P : Program} {c : Code} {Q : Exit → Act → World → Prop} {a : Act} {w : World} (h : loopWp P c Q a w) : (Code.loop c).wp P Q a w :=
  fun b k cs => let ⟨e, a', w', q, r⟩ := h b k cs; ⟨e, a', w', q, .of_steps (.one step_loop) r⟩

theorem loopWp_step {P : Program} {c : Code} {Q : Exit → Act → World → Prop} {a : Act} {w : World} (h : c.wp P (Exit.then (loopWp P c Q) Q) a w) : loopWp P c Q a w := by
  intro b k cs
  obtain ⟨e, a₁, w₁, hq, harr⟩ := h b (.inLoop c :: k) cs
  cases e with
  | normal =>
    obtain ⟨e₂, a₂, w₂, hq₂, harr₂⟩ := hq b k cs
    exact ⟨e₂, a₂, w₂, hq₂, .of_steps (Steps.trans harr (.one step_inLoop)) harr₂⟩
  | exit id => exact ⟨_, a₁, w₁, hq, .pass (x := .inLoop c) rfl (fun _ _ => .inl (by simp)) harr⟩
  | goto l => exact ⟨_, a₁, w₁, hq, .pass (x := .inLoop c) rfl (fun _ _ => .inl (by simp)) harr⟩
  | ret => exact ⟨_, a₁, w₁, hq, .pass (x := .inLoop c) rfl (fun _ _ => .inl (by simp)) harr⟩
  | panic ch => exact ⟨_, a₁, w₁, hq, .pass (x := .inLoop c) rfl (fun _ _ => .inl (by simp)) harr⟩
  | outgrown => exact ⟨_, a₁, w₁, hq, .pass (x := .inLoop c) rfl (fun _ _ => .inl (by simp)) harr⟩

theorem loopWp_mono {P : Program} {c : Code} {Q Q' : Exit → Act → World → Prop} {a : Act} {w : World} (h : loopWp P c Q a w) (hq : ∀ e a w, Q e a w → Q' e a w) : loopWp P c Q' a w :=
  fun b k cs => let ⟨e, a', w', q, r⟩ := h b k cs; ⟨e, a', w', hq _ _ _ q, r⟩

/-- Where a run ends. -/
def Post (base : Nat) (X G : Nat → Prop) (τ : Nat → Gh) (w : World) (k : Nat) (σ' : S) (e : Ex) : Exit → Act → World → Prop :=
  fun e' a' w' => e' = e.at ∧ ∃ G' τ', St base X G' τ' σ' a' w' ∧ Ext base X G w G' w' ∧ ∀ i, i < k → τ' i = τ i

theorem Post.after {base : Nat} {X G G1 : Nat → Prop} {τ τ1 : Nat → Gh} {w w1 : World} {k : Nat} {σ' : S} {e : Ex} (he : Ext base X G w G1 w1) (ht : ∀ i, i < k → τ1 i = τ i) : ∀ e' a' w', Post base X G1 τ1 w1 k σ' e e' a' w' → Post base X G τ w k σ' e e' a' w' := by
  rintro e' a' w' ⟨h1, G', τ', h2, h3, h4⟩
  exact ⟨h1, G', τ', h2, he.trans h3, fun i hi => (h4 i hi).trans (ht i hi)⟩

theorem putSt_kept : ∀ {ws : List (Nat × Option E.Obj)} {st : Nat → Option E.Obj} {i : Nat}, i ∉ ws.map (·.1) → putSt st ws i = st i
  | [], _, _, _ => rfl
  | (j, o) :: ws, st, i, h => by
    simp only [List.map_cons, List.mem_cons, not_or] at h
    simp only [putSt]
    rw [putSt_kept h.2]
    have : (i == j) = false := by simpa using h.1
    simp [this]

theorem runOps_keeps {P : Program} {rid : Nat} {ops : Array Oper} {sc : List (Nat × List Ans × Option Bool)} : ∀ {is : List Nat} {σ σ' : S} {ls : List Log}, runOps P rid ops sc is σ = some (σ', ls) →
      σ'.n = σ.n ∧ (∀ t, t ∉ dstsOps ops → σ'.env t = σ.env t) ∧ ∃ pre, σ'.ids = pre ++ σ.ids ∧ ∀ i, i ∉ touchedAll ls → σ'.st i = σ.st i
  | [], σ, σ', ls, h => by
    simp only [runOps, Option.some.injEq, Prod.mk.injEq] at h
    obtain ⟨rfl, _⟩ := h
    exact ⟨rfl, fun _ _ => rfl, [], rfl, fun _ _ => rfl⟩
  | i :: is, σ, σ', ls, h => by
    obtain ⟨o, l, ls', h1, _, _, _, _, _, h7, h8⟩ := runOps_cons h
    obtain ⟨g1, g2, pre, g3, g4⟩ := runOps_keeps h8
    refine ⟨g1, fun t ht => ?_, pre ++ l.new, by rw [g3, List.append_assoc], fun j hj => ?_⟩
    · rw [g2 t ht]
      show putEnv σ.env o.dst l.v t = σ.env t
      cases hd : o.dst with
      | none => rfl
      | some d =>
        have : (t == d) = false := by
          simp only [beq_eq_false_iff_ne]
          rintro rfl
          refine ht (List.mem_filterMap.2 ⟨o, ?_, hd⟩)
          exact Array.mem_toList_iff.2 (Array.mem_of_getElem? h1)
        simp [putEnv, this]
    · subst h7
      simp only [touchedAll, List.mem_append, not_or] at hj
      rw [g4 j hj.2]
      exact putSt_kept hj.1

theorem runRegion_keeps {P : Program} {rid : Nat} {ops : Array Oper} {draw : Bool} {sc : List (Nat × List Ans × Option Bool)} {σ σ' : S} {ps : List Prop} (h : runRegion P rid ops draw sc σ = some (σ', ps)) : σ'.n = σ.n ∧ Kept (dstsOps ops) σ σ' := by
  have key : ∀ {σ2 : S} {ls : List Log}, runOps P rid ops sc (List.range ops.size) σ = some (σ2, ls) → (σ2.more (touchedAll ls)).n = σ.n ∧ Kept (dstsOps ops) σ (σ2.more (touchedAll ls)) := by
    intro σ2 ls hr
    obtain ⟨g1, g2, pre, g3, g4⟩ := runOps_keeps hr
    exact ⟨g1, g2, touchedAll ls ++ pre, by simp only [S.more, g3, List.append_assoc], fun i hi => g4 i fun hm => hi (List.mem_append.2 (.inl hm))⟩
  unfold runRegion at h
  split at h
  · simp at h
  · rename_i σ2 ls hr
    cases draw with
    | false =>
      simp only [cond_false, Option.some.injEq, Prod.mk.injEq] at h
      obtain ⟨rfl, rfl⟩ := h
      exact key hr
    | true =>
      simp only [cond_true] at h
      cases hb : edgesBack ops && calmAt ops (aheadOf ops) ((List.range ops.size).zip (ops.toList.zip ls)) with
      | false => simp only [hb, cond_false, reduceCtorEq] at h
      | true =>
        simp only [hb, cond_true, Option.some.injEq, Prod.mk.injEq] at h
        obtain ⟨rfl, rfl⟩ := h
        exact key hr

theorem runFk_keeps {P : Program} {rid : Nat} {ops : Array Oper} {draw : Bool} {au : List (Nat × List Ans × Option Bool)} : ∀ {fk : Fk} {σ σ' : S} {ps : List Prop}, runFk P rid ops draw au fk σ = some (σ', ps) → σ'.n = σ.n ∧ Kept (dstsOps ops) σ σ'
  | .leaf as, σ, σ', ps, h => runRegion_keeps h
  | .node B l r, σ, σ', ps, h => by
    simp only [runFk] at h
    split at h
    · simp only [Option.some.injEq, Prod.mk.injEq] at h
      obtain ⟨rfl, rfl⟩ := h
      exact ⟨rfl, Kept.merge⟩
    · simp at h

theorem plain_tab {sc sc' : List It} (h : sc.all It.plain = true) : (sc ++ tabTail sc').all It.plain = true := by
  simp [h, tabTail, It.plain]

theorem mergeR_spec {B : Bool} {σ σ' : S} {D : List Nat} {rest sc' : List It} {r1 r2 : Res} {e : Ex} {ps : List Prop} (h : mergeR B σ D rest r1 r2 = some (e, σ', sc', ps)) :
    ∃ σ1 σ2 s1 s2 ps1 ps2, r1 = some (e, σ1, s1, ps1) ∧ r2 = some (e, σ2, s2, ps2) ∧ σ' = mergeS B σ D σ1 σ2 ∧ sc' = rest ∧ ps = orP B ps1 ps2 := by
  unfold mergeR at h
  split at h
  · rename_i e1 σ1 s1 qs1 e2 σ2 s2 qs2
    cases hb0 : doneSc s1 && doneSc s2 && e1.same e2 with
    | false => simp only [hb0, cond_false, reduceCtorEq] at h
    | true =>
      simp only [hb0, cond_true, Option.some.injEq, Prod.mk.injEq] at h
      obtain ⟨rfl, rfl, rfl, rfl⟩ := h
      have hb : e1.same e2 = true := by simp only [Bool.and_eq_true] at hb0; exact hb0.2
      have : e2 = e1 := by
        unfold Ex.same at hb
        split at hb
        · rfl
        · rename_i i j; rw [show i = j by simpa using hb]
        · rfl
        · simp at hb
      subst this
      exact ⟨σ1, σ2, s1, s2, qs1, qs2, rfl, rfl, rfl, rfl, rfl⟩
  · simp at h

theorem inBlk_spec {id : Nat} {r : Res} {e : Ex} {σ : S} {sc : List It} {ps : List Prop} (h : inBlk id r = some (e, σ, sc, ps)) : ∃ e0, r = some (e0, σ, sc, ps) ∧ ((e0 = .exit id ∧ e = .normal) ∨ (e0 ≠ .exit id ∧ e = e0)) := by
  unfold inBlk at h
  split at h
  · rename_i id' σ' sc' ps'
    cases hb : id' == id with
    | true =>
      simp only [hb, cond_true, Option.some.injEq, Prod.mk.injEq] at h
      obtain ⟨rfl, rfl, rfl, rfl⟩ := h
      have : id' = id := by simpa using hb
      subst this
      exact ⟨_, rfl, .inl ⟨rfl, rfl⟩⟩
    | false =>
      simp only [hb, cond_false, Option.some.injEq, Prod.mk.injEq] at h
      obtain ⟨rfl, rfl, rfl, rfl⟩ := h
      have : id' ≠ id := by simpa using hb
      exact ⟨_, rfl, .inr ⟨fun h => this (by cases h; rfl), rfl⟩⟩
  · rename_i hne
    refine ⟨e, h, .inr ⟨?_, rfl⟩⟩
    rintro rfl
    exact hne _ _ _ _ h

theorem iter_keeps {D : List Nat} {f : List It → S → Res} (hf : ∀ sc σ e σ' sc' ps, f sc σ = some (e, σ', sc', ps) → sc.all It.plain = true → sc'.all It.plain = true ∧ σ'.n = σ.n ∧ Kept D σ σ') :
    ∀ (m : Nat) (sc : List It) (σ : S) (e : Ex) (σ' : S) (sc' : List It) (ps : List Prop), iter f m sc σ = some (e, σ', sc', ps) → sc.all It.plain = true → sc'.all It.plain = true ∧ σ'.n = σ.n ∧ Kept D σ σ'
  | 0, _, _, _, _, _, _, h, _ => by simp [iter] at h
  | m + 1, sc, σ, e, σ', sc', ps, h, hp => by
    simp only [iter] at h
    split at h
    · simp at h
    · rename_i σ1 sc1 ps1 h1
      split at h
      · simp at h
      · rename_i e2 σ2 sc2 qs h2
        simp only [Option.some.injEq, Prod.mk.injEq] at h
        obtain ⟨rfl, rfl, rfl, rfl⟩ := h
        obtain ⟨g1, g2, g3⟩ := hf _ _ _ _ _ _ h1 hp
        obtain ⟨k1, k2, k3⟩ := iter_keeps hf m sc1 σ1 e2 σ2 sc2 qs h2 g1
        exact ⟨k1, k2.trans g2, (g3.trans k3).mono fun t ht => by simpa using ht⟩
    · rename_i e1 σ1 sc1 ps1 hne h1
      simp only [Option.some.injEq, Prod.mk.injEq] at h
      obtain ⟨rfl, rfl, rfl, rfl⟩ := h
      exact hf _ _ _ _ _ _ h1 hp

theorem tailAt_plain {P : Program} {k : Nat} {b : Code} {sc : List It} {σ : S} (h : sc.all It.plain = true) : tailAt P k b sc σ = none := by
  unfold tailAt
  split
  · simp [It.plain] at h
  · rfl

theorem runC_keeps {P : Program} {k : Nat} : ∀ (c : Code) (sc : List It) (σ : S) (e : Ex) (σ' : S) (sc' : List It) (ps : List Prop), runC P k c sc σ = some (e, σ', sc', ps) → sc.all It.plain = true → sc'.all It.plain = true ∧ σ'.n = σ.n ∧ Kept (dstsC c) σ σ'
  | .skip, sc, σ, e, σ', sc', ps, h, hp => by
    simp only [runC, Option.some.injEq, Prod.mk.injEq] at h
    obtain ⟨rfl, rfl, rfl, rfl⟩ := h
    exact ⟨hp, rfl, Kept.refl _ _⟩
  | .exit id, sc, σ, e, σ', sc', ps, h, hp => by
    simp only [runC, Option.some.injEq, Prod.mk.injEq] at h
    obtain ⟨rfl, rfl, rfl, rfl⟩ := h
    exact ⟨hp, rfl, Kept.refl _ _⟩
  | .ret, sc, σ, e, σ', sc', ps, h, hp => by
    simp only [runC, Option.some.injEq, Prod.mk.injEq] at h
    obtain ⟨rfl, rfl, rfl, rfl⟩ := h
    exact ⟨hp, rfl, Kept.refl _ _⟩
  | .region rid ops draw, sc, σ, e, σ', sc', ps, h, hp => by
    have key : ∀ as rest, rest.all It.plain = true → (match runRegion P rid ops draw as σ with
      | some (σ', ps) => some (Ex.normal, σ', rest, ps)
      | none => (none : Res)) = some (e, σ', sc', ps) → sc'.all It.plain = true ∧ σ'.n = σ.n ∧ Kept (dstsC (.region rid ops draw)) σ σ' := by
      intro as rest hrest h
      split at h
      · rename_i σ2 ps2 h2
        simp only [Option.some.injEq, Prod.mk.injEq] at h
        obtain ⟨rfl, rfl, rfl, rfl⟩ := h
        exact ⟨hrest, runRegion_keeps h2⟩
      · simp at h
    unfold runC at h
    split at h
    · rename_i id' as rest
      have hrest : rest.all It.plain = true := by simp only [List.all_cons, Bool.and_eq_true] at hp; exact hp.2
      cases hb : id' == rid with
      | true => simp only [hb, cond_true] at h; exact key _ _ hrest h
      | false => simp only [hb, cond_false] at h; exact key _ _ hp h
    · rename_i id' fk rest
      have hrest : rest.all It.plain = true := by simp only [List.all_cons, Bool.and_eq_true] at hp; exact hp.2
      cases hb : id' == rid with
      | true =>
        simp only [hb, cond_true] at h
        split at h
        · rename_i σ2 ps2 h2
          simp only [Option.some.injEq, Prod.mk.injEq] at h
          obtain ⟨rfl, rfl, rfl, rfl⟩ := h
          exact ⟨hrest, runFk_keeps h2⟩
        · simp at h
      | false => simp only [hb, cond_false] at h; exact key _ _ hp h
    · exact key _ _ hp h
  | .seq x y, sc, σ, e, σ', sc', ps, h, hp => by
    simp only [runC] at h
    split at h
    · simp at h
    · rename_i σ1 sc1 ps1 h1
      rw [tailAt_plain (runC_keeps x _ _ _ _ _ _ h1 hp).1] at h
      dsimp only at h
      split at h
      · simp at h
      · rename_i e2 σ2 sc2 qs h2
        simp only [Option.some.injEq, Prod.mk.injEq] at h
        obtain ⟨rfl, rfl, rfl, rfl⟩ := h
        obtain ⟨g1, g2, g3⟩ := runC_keeps x _ _ _ _ _ _ h1 hp
        obtain ⟨k1, k2, k3⟩ := runC_keeps y _ _ _ _ _ _ h2 g1
        exact ⟨k1, k2.trans g2, g3.trans k3⟩
    · rename_i e1 σ1 sc1 ps1 hne h1
      simp only [Option.some.injEq, Prod.mk.injEq] at h
      obtain ⟨rfl, rfl, rfl, rfl⟩ := h
      obtain ⟨g1, g2, g3⟩ := runC_keeps x _ _ _ _ _ _ h1 hp
      exact ⟨g1, g2, g3.mono fun t ht => List.mem_append.2 (.inl ht)⟩
  | .cond c x y, sc, σ, e, σ', sc', ps, h, hp => by
    have key : (match rdO σ.env c with
      | .val (.bool true) => runC P k x sc σ
      | .val (.bool false) => runC P k y sc σ
      | _ => none) = some (e, σ', sc', ps) → sc'.all It.plain = true ∧ σ'.n = σ.n ∧ Kept (dstsC (.cond c x y)) σ σ' := by
      intro h
      split at h
      · obtain ⟨g1, g2, g3⟩ := runC_keeps x _ _ _ _ _ _ h hp
        exact ⟨g1, g2, g3.mono fun t ht => List.mem_append.2 (.inl ht)⟩
      · obtain ⟨g1, g2, g3⟩ := runC_keeps y _ _ _ _ _ _ h hp
        exact ⟨g1, g2, g3.mono fun t ht => List.mem_append.2 (.inr ht)⟩
      · simp at h
    unfold runC at h
    split at h
    · simp [It.plain] at hp
    · rename_i t sc1 sc2 rest
      cases hct : isTmp t c with
      | false => simp only [hct, cond_false] at h; exact key h
      | true =>
      simp only [hct, cond_true] at h
      simp only [List.all_cons, Bool.and_eq_true] at hp
      split at h
      · rename_i B hB
        cases hb : sc1.all It.plain && sc2.all It.plain with
        | false => simp only [hb, cond_false, reduceCtorEq] at h
        | true =>
          simp only [hb, cond_true] at h
          obtain ⟨σ1, σ2, s1, s2, ps1, ps2, _, _, rfl, rfl, _⟩ := mergeR_spec h
          exact ⟨hp.2, rfl, Kept.merge⟩
      · simp at h
    · exact key h
  | .block id body, sc, σ, e, σ', sc', ps, h, hp => by
    have key : inBlk id (runC P k body sc σ) = some (e, σ', sc', ps) → sc'.all It.plain = true ∧ σ'.n = σ.n ∧ Kept (dstsC (.block id body)) σ σ' := by
      intro h
      obtain ⟨e0, h0, _⟩ := inBlk_spec h
      exact runC_keeps body _ _ _ _ _ _ h0 hp
    unfold runC at h
    split at h
    · rename_i id' B sc1 sc2 rest
      have hrest : rest.all It.plain = true := by simp only [List.all_cons, Bool.and_eq_true] at hp; exact hp.2
      cases hb : id' == id with
      | false => simp only [hb, cond_false] at h; exact key h
      | true =>
        simp only [hb, cond_true] at h
        cases hb2 : sc1.all It.plain && sc2.all It.plain with
        | false => simp only [hb2, cond_false, reduceCtorEq] at h
        | true =>
          simp only [hb2, cond_true] at h
          obtain ⟨σ1, σ2, s1, s2, ps1, ps2, _, _, rfl, rfl, _⟩ := mergeR_spec h
          exact ⟨hrest, rfl, Kept.merge⟩
    · exact key h
  | .scope body, sc, σ, e, σ', sc', ps, h, hp => by
    simp only [runC] at h
    exact runC_keeps body _ _ _ _ _ _ h hp
  | .loop body, sc, σ, e, σ', sc', ps, h, hp => by
    unfold runC at h
    split at h
    · simp [It.plain] at hp
    · rename_i m rest
      have hrest : rest.all It.plain = true := by simp only [List.all_cons, Bool.and_eq_true] at hp; exact hp.2
      exact iter_keeps (fun sc σ e σ' sc' ps h hp => runC_keeps body sc σ e σ' sc' ps h hp) m rest σ e σ' sc' ps h hrest
    · simp at h
  | .label _, sc, σ, e, σ', sc', ps, h, _ => by simp [runC] at h
  | .goto _, sc, σ, e, σ', sc', ps, h, _ => by simp [runC] at h

/-- What a piece's run says, for every frame. -/
def Says (P : Program) (k : Nat) (c : Code) (σ : S) (e : Ex) (σ' : S) : Prop :=
  σ'.n = σ.n ∧ (∀ i, i < k → i ∈ σ'.ids) ∧ ∀ base X G τ a w, St base X G τ σ a w → c.wp P (Post base X G τ w k σ' e) a w

theorem region_says {P : Program} (hmix : P.follows .mixedOrders = true) {k : Nat} {rid : Nat} {ops : Array Oper} {draw : Bool} {sc : List (Nat × List Ans × Option Bool)} {σ σ' : S} {ps : List Prop} (hk : ∀ i, i < k → i ∈ σ.ids)
    (h : runRegion P rid ops draw sc σ = some (σ', ps)) (hp : ∀ p ∈ ps, p) : Says P k (.region rid ops draw) σ .normal σ' := by
  obtain ⟨h1, _, pre, h2, _⟩ := runRegion_keeps h
  exact ⟨h1, fun i hi => by rw [h2]; exact List.mem_append.2 (.inr (hk i hi)), fun base X G τ a w hs => runRegion_wp hmix h hp hs fun a' w' G' τ' k1 k2 k3 => ⟨rfl, G', τ', k1, k2, fun i hi => k3 i (hk i hi)⟩⟩

theorem iter_says {P : Program} {k : Nat} {body : Code} {f : List It → S → Res} (hf : ∀ sc σ e σ' sc' ps, f sc σ = some (e, σ', sc', ps) → (∀ p ∈ ps, p) → (∀ i, i < k → i ∈ σ.ids) → Says P k body σ e σ') :
    ∀ (m : Nat) (sc : List It) (σ : S) (e : Ex) (σ' : S) (sc' : List It) (ps : List Prop), iter f m sc σ = some (e, σ', sc', ps) → (∀ p ∈ ps, p) → (∀ i, i < k → i ∈ σ.ids) →
      σ'.n = σ.n ∧ (∀ i, i < k → i ∈ σ'.ids) ∧ ∀ base X G τ a w, St base X G τ σ a w → loopWp P body (Post base X G τ w k σ' e) a w
  | 0, _, _, _, _, _, _, h, _, _ => by simp [iter] at h
  | m + 1, sc, σ, e, σ', sc', ps, h, hp, hk => by
    simp only [iter] at h
    split at h
    · simp at h
    · rename_i σ1 sc1 ps1 h1
      split at h
      · simp at h
      · rename_i e2 σ2 sc2 qs h2
        simp only [Option.some.injEq, Prod.mk.injEq] at h
        obtain ⟨rfl, rfl, rfl, rfl⟩ := h
        obtain ⟨g1, g2, g3⟩ := hf _ _ _ _ _ _ h1 (fun p hm => hp p (List.mem_append.2 (.inl hm))) hk
        obtain ⟨k1, k2, k3⟩ := iter_says hf m sc1 σ1 e2 σ2 sc2 qs h2 (fun p hm => hp p (List.mem_append.2 (.inr hm))) g2
        refine ⟨k1.trans g1, k2, fun base X G τ a w hs => loopWp_step (wp_mono (g3 base X G τ a w hs) ?_)⟩
        rintro e' a' w' ⟨rfl, G', τ', q1, q2, q3⟩
        exact loopWp_mono (k3 base X G' τ' a' w' q1) (Post.after q2 q3)
    · rename_i e1 σ1 sc1 ps1 hne h1
      simp only [Option.some.injEq, Prod.mk.injEq] at h
      obtain ⟨rfl, rfl, rfl, rfl⟩ := h
      obtain ⟨g1, g2, g3⟩ := hf _ _ _ _ _ _ h1 hp hk
      refine ⟨g1, g2, fun base X G τ a w hs => loopWp_step (wp_mono (g3 base X G τ a w hs) ?_)⟩
      rintro e' a' w' ⟨rfl, hrest⟩
      cases e1 with
      | normal => exact (hne rfl).elim
      | exit id => exact ⟨rfl, hrest⟩
      | ret => exact ⟨rfl, hrest⟩

theorem Says.merge {P : Program} {k : Nat} {c : Code} {B : Bool} {σ σ1 σ2 : S} {D : List Nat} {e : Ex} (hk : ∀ i, i < k → i ∈ σ.ids) (k1 : Kept D σ σ1) (k2 : Kept D σ σ2) (h1 : B = true → Says P k c σ e σ1) (h2 : B = false → Says P k c σ e σ2)
    (n1 : σ1.n = σ.n) (n2 : σ2.n = σ.n) : Says P k c σ e (mergeS B σ D σ1 σ2) := by
  refine ⟨rfl, fun i hi => List.mem_append.2 (.inr (hk i hi)), fun base X G τ a w hs => ?_⟩
  have h : c.wp P (Post base X G τ w k (bif B then σ1 else σ2) e) a w := by
    cases B with
    | true => exact (h1 rfl).2.2 base X G τ a w hs
    | false => exact (h2 rfl).2.2 base X G τ a w hs
  refine wp_mono h ?_
  rintro e' a' w' ⟨rfl, G', τ', q1, q2, q3⟩
  exact ⟨rfl, G', τ', St.merge k1 k2 n1 n2 q1, q2, q3⟩

theorem runFk_says {P : Program} (hmix : P.follows .mixedOrders = true) {k : Nat} {rid : Nat} {ops : Array Oper} {draw : Bool} {au : List (Nat × List Ans × Option Bool)} : ∀ {fk : Fk} {σ σ' : S} {ps : List Prop}, (∀ i, i < k → i ∈ σ.ids) → runFk P rid ops draw au fk σ = some (σ', ps) → (∀ p ∈ ps, p) → Says P k (.region rid ops draw) σ .normal σ'
  | .leaf as, σ, σ', ps, hk, h, hp => region_says hmix hk h hp
  | .node B l r, σ, σ', ps, hk, h, hp => by
    simp only [runFk] at h
    split at h
    · rename_i σ1 ps1 σ2 ps2 h1 h2
      simp only [Option.some.injEq, Prod.mk.injEq] at h
      obtain ⟨rfl, rfl⟩ := h
      obtain ⟨n1, k1⟩ := runFk_keeps h1
      obtain ⟨n2, k2⟩ := runFk_keeps h2
      exact Says.merge hk k1 k2 (fun hb => runFk_says hmix hk h1 (orP_true hp hb)) (fun hb => runFk_says hmix hk h2 (orP_false hp hb)) n1 n2
    · simp at h

theorem toS_range {k n : Nat} {s : SL} (h : subset (List.range k) s.ids = true) : ∀ i, i < k → i ∈ (s.toS n).ids := fun i hi => subset_spec h i (List.mem_range.2 hi)

theorem tailAt_says {P : Program} {k : Nat} {b : Code} {sc : List It} {σ : S} {e : Ex} {σ' : S} {sc' : List It} {ps : List Prop} (h : tailAt P k b sc σ = some (some (e, σ', sc', ps))) (hp : ∀ p ∈ ps, p) : Says P k b σ e σ' := by
  unfold tailAt at h
  split at h
  · rename_i id nm e2 s2 rest
    cases hb : firstReg b == id with
    | false => simp only [hb, cond_false, reduceCtorEq] at h
    | true =>
      simp only [hb, cond_true, Option.some.injEq] at h
      split at h
      · rename_i s0 hn
        cases hb : subset (List.range k) s2.ids with
        | false => simp only [hb, cond_false, reduceCtorEq] at h
        | true =>
          simp only [hb, cond_true, Option.some.injEq, Prod.mk.injEq] at h
          obtain ⟨rfl, rfl, rfl, rfl⟩ := h
          refine ⟨rfl, toS_range hb, fun base X G τ a w hs => ?_⟩
          obtain ⟨⟨τ1, q1, q2⟩, q3⟩ := norm_St hs hn
          have hc : CodeC P k σ.n b s0 e2 s2 := hp _ (by simp)
          refine wp_mono (hc base X G τ1 a w q1) ?_
          rintro e' a' w' ⟨rfl, G', τ', r1, r2, r3⟩
          exact ⟨rfl, G', τ', r1, r2, fun i hi => (r3 i hi).trans (q2 i hi)⟩
      · simp at h
  · simp at h

theorem runC_says {P : Program} (hmix : P.follows .mixedOrders = true) {k : Nat} : ∀ (c : Code) (sc : List It) (σ : S) (e : Ex) (σ' : S) (sc' : List It) (ps : List Prop), runC P k c sc σ = some (e, σ', sc', ps) → (∀ p ∈ ps, p) → (∀ i, i < k → i ∈ σ.ids) → Says P k c σ e σ'
  | .skip, sc, σ, e, σ', sc', ps, h, _, hk => by
    simp only [runC, Option.some.injEq, Prod.mk.injEq] at h
    obtain ⟨rfl, rfl, rfl, rfl⟩ := h
    exact ⟨rfl, hk, fun base X G τ a w hs => wp_skip ⟨rfl, G, τ, hs, Ext.refl _ _ _ _, fun _ _ => rfl⟩⟩
  | .exit id, sc, σ, e, σ', sc', ps, h, _, hk => by
    simp only [runC, Option.some.injEq, Prod.mk.injEq] at h
    obtain ⟨rfl, rfl, rfl, rfl⟩ := h
    exact ⟨rfl, hk, fun base X G τ a w hs => wp_exit ⟨rfl, G, τ, hs, Ext.refl _ _ _ _, fun _ _ => rfl⟩⟩
  | .ret, sc, σ, e, σ', sc', ps, h, _, hk => by
    simp only [runC, Option.some.injEq, Prod.mk.injEq] at h
    obtain ⟨rfl, rfl, rfl, rfl⟩ := h
    exact ⟨rfl, hk, fun base X G τ a w hs => wp_ret ⟨rfl, G, τ, hs, Ext.refl _ _ _ _, fun _ _ => rfl⟩⟩
  | .region rid ops draw, sc, σ, e, σ', sc', ps, h, hp, hk => by
    have key : ∀ as rest, (match runRegion P rid ops draw as σ with
      | some (σ', ps) => some (Ex.normal, σ', rest, ps)
      | none => (none : Res)) = some (e, σ', sc', ps) → Says P k (.region rid ops draw) σ e σ' := by
      intro as rest h
      split at h
      · rename_i σ2 ps2 h2
        simp only [Option.some.injEq, Prod.mk.injEq] at h
        obtain ⟨rfl, rfl, rfl, rfl⟩ := h
        exact region_says hmix hk h2 hp
      · simp at h
    unfold runC at h
    split at h
    · rename_i id' as rest
      cases hb : id' == rid with
      | true => simp only [hb, cond_true] at h; exact key _ _ h
      | false => simp only [hb, cond_false] at h; exact key _ _ h
    · rename_i id' fk rest
      cases hb : id' == rid with
      | true =>
        simp only [hb, cond_true] at h
        split at h
        · rename_i σ2 ps2 h2
          simp only [Option.some.injEq, Prod.mk.injEq] at h
          obtain ⟨rfl, rfl, rfl, rfl⟩ := h
          exact runFk_says hmix hk h2 hp
        · simp at h
      | false => simp only [hb, cond_false] at h; exact key _ _ h
    · exact key _ _ h
  | .seq x y, sc, σ, e, σ', sc', ps, h, hp, hk => by
    simp only [runC] at h
    split at h
    · simp at h
    · rename_i σ1 sc1 ps1 h1
      split at h
      · simp at h
      · rename_i e2 σ2 sc2 qs h2
        simp only [Option.some.injEq, Prod.mk.injEq] at h
        obtain ⟨rfl, rfl, rfl, rfl⟩ := h
        obtain ⟨g1, g2, g3⟩ := runC_says hmix x _ _ _ _ _ _ h1 (fun p hm => hp p (List.mem_append.2 (.inl hm))) hk
        obtain ⟨k1, k2, k3⟩ := tailAt_says h2 (fun p hm => hp p (List.mem_append.2 (.inr hm)))
        refine ⟨k1.trans g1, k2, fun base X G τ a w hs => wp_seq (wp_mono (g3 base X G τ a w hs) ?_)⟩
        rintro e' a' w' ⟨rfl, G', τ', q1, q2, q3⟩
        exact wp_mono (k3 base X G' τ' a' w' q1) (Post.after q2 q3)
      split at h
      · simp at h
      · rename_i e2 σ2 sc2 qs h2
        simp only [Option.some.injEq, Prod.mk.injEq] at h
        obtain ⟨rfl, rfl, rfl, rfl⟩ := h
        obtain ⟨g1, g2, g3⟩ := runC_says hmix x _ _ _ _ _ _ h1 (fun p hm => hp p (List.mem_append.2 (.inl hm))) hk
        obtain ⟨k1, k2, k3⟩ := runC_says hmix y _ _ _ _ _ _ h2 (fun p hm => hp p (List.mem_append.2 (.inr hm))) g2
        refine ⟨k1.trans g1, k2, fun base X G τ a w hs => wp_seq (wp_mono (g3 base X G τ a w hs) ?_)⟩
        rintro e' a' w' ⟨rfl, G', τ', q1, q2, q3⟩
        exact wp_mono (k3 base X G' τ' a' w' q1) (Post.after q2 q3)
    · rename_i e1 σ1 sc1 ps1 hne h1
      simp only [Option.some.injEq, Prod.mk.injEq] at h
      obtain ⟨rfl, rfl, rfl, rfl⟩ := h
      obtain ⟨g1, g2, g3⟩ := runC_says hmix x _ _ _ _ _ _ h1 hp hk
      refine ⟨g1, g2, fun base X G τ a w hs => wp_seq (wp_mono (g3 base X G τ a w hs) ?_)⟩
      rintro e' a' w' ⟨rfl, hrest⟩
      cases e1 with
      | normal => exact (hne rfl).elim
      | exit id => exact ⟨rfl, hrest⟩
      | ret => exact ⟨rfl, hrest⟩
  | .cond c x y, sc, σ, e, σ', sc', ps, h, hp, hk => by
    have key : (match rdO σ.env c with
      | .val (.bool true) => runC P k x sc σ
      | .val (.bool false) => runC P k y sc σ
      | _ => none) = some (e, σ', sc', ps) → Says P k (.cond c x y) σ e σ' := by
      intro h
      split at h
      · rename_i hc
        obtain ⟨g1, g2, g3⟩ := runC_says hmix x _ _ _ _ _ _ h hp hk
        refine ⟨g1, g2, fun base X G τ a w hs => wp_cond_true ?_ (g3 base X G τ a w hs)⟩
        have := rd_rep hs.env c
        rw [hc] at this; simp only [V.rep] at this
        exact this
      · rename_i hc
        obtain ⟨g1, g2, g3⟩ := runC_says hmix y _ _ _ _ _ _ h hp hk
        refine ⟨g1, g2, fun base X G τ a w hs => wp_cond_false ?_ (g3 base X G τ a w hs)⟩
        have := rd_rep hs.env c
        rw [hc] at this; simp only [V.rep] at this
        exact this
      · simp at h
    unfold runC at h
    split at h
    · rename_i nm e2 s2 rest
      split at h
      · rename_i s0 hn
        cases hb : subset (List.range k) s2.ids with
        | false => simp only [hb, cond_false, reduceCtorEq] at h
        | true =>
          simp only [hb, cond_true, Option.some.injEq, Prod.mk.injEq] at h
          obtain ⟨rfl, rfl, rfl, rfl⟩ := h
          refine ⟨rfl, toS_range hb, fun base X G τ a w hs => ?_⟩
          obtain ⟨⟨τ1, q1, q2⟩, q3⟩ := norm_St hs hn
          have hc : CodeC P k σ.n (.cond c x y) s0 e2 s2 := hp _ (by simp)
          refine wp_mono (hc base X G τ1 a w q1) ?_
          rintro e' a' w' ⟨rfl, G', τ', r1, r2, r3⟩
          exact ⟨rfl, G', τ', r1, r2, fun i hi => (r3 i hi).trans (q2 i hi)⟩
      · simp at h
    · rename_i t sc1 sc2 rest
      cases hct : isTmp t c with
      | false => simp only [hct, cond_false] at h; exact key h
      | true =>
      simp only [hct, cond_true] at h
      split at h
      · rename_i B hB
        cases hb : sc1.all It.plain && sc2.all It.plain with
        | false => simp only [hb, cond_false, reduceCtorEq] at h
        | true =>
          simp only [hb, cond_true] at h
          simp only [Bool.and_eq_true] at hb
          obtain ⟨σ1, σ2, s1, s2, ps1, ps2, h1, h2, rfl, rfl, rfl⟩ := mergeR_spec h
          obtain ⟨_, n1, k1⟩ := runC_keeps x _ _ _ _ _ _ h1 (plain_tab hb.1)
          obtain ⟨_, n2, k2⟩ := runC_keeps y _ _ _ _ _ _ h2 (plain_tab hb.2)
          refine Says.merge hk (k1.mono fun t ht => List.mem_append.2 (.inl ht)) (k2.mono fun t ht => List.mem_append.2 (.inr ht)) (fun hbt => ?_) (fun hbf => ?_) n1 n2
          · obtain ⟨g1, g2, g3⟩ := runC_says hmix x _ _ _ _ _ _ h1 (orP_true hp hbt) hk
            refine ⟨g1, g2, fun base X G τ a w hs => wp_cond_true ?_ (g3 base X G τ a w hs)⟩
            have := rd_rep hs.env c
            rw [hB, hbt] at this; simp only [V.rep] at this
            exact this
          · obtain ⟨g1, g2, g3⟩ := runC_says hmix y _ _ _ _ _ _ h2 (orP_false hp hbf) hk
            refine ⟨g1, g2, fun base X G τ a w hs => wp_cond_false ?_ (g3 base X G τ a w hs)⟩
            have := rd_rep hs.env c
            rw [hB, hbf] at this; simp only [V.rep] at this
            exact this
      · simp at h
    · exact key h
  | .block id body, sc, σ, e, σ', sc', ps, h, hp, hk => by
    have key : ∀ {sc sc' : List It} {σ' : S} {e : Ex} {ps : List Prop}, inBlk id (runC P k body sc σ) = some (e, σ', sc', ps) → (∀ p ∈ ps, p) → Says P k (.block id body) σ e σ' := by
      intro sc sc' σ' e ps h hp
      obtain ⟨e0, h0, hcase⟩ := inBlk_spec h
      obtain ⟨g1, g2, g3⟩ := runC_says hmix body _ _ _ _ _ _ h0 hp hk
      refine ⟨g1, g2, fun base X G τ a w hs => wp_block (wp_mono (g3 base X G τ a w hs) ?_)⟩
      rintro e' a' w' ⟨rfl, hrest⟩
      rcases hcase with ⟨rfl, rfl⟩ | ⟨hne, rfl⟩
      · show Exit.inBlock id _ (.exit id) a' w'
        simp only [Exit.inBlock, if_true]
        exact ⟨rfl, hrest⟩
      · cases e with
        | normal => exact ⟨rfl, hrest⟩
        | exit id' =>
          have hb' : ¬ id' = id := fun h => hne (by rw [h])
          show Exit.inBlock id _ (.exit id') a' w'
          simp only [Exit.inBlock, hb', if_false]
          exact ⟨rfl, hrest⟩
        | ret => exact ⟨rfl, hrest⟩
    unfold runC at h
    split at h
    · rename_i id' B sc1 sc2 rest
      cases hb : id' == id with
      | false => simp only [hb, cond_false] at h; exact key h hp
      | true =>
        simp only [hb, cond_true] at h
        cases hb2 : sc1.all It.plain && sc2.all It.plain with
        | false => simp only [hb2, cond_false, reduceCtorEq] at h
        | true =>
          simp only [hb2, cond_true] at h
          simp only [Bool.and_eq_true] at hb2
          obtain ⟨σ1, σ2, s1, s2, ps1, ps2, h1, h2, rfl, rfl, rfl⟩ := mergeR_spec h
          obtain ⟨e1, h01, _⟩ := inBlk_spec h1
          obtain ⟨e2, h02, _⟩ := inBlk_spec h2
          obtain ⟨_, n1, k1⟩ := runC_keeps body _ _ _ _ _ _ h01 (plain_tab hb2.1)
          obtain ⟨_, n2, k2⟩ := runC_keeps body _ _ _ _ _ _ h02 (plain_tab hb2.2)
          exact Says.merge hk k1 k2 (fun hbt => key h1 (orP_true hp hbt)) (fun hbf => key h2 (orP_false hp hbf)) n1 n2
    · exact key h hp
  | .scope body, sc, σ, e, σ', sc', ps, h, hp, hk => by
    simp only [runC] at h
    obtain ⟨g1, g2, g3⟩ := runC_says hmix body _ _ _ _ _ _ h hp hk
    refine ⟨g1, g2, fun base X G τ a w hs => wp_scope_straight (wp_mono (g3 base X G τ a w hs) ?_)⟩
    rintro e' a' w' ⟨rfl, hrest⟩
    cases e with
    | normal => exact ⟨rfl, hrest⟩
    | exit id' => exact ⟨rfl, hrest⟩
    | ret => exact ⟨rfl, hrest⟩
  | .loop body, sc, σ, e, σ', sc', ps, h, hp, hk => by
    unfold runC at h
    split at h
    · rename_i nm e2 s2 rest
      split at h
      · rename_i s0 hn
        cases hb : subset (List.range k) s2.ids with
        | false => simp only [hb, cond_false, reduceCtorEq] at h
        | true =>
          simp only [hb, cond_true, Option.some.injEq, Prod.mk.injEq] at h
          obtain ⟨rfl, rfl, rfl, rfl⟩ := h
          refine ⟨rfl, toS_range hb, fun base X G τ a w hs => ?_⟩
          obtain ⟨⟨τ1, q1, q2⟩, q3⟩ := norm_St hs hn
          have hc : LoopC P k σ.n body s0 e2 s2 := hp _ (by simp)
          refine wp_of_loopWp (loopWp_mono (hc base X G τ1 a w q1) ?_)
          rintro e' a' w' ⟨rfl, G', τ', r1, r2, r3⟩
          exact ⟨rfl, G', τ', r1, r2, fun i hi => (r3 i hi).trans (q2 i hi)⟩
      · simp at h
    · rename_i m rest
      obtain ⟨g1, g2, g3⟩ := iter_says (fun sc σ e σ' sc' ps h hp hk => runC_says hmix body sc σ e σ' sc' ps h hp hk) m rest σ e σ' sc' ps h hp hk
      exact ⟨g1, g2, fun base X G τ a w hs => wp_of_loopWp (g3 base X G τ a w hs)⟩
    · simp at h
  | .label _, sc, σ, e, σ', sc', ps, h, _, _ => by simp [runC] at h
  | .goto _, sc, σ, e, σ', sc', ps, h, _, _ => by simp [runC] at h

end Go.Proofs.Ytieffigehkjifaa.E

/- The engine, part T: a function's contract, from its run. -/
namespace Go.Proofs.Ytieffigehkjifaa.E
open Go
set_option linter.unusedSimpArgs false

theorem repL_fixAll {P : Program} {w : World} {G : Nat → Prop} {τ : Nat → Gh} : ∀ {ts : List TypeId} {vs : List V} {xs : List Value}, repL w G τ vs xs → repL w G τ (fixAll P ts vs) xs
  | [], vs, xs, h => by simpa only [fixAll] using h
  | t :: ts, [], xs, h => by simpa only [fixAll] using h
  | t :: ts, v :: vs, [], h => by simp only [repL] at h
  | t :: ts, v :: vs, x :: xs, h => by
    simp only [repL] at h
    simp only [fixAll, repL]
    exact ⟨rep_fixV h.1, repL_fixAll h.2⟩

/-- The result of one result variable. -/
def resultSem (tmps : Array Value) : ResultVar → Sem Value
  | .tmp t => pure (tmps.getD t Go.undef)
  | .cell a t => do loadVar t (← asAddr (tmps.getD a Go.undef))

theorem resultOf_run {P : Program} {base : Nat} {X G : Nat → Prop} {τ : Nat → Gh} {σ : S} {a : Act} {w : World} (hs : St base X G τ σ a w) {r : ResultVar} {v : V} (h : resultOf P σ r = some v) :
    ∃ x, (resultSem a.tmps r).run P w = .ok x w ∧ v.rep w G τ x := by
  cases r with
  | tmp t =>
    simp only [resultOf, Option.some.injEq] at h
    subst h
    exact ⟨_, by simp [resultSem, Sem.run_pure], hs.env t⟩
  | cell t ty =>
    simp only [resultOf] at h
    split at h
    · rename_i id n off he
      split at h
      · rename_i cells hst
        have hr := hs.env t
        rw [he] at hr
        simp only [V.rep] at hr
        obtain ⟨b, hb, hv⟩ := hr
        have hok := hs.mem.ok id _ hst
        simp only [Obj.ok, rowsOk] at hok
        obtain ⟨b', xs, ty', fz, e1, e2, _, _, e5⟩ := hok
        rw [hb] at e1
        cases e1
        obtain ⟨x, hx, hrep⟩ := takeCells_load (o := 0) (b := b) e5 (fun i x hi => by rw [Nat.zero_add, cell_of_heap e2]; simpa using hi) h
        refine ⟨x, ?_, hrep⟩
        simp only [resultSem, Sem.run_bind, hv, asAddr, Nat.zero_mul]
        rw [Nat.zero_add] at hx ⊢
        simpa [Sem.run_pure] using hx
      · simp at h
    · simp at h

theorem results_list {P : Program} {base : Nat} {X G : Nat → Prop} {τ : Nat → Gh} {σ : S} {a : Act} {w : World} (hs : St base X G τ σ a w) : ∀ {l : List ResultVar} {vs : List V}, allSome (resultOf P σ) l = some vs →
    ∃ xs, (l.mapM (resultSem a.tmps)).run P w = .ok xs w ∧ repL w G τ vs xs
  | [], vs, h => by
    simp only [allSome, Option.some.injEq] at h
    subst h
    exact ⟨[], by simp [Sem.run_pure], by simp only [repL]⟩
  | r :: l, vs, h => by
    simp only [allSome] at h
    cases h1 : resultOf P σ r with
    | none => simp [h1] at h
    | some v =>
      cases h2 : allSome (resultOf P σ) l with
      | none => simp [h1, h2] at h
      | some vs' =>
        simp only [h1, h2, Option.some.injEq] at h
        subst h
        obtain ⟨x, hx, hr⟩ := resultOf_run hs h1
        obtain ⟨xs, hxs, hrs⟩ := results_list hs h2
        refine ⟨x :: xs, ?_, by simp only [repL]; exact ⟨hr, hrs⟩⟩
        simp [List.mapM_cons, Sem.run_bind, hx, hxs, Sem.run_pure]

theorem results_run {P : Program} {base : Nat} {X G : Nat → Prop} {τ : Nat → Gh} {σ : S} {a : Act} {w : World} (hs : St base X G τ σ a w) {fn : Func} {vs : List V} (h : allSome (resultOf P σ) fn.results.toList = some vs) :
    ∃ xs : List Value, repL w G τ vs xs ∧ (results fn a.tmps).run P w = .ok (if h : xs.length = 1 then xs[0] else .tuple xs.toArray) w := by
  obtain ⟨xs, hx, hr⟩ := results_list hs h
  refine ⟨xs, hr, ?_⟩
  have e : results fn a.tmps = (do
      let vs ← fn.results.mapM (resultSem a.tmps)
      pure (if h : vs.size = 1 then vs[0] else .tuple vs)) := by
    unfold results
    congr 1
  rw [e, Array.mapM_eq_mapM_toList]
  simp only [Sem.run_bind, map_eq_pure_bind, hx, Sem.run_pure, Result.andThen_ok]
  simp

theorem finObjs_get {st : Nat → Option E.Obj} (names : List Nat) : ∀ {l : List Nat} {os : List (Option E.Obj)}, finObjs st names l = some os →
    os.length = l.length ∧ ∀ (j : Nat) (o' : E.Obj), os[j]? = some (some o') → ∃ (id : Nat) (o : E.Obj), l[j]? = some id ∧ st id = some o ∧ ((o.rowsB = true ∧ o' = o) ∨ ∃ cs cs' rs', o = .box cs ∧ o' = .box cs' ∧ (passL names false cs).run st = some (cs', rs'))
  | [], os, h => by
    simp only [finObjs, Option.some.injEq] at h
    subst h
    exact ⟨rfl, by simp⟩
  | id :: l, os, h => by
    simp only [finObjs] at h
    split at h
    · simp at h
    · rename_i os2 h2
      obtain ⟨g1, g2⟩ := finObjs_get names h2
      split at h
      · simp only [Option.some.injEq] at h
        subst h
        refine ⟨by simp [g1], fun j o' hj => ?_⟩
        cases j with
        | zero => simp at hj
        | succ j => obtain ⟨i, o2, k⟩ := g2 j o' (by simpa using hj); exact ⟨i, o2, by simpa using k⟩
      · rename_i n rows hst
        simp only [Option.some.injEq] at h
        subst h
        refine ⟨by simp [g1], fun j o' hj => ?_⟩
        cases j with
        | zero => simp at hj; subst hj; exact ⟨id, _, by simp, hst, .inl ⟨rfl, rfl⟩⟩
        | succ j => obtain ⟨i, o2, k⟩ := g2 j o' (by simpa using hj); exact ⟨i, o2, by simpa using k⟩
      · rename_i n rows c hst
        simp only [Option.some.injEq] at h
        subst h
        refine ⟨by simp [g1], fun j o' hj => ?_⟩
        cases j with
        | zero => simp at hj; subst hj; exact ⟨id, _, by simp, hst, .inl ⟨rfl, rfl⟩⟩
        | succ j => obtain ⟨i, o2, k⟩ := g2 j o' (by simpa using hj); exact ⟨i, o2, by simpa using k⟩
      · rename_i k es hst
        simp only [Option.some.injEq] at h
        subst h
        refine ⟨by simp [g1], fun j o' hj => ?_⟩
        cases j with
        | zero => simp at hj; subst hj; exact ⟨id, _, by simp, hst, .inl ⟨rfl, rfl⟩⟩
        | succ j => obtain ⟨i, o2, k⟩ := g2 j o' (by simpa using hj); exact ⟨i, o2, by simpa using k⟩
      · rename_i cells hst
        split at h
        · rename_i cs rs hp
          simp only [Option.some.injEq] at h
          subst h
          refine ⟨by simp [g1], fun j o' hj => ?_⟩
          cases j with
          | zero => simp at hj; subst hj; exact ⟨id, _, by simp, hst, .inr ⟨cells, cs, rs, rfl, rfl, hp⟩⟩
          | succ j => obtain ⟨i, o2, k⟩ := g2 j o' (by simpa using hj); exact ⟨i, o2, by simpa using k⟩
        · simp at h

/-- What is given away at the end. -/
theorem Mem.given {base : Nat} {X G : Nat → Prop} {τ : Nat → Gh} {st : Nat → Option E.Obj} {w : World} {names lent : List Nat} {os : List (Option E.Obj)}
    (hm : Mem base X G τ st w) (hn : nodupB names = true) (hl : ∀ i ∈ lent, i ∉ names) (h : finObjs st names names = some os) :
    Mem base X (giveG G τ st lent) (tauOf τ names) (objsAt' os) w := by
  obtain ⟨hlen, hget0⟩ := finObjs_get names h
  have hget : ∀ (j : Nat) (o' : E.Obj), objsAt' os j = some o' → ∃ (id : Nat) (o : E.Obj), names[j]? = some id ∧ st id = some o ∧ ((o.rowsB = true ∧ o' = o) ∨ ∃ cs cs' rs', o = .box cs ∧ o' = .box cs' ∧ (passL names false cs).run st = some (cs', rs')) := by
    intro j o' hj
    refine hget0 j o' ?_
    simp only [objsAt'] at hj
    split at hj
    · rename_i q hq; rw [hq, hj]
    · simp at hj
  have htau : ∀ j id, names[j]? = some id → tauOf τ names j = τ id := fun j id hj => by simp [tauOf, hj]
  refine ⟨(Mem.give hm lent).gold, fun j o' hj => ?_, fun j o' b hj hb => ?_, fun i j o1 o2 b h1 h2 hb1 hb2 => ?_⟩
  · obtain ⟨id, o, g1, g2, g3⟩ := hget j o' hj
    have hin := List.mem_of_getElem? g1
    have hok := hm.ok id o g2
    have hnG : ∀ b, (τ id).blk = some b → giveG G τ st lent b → G b := by
      intro b hb hg
      rcases hg with hg | ⟨id', hid', ⟨n, rows, hs⟩, hb'⟩
      · exact hg
      · exact absurd (hm.inj id' id _ o b hs g2 hb' hb) (fun e => hl id' hid' (e ▸ hin))
    rcases g3 with ⟨hrb, rfl⟩ | ⟨cs, cs', rs', rfl, rfl, hp⟩
    · refine Obj.ok_mono (τ := fun _ => τ id) (τ' := tauOf τ names) (id := j) (fun b hb => ⟨.inl hb, rfl⟩) (fun b hb => ⟨rfl, hnG b hb⟩) (htau j id g1) (fun i hi => by rw [idsObj_rows hrb] at hi; simp at hi) ?_
      exact Obj.ok_name hrb rfl hok
    · simp only [Obj.ok, rowsOk] at hok ⊢
      rw [htau j id g1]
      obtain ⟨b, xs, t, fz, e1, e2, e3, e4, e5⟩ := hok
      exact ⟨b, xs, t, fz, e1, e2, fun hg => e3 (hnG b e1 hg), e4, passL_rep hm names lent false hp (fun i hi hni => absurd (pass_ids2 names hp i hi) hni) e5⟩
  · obtain ⟨id, o, g1, g2, _⟩ := hget j o' hj
    rw [htau j id g1] at hb
    exact hm.own id o b g2 hb
  · obtain ⟨id1, p1, g1, g2, _⟩ := hget i o1 h1
    obtain ⟨id2, p2, k1, k2, _⟩ := hget j o2 h2
    rw [htau i id1 g1] at hb1
    rw [htau j id2 k1] at hb2
    have := hm.inj id1 id2 p1 p2 b g2 k2 hb1 hb2
    subst this
    exact nodupB_spec hn i j id1 g1 k1

theorem passTop_rep {base : Nat} {X G : Nat → Prop} {τ : Nat → Gh} {st : Nat → Option E.Obj} {w : World} (hm : Mem base X G τ st w) (ids lent : List Nat) {v v' : V} {rs : List Nat} {x : Value}
    (h : (passTop ids v).run st = some (v', rs)) (hl : ∀ i ∈ v.ids, i ∉ ids → i ∈ lent) (hr : v.rep w G τ x) : v'.rep w (giveG G τ st lent) (tauOf τ ids) x := by
  unfold passTop at h
  split at h
  · rename_i vs
    obtain ⟨cs', r1, r2, h1, h2, _⟩ := T.run_bind_some h
    simp only [T.run, Option.some.injEq, Prod.mk.injEq] at h2
    obtain ⟨rfl, _⟩ := h2
    simp only [V.rep] at hr ⊢
    obtain ⟨xs, e, hr⟩ := hr
    exact ⟨xs, e, passL_rep hm ids lent true h1 (fun i hi => hl i (by simpa only [V.ids] using hi)) hr⟩
  · exact pass_rep hm ids lent true h hl hr

theorem idsL_get : ∀ {args : List V} {t : Nat} {a : V} {i : Nat}, args[t]? = some a → i ∈ a.ids → i ∈ idsL args
  | [], t, a, i, h, _ => by simp at h
  | c :: cs, t, a, i, h, hi => by
    simp only [idsL, List.mem_append]
    cases t with
    | zero => simp at h; subst h; exact .inl hi
    | succ t => exact .inr (idsL_get (by simpa using h) hi)

/-- THE VERIFIER IS SOUND. -/
theorem vc {P : Program} (hmix : P.follows .mixedOrders = true) {f : FuncId} {args : List V} {objs : List E.Obj} {sc : List It} {exports : List Nat} {r : V} {objs' : List (Option E.Obj)} {ps : List Prop}
    (h : runF P f args objs sc exports = some (r, objs', ps)) (hp : ∀ p ∈ ps, p) : Contract P f args objs r objs' := by
  unfold runF at h
  split at h
  · rename_i fn hfn
    split at h
    · rename_i c hc
      simp only at h
      cases hb : subset (idsL args) (List.range objs.length) && (objs.all fun o => subset (idsObj o) (List.range objs.length)) && (fn.name != "runtime.NumGoroutine") with
      | false => simp only [hb, cond_false, reduceCtorEq] at h
      | true =>
        simp only [hb, cond_true] at h
        simp only [Bool.and_eq_true] at hb
        obtain ⟨⟨b1, b2⟩, b3⟩ := hb
        split at h
        · rename_i e σ rest ps2 hrun
          have hdone : doneSc rest = true := by
            cases hd : doneSc rest with
            | true => rfl
            | false => simp [hd] at h
          simp only [hdone, Bool.true_and] at h
          have hex : e = .normal ∨ e = .ret := by
            cases e with
            | normal => exact .inl rfl
            | ret => exact .inr rfl
            | exit id => simp at h
          have h : (match allSome (resultOf P σ) fn.results.toList with
              | some vs => (match (passTop (List.range objs.length ++ exports) (match fixAll P fn.resultTypes.toList vs with
                  | [v] => v
                  | vs => .tup vs)).run σ.st, finObjs σ.st (List.range objs.length ++ exports) (List.range objs.length ++ exports) with
                | some (v, _), some os => bif nodupB (List.range objs.length ++ exports) then some (v, os, ps2) else none
                | _, _ => none)
              | none => none) = some (r, objs', ps) := by
            rcases hex with rfl | rfl
            · exact h
            · exact h
          split at h
          · rename_i vs hvs
            split at h
            · rename_i v rs os hv hos
              cases hn : nodupB (List.range objs.length ++ exports) with
              | false => simp only [hn, cond_false, reduceCtorEq] at h
              | true =>
                simp only [hn, cond_true, Option.some.injEq, Prod.mk.injEq] at h
                obtain ⟨rfl, rfl, rfl⟩ := h
                obtain ⟨_, _, hsays⟩ := runC_says hmix c _ _ _ _ _ _ hrun hp (fun i hi => List.mem_range.2 hi)
                refine ⟨⟨fn, hfn, by simpa using b3, by simp [hc]⟩, fun w G X τ vals hm hX ha => calls_of_wp hfn hc ?_⟩
                have hlen := repL_length ha
                have hsize : vals.size = args.length := by rw [hlen]; simp
                have hst0 : St w.heap.size X G τ ⟨max args.length fn.ntmps, fun t => args.getD t .undef, objsAt objs, List.range objs.length⟩
                    { tmps := vals ++ Array.replicate (fn.ntmps - vals.size) Go.undef, defers := [] } w := by
                  refine ⟨hm, Nat.le_refl _, ?_, fun t => ?_, fun t i hi => ?_, fun i o ho => ?_, rfl⟩
                  · simp [hsize]; omega
                  · show (args.getD t .undef).rep w G τ _
                    rw [List.getD_eq_getElem?_getD]
                    cases ht : args[t]? with
                    | none => simp only [Option.getD_none, V.rep]
                    | some a =>
                      obtain ⟨x, hx, hr⟩ := repL_get ha t a ht
                      have : (vals ++ Array.replicate (fn.ntmps - vals.size) Go.undef).getD t Go.undef = x := by
                        have hlt : t < vals.size := by
                          rw [hsize]; exact (List.getElem?_eq_some_iff.1 ht).1
                        have hx' : vals[t]? = some x := by simpa using hx
                        rw [Array.getD_eq_getD_getElem?, Array.getElem?_append_left hlt, hx']
                        rfl
                      rw [this]
                      simpa using hr
                  · have hi : i ∈ (args.getD t .undef).ids := hi
                    rw [List.getD_eq_getElem?_getD] at hi
                    cases ht : args[t]? with
                    | none => simp [ht, V.ids] at hi
                    | some a =>
                      simp only [ht, Option.getD_some] at hi
                      refine subset_spec b1 i ?_
                      exact idsL_get ht hi
                  · have ho' : objs[i]? = some o := ho
                    refine ⟨List.mem_range.2 (List.getElem?_eq_some_iff.1 ho').1, ?_⟩
                    exact subset_spec (List.all_eq_true.1 b2 o (List.mem_of_getElem? ho'))
                refine wp_mono (hsays _ _ _ _ _ _ hst0) ?_
                rintro e' a' w' ⟨rfl, G', τ', hs', hext, hτ⟩
                obtain ⟨xs, hxs, hres⟩ := results_run hs' hvs
                have hfx := repL_fixAll (P := P) (ts := fn.resultTypes.toList) hxs
                let names := List.range objs.length ++ exports
                let rv : V := match fixAll P fn.resultTypes.toList vs with
                  | [v] => v
                  | vs => .tup vs
                have hrv : rv.rep w' G' τ' (if h : xs.length = 1 then xs[0] else .tuple xs.toArray) := by
                  have hl := repL_length hfx
                  show V.rep w' G' τ' (match fixAll P fn.resultTypes.toList vs with
                    | [v] => v
                    | vs => .tup vs) _
                  generalize fixAll P fn.resultTypes.toList vs = vs2 at hfx hl ⊢
                  split
                  · rename_i v1
                    match xs, hfx with
                    | [x], hfx => simp only [repL] at hfx; exact hfx.1
                    | [], hfx => simp [repL] at hfx
                    | _ :: _ :: _, hfx => simp [repL] at hfx
                  · rename_i hne
                    have : ¬ xs.length = 1 := by
                      intro h1
                      match vs2, hl with
                      | [v1], _ => exact hne v1 rfl
                      | [], hl => simp at hl; omega
                      | _ :: _ :: _, hl => simp at hl; omega
                    rw [dif_neg this]
                    simp only [V.rep]
                    exact ⟨xs.toArray, rfl, by simpa using hfx⟩
                let lent := rv.ids.filter fun i => !names.contains i
                have hlent : ∀ i ∈ lent, i ∉ names := by
                  intro i hi
                  have := (List.mem_filter.1 hi).2
                  simpa using this
                have hfinal := passTop_rep hs'.mem names lent hv (fun i hi hni => List.mem_filter.2 ⟨hi, by simpa using hni⟩) hrv
                have hmem := Mem.given hs'.mem hn hlent hos
                have hpost : bodyPost P fn (fun e w'_1 => ∃ v_1 G' τ', e = .returned v_1 ∧ Ext w.heap.size X G w G' w'_1 ∧ (∀ i, i < objs.length → τ' i = τ i) ∧ v.rep w'_1 G' τ' v_1 ∧ Mem w.heap.size X G' τ' (objsAt' os) w'_1) .normal a' w' := by
                  refine ⟨hs'.defers, _, hres, _, giveG G' τ' σ.st lent, tauOf τ' names, rfl, ?_, fun i hi => ?_, hfinal, hmem⟩
                  · refine ⟨hext.os, hext.tape, hext.output, hext.size, hext.block, fun b hb => ⟨.inl (hext.keep b hb).1, (hext.keep b hb).2⟩, fun b hb => ?_⟩
                    rcases hb with hb | ⟨id, _, ⟨n, rows, hs⟩, hb⟩
                    · exact hext.grow b hb
                    · rcases hs'.mem.own id _ b hs hb with h | h
                      · exact .inr (.inr h)
                      · exact .inr (.inl h)
                  · have : names[i]? = some i := by
                      show (List.range objs.length ++ exports)[i]? = some i
                      rw [List.getElem?_append_left (by simpa using hi)]
                      simp [hi]
                    simp only [tauOf, this]
                    exact hτ i hi
                rcases hex with rfl | rfl
                · exact hpost
                · exact hpost
            · simp at h
          · simp at h
        · simp at h
    · simp at h
  · simp at h

end Go.Proofs.Ytieffigehkjifaa.E

/- The engine, part U: loops by their rounds. -/
namespace Go.Proofs.Ytieffigehkjifaa.E
open Go
set_option linter.unusedSimpArgs false

theorem runTo_says {P : Program} (hmix : P.follows .mixedOrders = true) {k n : Nat} {c : Code} {sc : List It} {s s' : SL} {nm : Norm} {e : Ex} {ps : List Prop} (h : runTo P k n c sc s nm = some (e, s', ps)) (hp : ∀ p ∈ ps, p) : CodeC P k n c s e s' := by
  unfold runTo at h
  cases hb : subset (List.range k) s.ids with
  | false => simp only [hb, cond_false, reduceCtorEq] at h
  | true =>
    simp only [hb, cond_true] at h
    split at h
    · rename_i e2 σ rest ps2 hrun
      cases hd : doneSc rest with
      | false => simp only [hd, cond_false, reduceCtorEq] at h
      | true =>
      simp only [hd, cond_true] at h
      split at h
      · rename_i s2 hn
        simp only [Option.some.injEq, Prod.mk.injEq] at h
        obtain ⟨rfl, rfl, rfl⟩ := h
        obtain ⟨g1, g2, g3⟩ := runC_says hmix c _ _ _ _ _ _ hrun hp (toS_range hb)
        intro base X G τ a w hs
        refine wp_mono (g3 base X G τ a w hs) ?_
        rintro e' a' w' ⟨rfl, G', τ', q1, q2, q3⟩
        obtain ⟨⟨τ1, r1, r2⟩, _⟩ := norm_St q1 hn
        refine ⟨rfl, G', τ1, ?_, q2, fun i hi => (r2 i hi).trans (q3 i hi)⟩
        have : σ.n = n := g1
        rw [this] at r1
        exact r1
      · simp at h
    · simp at h

/-- A round that leaves the loop. -/
theorem LoopC.last {P : Program} {k n : Nat} {c : Code} {s s' : SL} {e : Ex} (h : CodeC P k n c s e s') (he : e ≠ .normal) : LoopC P k n c s e s' := by
  intro base X G τ a w hs
  refine loopWp_step (wp_mono (h base X G τ a w hs) ?_)
  rintro e' a' w' ⟨rfl, hrest⟩
  cases e with
  | normal => exact (he rfl).elim
  | exit id => exact ⟨rfl, hrest⟩
  | ret => exact ⟨rfl, hrest⟩

/-- A round behind which the loop goes on. -/
theorem LoopC.next {P : Program} {k n : Nat} {c : Code} {s s1 s' : SL} {e : Ex} (h : CodeC P k n c s .normal s1) (hr : LoopC P k n c s1 e s') : LoopC P k n c s e s' := by
  intro base X G τ a w hs
  refine loopWp_step (wp_mono (h base X G τ a w hs) ?_)
  rintro e' a' w' ⟨rfl, G', τ', q1, q2, q3⟩
  refine loopWp_mono (hr base X G' τ' a' w' q1) ?_
  rintro e' a' w' ⟨rfl, G2, τ2, r1, r2, r3⟩
  exact ⟨rfl, G2, τ2, r1, q2.trans r2, fun i hi => (r3 i hi).trans (q3 i hi)⟩

end Go.Proofs.Ytieffigehkjifaa.E

