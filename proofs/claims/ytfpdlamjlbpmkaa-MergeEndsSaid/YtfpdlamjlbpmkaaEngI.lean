/- The engine, part I: slices: written out, made, cut, appended to. -/
import Derived.Test.YtfpdlamjlbpmkaaEngH
namespace Go.Proofs.Ytfpdlamjlbpmkaa.E
open Go
set_option linter.unusedSimpArgs false

theorem Mem.heap {base : Nat} {X G : Nat → Prop} {τ : Nat → Gh} {st : Nat → Option E.Obj} {w w' : World} (hm : Mem base X G τ st w) (h : w'.heap = w.heap) : Mem base X G τ st w' :=
  ⟨fun b hb => by rw [h]; exact hm.gold b hb, fun i o hi => Obj.ok_mono (fun b hb => ⟨hb, by rw [h]⟩) (fun b _ => ⟨by rw [h], id⟩) rfl (fun _ _ => rfl) (hm.ok i o hi), hm.own, hm.inj⟩

theorem repIL_append_inv {w : World} {G : Nat → Prop} : ∀ {cs ds : List V} {xs : List Value}, repIL w G (cs ++ ds) xs → repIL w G cs (xs.take cs.length) ∧ repIL w G ds (xs.drop cs.length)
  | [], ds, xs, h => by simpa [repIL] using h
  | c :: cs, ds, [], h => by simp [repIL] at h
  | c :: cs, ds, x :: xs, h => by
    simp only [List.cons_append, repIL] at h
    obtain ⟨h1, h2⟩ := repIL_append_inv h.2
    simp only [List.length_cons, List.take_succ_cons, List.drop_succ_cons, repIL]
    exact ⟨⟨h.1, h1⟩, h2⟩

theorem repIL_append {w : World} {G : Nat → Prop} : ∀ {cs : List V} {xs : List Value} {ds : List V} {ys : List Value}, repIL w G cs xs → repIL w G ds ys → repIL w G (cs ++ ds) (xs ++ ys)
  | [], [], _, _, _, h => by simpa using h
  | [], _ :: _, _, _, hr, _ => by simp only [repIL] at hr
  | _ :: _, [], _, _, hr, _ => by simp only [repIL] at hr
  | c :: cs, x :: xs, _, _, hr, h => by simp only [repIL] at hr; simp only [List.cons_append, repIL]; exact ⟨hr.1, repIL_append hr.2 h⟩

/-- Rows that lie one behind the other. -/
theorem repRows_content {w : World} {G : Nat → Prop} {n b : Nat} : ∀ {rows : List (List V)} {xs : List Value} (o : Nat), (∀ r ∈ rows, r.length = n) → repIL w G rows.flatten xs → (∀ i x, xs[i]? = some x → w.cell? ⟨b, o + i, none⟩ = some x) → repRows w G n b o rows
  | [], _, _, _, _, _ => by simp only [repRows]
  | r :: rs, xs, o, hl, hr, hc => by
    simp only [List.flatten_cons] at hr
    obtain ⟨h1, h2⟩ := repIL_append_inv hr
    have hrn := hl r (by simp)
    simp only [repRows]
    refine ⟨hrn, repCells_of o h1 (fun i x hx => ?_), repRows_content (o + n) (fun q hq => hl q (by simp [hq])) h2 (fun i x hx => ?_)⟩
    · rw [List.getElem?_take] at hx
      split at hx
      · exact hc i x hx
      · simp at hx
    · rw [List.getElem?_drop, hrn] at hx
      have := hc _ x hx
      rwa [show o + (n + i) = o + n + i by omega] at this

theorem repRows_flat {w : World} {G : Nat → Prop} {n b : Nat} : ∀ {rows : List (List V)} {o : Nat}, repRows w G n b o rows → ∃ xs : List Value, repIL w G rows.flatten xs ∧ xs.length = rows.length * n ∧ ∀ i x, xs[i]? = some x → w.cell? ⟨b, o + i, none⟩ = some x
  | [], _, _ => ⟨[], by simp [repIL], by simp, by simp⟩
  | r :: rs, o, h => by
    simp only [repRows] at h
    obtain ⟨x1, h1, h2⟩ := repCells_get h.2.1
    obtain ⟨x2, h3, h4, h5⟩ := repRows_flat h.2.2
    have hl := repIL_length h1
    refine ⟨x1 ++ x2, by simp only [List.flatten_cons]; exact repIL_append h1 h3, by simp [h4, Nat.add_mul]; omega, fun i x hx => ?_⟩
    rw [List.getElem?_append] at hx
    split at hx
    · exact h2 i x hx
    · have := h5 _ x hx
      rwa [show o + n + (i - x1.length) = o + i by omega] at this

/-- A new slice, in a new block, that the call owns. (w1: the world with some draws.) -/
theorem arr_new {P : Program} {base : Nat} {X G : Nat → Prop} {τ : Nat → Gh} {st : Nat → Option E.Obj} {w w1 : World} {ids : List Nat} {site n cap : Nat} {t : TypeId} {c : Array Value} {fz : Nat × Nat} {rows : List (List V)} {s : Sem Next} {ws : List (Nat × Option E.Obj)} {G' : Nat → Prop} {obs : List Prop}
    (hm : Mem base X G' τ (putSt st ws) w) (he : Ext base X G w G' w) (hbase : base ≤ w.heap.size) (hc : Closed ids (putSt st ws)) (hs : site ∉ ids)
    (h1 : w1.heap = w.heap) (h2 : w1.os = w.os) (h3 : w1.tape = w.tape) (h4 : w1.output = w.output)
    (hl : ∀ r ∈ rows, r.length = n) (hle : rows.length ≤ cap) (hsz : c.size = cap * n) (hfz : Free fz (c.size + 1)) (hr : repIL w G' rows.flatten (c.toList.take (rows.length * n)))
    (hrun : s.run P w = .ok (.value (.slice (some ⟨w.heap.size, 0, none⟩) rows.length cap)) (w1.alloc (.cells c t fz))) :
    OpRes P base X ids G τ st w s ⟨.own site, ws ++ [(site, some (.arr n rows))], obs, [site]⟩ := by
  have hm1 := hm.heap h1
  have hsize : w1.heap.size = w.heap.size := by rw [h1]
  have hd : Ext base X G' w G' w1 := ⟨h2, h3, h4, by omega, fun b _ _ => by rw [h1], fun b hb => ⟨hb, by rw [h1]⟩, fun _ hb => .inl hb⟩
  refine ⟨_, _, G', setGh τ site ⟨some w.heap.size, some ⟨w.heap.size, 0, none⟩, rows.length, cap⟩, .inl hrun, ?_, ?_, (he.trans hd).trans (Ext.alloc hm1.gold (by omega) _), fun i hi => setGh_ne fun e => hs (e ▸ hi)⟩
  · simp only [V.rep, setGh_same, Gh.hdr]
  · rw [putSt_append]
    refine Mem.new hm1 (by omega) hc hs (fun b hb => by simp at hb; omega) ?_
    simp only [Obj.ok, rowsOk, setGh_same]
    have hcells : (w1.alloc (.cells c t fz)).heap[w.heap.size]? = some (.cells c t fz) := by rw [← hsize]; exact alloc_new _ _
    refine ⟨trivial, hle, .inr ⟨w.heap.size, c, t, fz, rfl, rfl, hcells, fun hg => absurd (hm.gold _ hg) (Nat.lt_irrefl _), hfz, hsz, ?_⟩⟩
    refine repRows_content 0 hl (repIL_mono (fun b hb => ⟨hb, by rw [alloc_get w1 _ b (hm1.gold b hb), h1]⟩) hr) (fun i x hx => ?_)
    rw [List.getElem?_take] at hx
    split at hx
    · rw [Nat.zero_add, cell_of_heap hcells]; simpa using hx
    · simp at hx

theorem elemOfSlice_spec {P : Program} {t e : TypeId} {n : Nat} (h : elemOfSlice P t = some (e, n)) : P.underlying t = some (.slice e) ∧ szOf P e = some n := by
  unfold elemOfSlice at h
  split at h
  · rename_i e' hu
    split at h
    · rename_i n' hn
      simp only [Option.some.injEq, Prod.mk.injEq] at h
      obtain ⟨rfl, rfl⟩ := h
      exact ⟨hu, hn⟩
    · simp at h
  · simp at h

theorem flat_len {α : Type} {n : Nat} : ∀ (rows : List (List α)), (∀ r ∈ rows, r.length = n) → rows.flatten.length = rows.length * n
  | [], _ => by simp
  | r :: rows, h => by simp only [List.flatten_cons, List.length_append, List.length_cons, h r (by simp), flat_len rows (fun q hq => h q (by simp [hq])), Nat.add_mul]; omega

/-! ### Written out -/

theorem rowsOf_res {P : Program} {t : TypeId} {base : Nat} {X G : Nat → Prop} {τ : Nat → Gh} {st : Nat → Option E.Obj} {w : World} (hm : Mem base X G τ st w) (all : List Nat) (n : Nat) :
    ∀ {parts : List (Nat × V)} {vals : List (Nat × Value)} {k : Nat} {rows : List (List V)} {kl rs : List Nat}, (rowsOf P t n k parts).run st = some ((rows, kl), rs) → (∀ i ∈ kl, i ∈ all) →
      vals.map (·.1) = parts.map (·.1) → repL w G τ (parts.map (·.2)) (vals.map (·.2)) →
      rows.length = parts.length ∧ (∀ r ∈ rows, r.length = n) ∧ repIL w (giveG G τ st all) rows.flatten (vals.flatMap fun p => p.2.cells.toList) ∧
      ∀ (a : Array Value), (k + parts.length) * n ≤ a.size → ∃ a', Instr.fill (fun i => some (i * n, n)) a vals = some a' ∧
        a'.toList = a.toList.take (k * n) ++ (vals.flatMap fun p => p.2.cells.toList) ++ a.toList.drop ((k + parts.length) * n)
  | [], [], k, rows, kl, rs, h, _, _, _ => by
    simp only [rowsOf, T.run, Option.some.injEq, Prod.mk.injEq] at h
    obtain ⟨⟨rfl, rfl⟩, _⟩ := h
    exact ⟨rfl, by simp, by simp [repIL], fun a _ => ⟨a, rfl, by simp⟩⟩
  | [], _ :: _, _, _, _, _, _, _, h, _ => by simp at h
  | _ :: _, [], _, _, _, _, _, _, h, _ => by simp at h
  | (i, v) :: parts, (j, x) :: vals, k, rows, kl, rs, h, hk, hij, hr => by
    simp only [List.map_cons, List.cons.injEq] at hij
    obtain ⟨rfl, hij⟩ := hij
    simp only [List.map_cons, repL] at hr
    unfold rowsOf at h
    cases hik : j == k with
    | false => simp [hik, T.run] at h
    | true =>
      simp only [hik, cond_true] at h
      have hik' : j = k := by simpa using hik
      subst hik'
      split at h
      · rename_i cs hcs
        cases hn : cs.length == n with
        | false => simp [hn, T.run] at h
        | true =>
          simp only [hn, cond_true] at h
          obtain ⟨⟨sc, k1⟩, r1, r2, h1, h2, _⟩ := T.run_bind_some h
          obtain ⟨⟨rows2, k2⟩, r3, r4, h3, h4, _⟩ := T.run_bind_some h2
          simp only [T.run, Option.some.injEq, Prod.mk.injEq] at h4
          obtain ⟨⟨rfl, rfl⟩, _⟩ := h4
          obtain ⟨hc1, hc2, _, _⟩ := cells_rep hcs hr.1
          have hs := settle_res hm all h1 (fun i hi => hk i (by simp [hi])) hc2 (repL_fixRow hc1)
          obtain ⟨q1, q2, q3, q4⟩ := rowsOf_res hm all n h3 (fun i hi => hk i (by simp [hi])) hij hr.2
          have hn' : cs.length = n := by simpa using hn
          have hxl : x.cells.toList.length = n := by rw [← repL_length hc1]; exact hn'
          refine ⟨by simp [q1], fun r hr' => ?_, ?_, fun a ha => ?_⟩
          · rcases List.mem_cons.1 hr' with rfl | hr'
            · rw [repIL_length hs]; exact hxl
            · exact q2 r hr'
          · simp only [List.flatten_cons, List.flatMap_cons]
            exact repIL_append hs q3
          · simp only [List.length_cons] at ha
            have hmul : (j + 1 + parts.length) * n ≤ a.size := by rwa [show j + 1 + parts.length = j + (parts.length + 1) by omega]
            have hjn : j * n + n ≤ a.size := by
              have : (j + 1) * n ≤ (j + 1 + parts.length) * n := Nat.mul_le_mul_right n (by omega)
              rw [Nat.add_mul] at this; omega
            have hxs : x.cells.size = n := by simpa using hxl
            have hf := foldl_set (j * n) x.cells.toList 0 a (by simp; omega)
            have hset : (x.cells.zipIdx.foldl (fun cs (c, i) => cs.setIfInBounds (j * n + i) c) a).toList = a.toList.take (j * n) ++ x.cells.toList ++ a.toList.drop (j * n + n) := by
              rw [← Array.foldl_toList, Array.toList_zipIdx]
              simp only [Nat.add_zero, hxl] at hf
              exact hf
            have hset2 : (x.cells.zipIdx.foldl (fun cs (c, i) => cs.setIfInBounds (j * n + i) c) a).size = a.size := by
              rw [← Array.length_toList, hset]; simp; omega
            obtain ⟨a', e1, e2⟩ := q4 (x.cells.zipIdx.foldl (fun cs (c, i) => cs.setIfInBounds (j * n + i) c) a) (by rw [hset2]; exact hmul)
            refine ⟨a', ?_, ?_⟩
            · simp only [Instr.fill]
              rw [if_neg (by simp; constructor <;> omega)]
              exact e1
            · have ht1 : (a.toList.take (j * n)).length = j * n := by simp; omega
              rw [e2, hset, List.flatMap_cons]
              have hA : (a.toList.take (j * n) ++ x.cells.toList ++ a.toList.drop (j * n + n)).take ((j + 1) * n) = a.toList.take (j * n) ++ x.cells.toList := by
                rw [List.take_left' (by simp only [List.length_append, ht1, hxl, Nat.add_mul]; omega)]
              have hB : (a.toList.take (j * n) ++ x.cells.toList ++ a.toList.drop (j * n + n)).drop ((j + 1 + parts.length) * n) = a.toList.drop ((j + (parts.length + 1)) * n) := by
                have e3 : (j + 1 + parts.length) * n = (a.toList.take (j * n) ++ x.cells.toList).length + parts.length * n := by simp only [List.length_append, ht1, hxl, Nat.add_mul]; omega
                rw [e3, ← List.drop_drop, List.drop_left, List.drop_drop]
                congr 1
                simp only [Nat.add_mul]; omega
              rw [hA, hB]
              simp [List.append_assoc, Nat.add_comm, Nat.add_left_comm, Nat.add_assoc]
      · simp [T.run] at h

theorem Closed.kills {ids : List Nat} {st : Nat → Option E.Obj} (h : Closed ids st) (l : List Nat) : Closed ids (putSt st (kills l)) := by
  intro i o hi
  rw [putSt_kills] at hi
  by_cases hm : i ∈ l
  · simp [hm] at hi
  · simp only [hm, if_false] at hi; exact h i o hi

theorem evBuildSlice_res {P : Program} {base : Nat} {X G : Nat → Prop} {τ : Nat → Gh} {st : Nat → Option E.Obj} {w : World} {ids : List Nat} {site : Nat} {rd : Operand → V} {ρ : Operand → Value} {t : TypeId} {len : Nat} {parts : Array (Nat × Operand)} {e : Eff} {rs : List Nat}
    (hm : Mem base X G τ st w) (hbase : base ≤ w.heap.size) (hc : Closed ids st) (hnew : ∀ i ∈ e.new, i ∉ ids) (hrd : ∀ p ∈ parts.toList, (rd p.2).rep w G τ (ρ p.2)) (h : (evBuildSlice P rd site t len parts).run st = some (e, rs)) :
    OpRes P base X ids G τ st w (do pure (Next.value (← Instr.buildSlice t len (parts.map fun (i, x) => (i, ρ x))))) e := by
  unfold evBuildSlice at h
  split at h
  · rename_i el n he
    obtain ⟨hu, hn⟩ := elemOfSlice_spec he
    split at h
    · rename_i z hz
      cases hb : Nat.ble 1 n && (z.length == n && (parts.size == len && Nat.ble (len * n) (2 ^ 24))) with
      | false => simp only [hb, cond_false, T.run, reduceCtorEq] at h
      | true =>
        simp only [hb, cond_true] at h
        simp only [Bool.and_eq_true, beq_iff_eq] at hb
        obtain ⟨b1, b2, b3, b4⟩ := hb
        have b1' := Nat.le_of_ble_eq_true b1
        have b4' := Nat.le_of_ble_eq_true b4
        obtain ⟨⟨rows, kl⟩, r1, r2, h1, h2, _⟩ := T.run_bind_some h
        simp only [T.run, Option.some.injEq, Prod.mk.injEq] at h2
        obtain ⟨rfl, _⟩ := h2
        obtain ⟨z0, hz1, rfl, _⟩ := zeroOf_run hz w
        obtain ⟨q1, q2, q3, q4⟩ := rowsOf_res hm kl n (vals := parts.toList.map fun p => (p.1, ρ p.2)) h1 (fun _ hi => hi) (by simp) (parts_rel _ hrd)
        have hlen : rows.length = len := by rw [q1]; simpa using b3
        have hzz : z0.cells.size = n := by simpa using b2
        obtain ⟨a', e1, e2⟩ := q4 ((Array.range (len * n)).map (z0.cells[· % z0.cells.size]!)) (by simp [b3])
        have hsz0 : ((Array.range (len * n)).map (z0.cells[· % z0.cells.size]!)).size = len * n := by simp
        have e3 : a'.toList = (parts.toList.map fun p => (p.1, ρ p.2)).flatMap fun p => p.2.cells.toList := by
          rw [e2]
          have : (parts.toList.map fun p => (p.1, rd p.2)).length = len := by simpa using b3
          rw [this]
          simp
        have hal : a'.size = len * n := by
          rw [← Array.length_toList, e3, ← repIL_length q3]
          rw [← hlen]
          exact flat_len rows q2
        by_cases hl0 : len = 0
        · subst hl0
          have hr0 : rows = [] := by simpa using hlen
          have hp0 : parts = #[] := by simpa using b3
          subst hr0 hp0
          refine arr_new (w1 := w) (c := #[]) (cap := 0) (t := el) (fz := (0, 0)) (Mem.give hm kl) (Ext.give hm kl) hbase (hc.kills kl) (hnew site (by simp)) rfl rfl rfl rfl (by simp) (by simp) (by simp) (fun i hi => by simp) (by simp [repIL]) (run_v ?_)
          simp only [Instr.buildSlice, Sem.run_bind, run_underlying hu, Result.andThen_ok, szOf_run hn w, Nat.zero_mul]
          rw [if_neg (by omega)]
          simp [Instr.fill, newRow, Array.range_zero']
        · have hne : ¬ len * n = 0 := Nat.mul_ne_zero hl0 (by omega)
          refine arr_new (w1 := w) (c := a') (cap := len) (t := el) (fz := (0, 0)) (Mem.give hm kl) (Ext.give hm kl) hbase (hc.kills kl) (hnew site (by simp)) rfl rfl rfl rfl q2 (by omega) hal (fun i _ hi => by omega) (by rw [hlen, ← hal, ← Array.length_toList, List.take_length, e3]; exact q3) (run_v ?_)
          have hparts : (parts.map fun (p : Nat × Operand) => (p.1, ρ p.2)).toList = parts.toList.map fun p => (p.1, ρ p.2) := by simp
          simp only [Instr.buildSlice, Sem.run_bind, run_underlying hu, Result.andThen_ok, szOf_run hn w]
          rw [if_neg (by omega)]
          simp only [Sem.run_bind, if_neg hne, hz1, Result.andThen_ok, Sem.run_pure, hparts, e1]
          simp [newRow, hlen]
    · simp [T.run] at h
  · simp [T.run] at h

end Go.Proofs.Ytfpdlamjlbpmkaa.E
