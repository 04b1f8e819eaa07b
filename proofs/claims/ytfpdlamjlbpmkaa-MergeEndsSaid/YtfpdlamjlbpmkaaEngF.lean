/- The engine, part F: making memory: variables, composite values, slices that are written out. -/
import Derived.Test.YtfpdlamjlbpmkaaEngE
namespace Go.Proofs.Ytfpdlamjlbpmkaa.E
open Go
set_option linter.unusedSimpArgs false

theorem run_v {P : Program} {s : Sem Value} {x : Value} {w w' : World} (h : s.run P w = .ok x w') : (do pure (Next.value (← s)) : Sem Next).run P w = .ok (.value x) w' := by
  simp [h]

theorem run_u {P : Program} {s : Sem Unit} {w w' : World} (h : s.run P w = .ok () w') : (do s; pure Next.skip : Sem Next).run P w = .ok .skip w' := by
  simp [h]

theorem szOf_run {P : Program} {t : TypeId} {n : Nat} (h : szOf P t = some n) (w : World) : (sizeOf t).run P w = .ok n w := by
  unfold szOf at h
  split at h
  · rename_i i hi
    simp only [Option.some.injEq] at h
    subst h
    simp [sizeOf, typeInfo, hi]
  · simp at h

theorem zeroOf_run {P : Program} {t : TypeId} {cs : List V} (h : zeroOf P t = some cs) (w : World) : ∃ z, (zeroValue t).run P w = .ok z w ∧ cs = z.cells.toList.map ofCell ∧ ∀ x ∈ z.cells.toList, x.oneCell' = true := by
  unfold zeroOf at h
  split at h
  · rename_i i hi
    split at h
    · rename_i z hz
      cases hb : z.cells.toList.all Value.oneCell' with
      | false => simp only [hb, cond_false, reduceCtorEq] at h
      | true =>
        simp only [hb, cond_true, Option.some.injEq] at h
        exact ⟨z, by simp [zeroValue, typeInfo, hi, hz], h.symm, List.all_eq_true.1 hb⟩
    · simp at h
  · simp at h

theorem rep_one {w : World} {G : Nat → Prop} {τ : Nat → Gh} {v : V} {x : Value} (h : v.one = true) (hr : v.rep w G τ x) : x.oneCell' = true := by
  cases v with
  | val y => simp only [V.rep, V.repI] at hr; subst hr; cases x <;> first | rfl | simp [V.one] at h
  | nil => simp only [V.rep, V.repI] at hr; subst hr; rfl
  | sl n rows => simp only [V.rep, V.repI] at hr; obtain ⟨a, cap, rfl, _⟩ := hr; rfl
  | own id => simp only [V.rep, Gh.hdr] at hr; subst hr; rfl
  | ptr id n r o => simp only [V.rep] at hr; obtain ⟨b, _, rfl⟩ := hr; rfl
  | vw id n a b => simp only [V.rep, Gh.part] at hr; obtain ⟨ad, rfl, _⟩ := hr; rfl
  | iptr n rows r o => simp only [V.rep] at hr; obtain ⟨b, k, _, _, _, rfl⟩ := hr; rfl
  | clo fn f c => simp only [V.rep] at hr; obtain ⟨xs, ys, rfl, _⟩ := hr; rfl
  | agg cs => simp [V.one] at h
  | tup cs => simp [V.one] at h
  | undef => simp [V.one] at h

theorem repL_one {w : World} {G : Nat → Prop} {τ : Nat → Gh} : ∀ {cs : List V} {xs : List Value}, (∀ c ∈ cs, c.one = true) → repL w G τ cs xs → ∀ x ∈ xs, x.oneCell' = true
  | [], [], _, _, x, hx => by simp at hx
  | [], _ :: _, _, hr, _, _ => by simp only [repL] at hr
  | _ :: _, [], _, _, _, hx => by simp at hx
  | c :: cs, x :: xs, h, hr, y, hy => by
    simp only [repL] at hr
    rcases List.mem_cons.1 hy with rfl | hy
    · exact rep_one (h c (by simp)) hr.1
    · exact repL_one (fun d hd => h d (by simp [hd])) hr.2 y hy

theorem cells_of_one {x : Value} (h : x.oneCell' = true) : x.cells = #[x] := by cases x <;> first | rfl | simp [Value.oneCell'] at h

theorem cells_rep {w : World} {G : Nat → Prop} {τ : Nat → Gh} {v : V} {cs : List V} {x : Value} (h : v.cells = some cs) (hr : v.rep w G τ x) :
    repL w G τ cs x.cells.toList ∧ (∀ y ∈ x.cells.toList, y.oneCell' = true) ∧ (∀ c ∈ cs, c.one = true) ∧ idsL cs = v.ids := by
  unfold V.cells at h
  split at h
  · rename_i ds
    simp only [V.rep] at hr
    obtain ⟨xs, rfl, hr⟩ := hr
    cases ha : ds.all V.one with
    | false => simp [ha] at h
    | true =>
      simp only [ha, cond_true, Option.some.injEq] at h
      subst h
      have h1 : ∀ c ∈ ds, c.one = true := by simpa using ha
      exact ⟨hr, repL_one h1 hr, h1, by simp only [V.ids]⟩
  · cases ho : v.one with
    | false => simp [ho] at h
    | true =>
      simp only [ho, cond_true, Option.some.injEq] at h
      subst h
      have h1 := rep_one ho hr
      rw [cells_of_one h1]
      exact ⟨by simp only [repL]; exact ⟨hr, trivial⟩, by simpa using h1, by simpa using ho, by simp [idsL]⟩

/-- A new variable. -/
theorem box_new {base : Nat} {X G : Nat → Prop} {τ : Nat → Gh} {st : Nat → Option E.Obj} {w : World} {ids : List Nat} {site : Nat} (P : Program) (t : TypeId) (x : Value) {cs : List V} {s : Sem Next}
    (hm : Mem base X G τ st w) (hbase : base ≤ w.heap.size) (hc : Closed ids st) (hs : site ∉ ids) (hcs : ∀ i ∈ idsL cs, i ∈ ids) (hr : repL w G τ cs x.cells.toList)
    (hrun : s.run P w = .ok (.value (.pointer (some ⟨w.heap.size, 0, none⟩))) (w.alloc (.cells x.cells t (0, 0)))) :
    OpRes P base X ids G τ st w s ⟨.ptr site 0 0 0, [(site, some (.box cs))], [], [site]⟩ := by
  refine ⟨_, _, G, setGh τ site ⟨some w.heap.size, none, 0, 0⟩, .inl hrun, ?_, ?_, Ext.alloc hm.gold hbase _, fun i hi => setGh_ne fun e => hs (e ▸ hi)⟩
  · simp only [V.rep, setGh_same]
    exact ⟨_, rfl, by simp⟩
  · refine Mem.new hm hbase hc hs (fun b hb => by simpa using hb.symm) ?_
    simp only [Obj.ok, rowsOk, setGh_same]
    refine ⟨w.heap.size, x.cells, t, (0, 0), rfl, alloc_new w _, fun hg => absurd (hm.gold _ hg) (Nat.lt_irrefl _), fun i _ h => by omega, ?_⟩
    exact repL_mono (fun b hb => ⟨hb, alloc_get w _ b (hm.gold b hb)⟩) cs _ (fun i hi => setGh_ne fun e => hs (e ▸ hcs i hi)) hr

theorem evAlloc_res {P : Program} {base : Nat} {X G : Nat → Prop} {τ : Nat → Gh} {st : Nat → Option E.Obj} {w : World} {ids : List Nat} {site : Nat} {t : TypeId} {e : Eff} {rs : List Nat}
    (hm : Mem base X G τ st w) (hbase : base ≤ w.heap.size) (hc : Closed ids st) (hnew : ∀ i ∈ e.new, i ∉ ids) (h : (evAlloc P site t).run st = some (e, rs)) :
    OpRes P base X ids G τ st w (do pure (Next.value (← Instr.alloc t true (.tuple #[])))) e := by
  unfold evAlloc at h
  split at h
  · rename_i cs hz
    simp only [T.run, Option.some.injEq, Prod.mk.injEq] at h
    obtain ⟨rfl, _⟩ := h
    obtain ⟨z, hz1, rfl, _⟩ := zeroOf_run hz w
    refine box_new P t z hm hbase hc (hnew site (by simp)) ?_ (repL_ofCell _) (run_v ?_)
    · have : ∀ l : List Value, idsL (l.map ofCell) = [] := by
        intro l
        induction l with
        | nil => rfl
        | cons x l ih => simp only [List.map_cons, idsL, ih, List.append_nil]; unfold ofCell; split <;> rfl
      rw [this]; simp
    · simp [Instr.alloc, hz1, newVar, newRow]
  · simp [T.run] at h

theorem evBox_res {P : Program} {base : Nat} {X G : Nat → Prop} {τ : Nat → Gh} {st : Nat → Option E.Obj} {w : World} {ids : List Nat} {site : Nat} {t : TypeId} {v : V} {x : Value} {e : Eff} {rs : List Nat}
    (hm : Mem base X G τ st w) (hbase : base ≤ w.heap.size) (hc : Closed ids st) (hv : v.rep w G τ x) (hi : ∀ i ∈ v.ids, i ∈ ids) (hnew : ∀ i ∈ e.new, i ∉ ids) (h : (evBox site v).run st = some (e, rs)) :
    OpRes P base X ids G τ st w (do pure (Next.value (← Instr.box t x))) e := by
  unfold evBox at h
  split at h
  · rename_i cs hcs
    simp only [T.run, Option.some.injEq, Prod.mk.injEq] at h
    obtain ⟨rfl, _⟩ := h
    obtain ⟨h1, _, _, h4⟩ := cells_rep hcs hv
    refine box_new P t x hm hbase hc (hnew site (by simp)) (by rw [h4]; exact hi) h1 (run_v ?_)
    simp [Instr.box, newVar, newRow]
  · simp [T.run] at h

/-! ### Composite values -/

theorem splice_list {cells cs cells' : List V} {off : Nat} (h : splice cells off cs = some cells') : off + cs.length ≤ cells.length ∧ cells' = cells.take off ++ cs ++ cells.drop (off + cs.length) := by
  unfold splice at h
  cases hb : Nat.ble (off + cs.length) cells.length with
  | false => simp [hb] at h
  | true => simp only [hb, cond_true, Option.some.injEq] at h; exact ⟨Nat.le_of_ble_eq_true hb, h.symm⟩

theorem foldl_set (off : Nat) : ∀ (l : List Value) (k : Nat) (a : Array Value), off + k + l.length ≤ a.size →
    ((l.zipIdx k).foldl (fun cs (p : Value × Nat) => cs.setIfInBounds (off + p.2) p.1) a).toList = a.toList.take (off + k) ++ l ++ a.toList.drop (off + k + l.length)
  | [], k, a, _ => by simp
  | x :: l, k, a, h => by
    simp only [List.length_cons] at h
    simp only [List.zipIdx_cons, List.foldl_cons]
    rw [foldl_set off l (k + 1) (a.setIfInBounds (off + k) x) (by simp; omega)]
    have hk : off + k < a.toList.length := by simp; omega
    simp only [Array.toList_setIfInBounds]
    rw [show off + (k + 1) = off + k + 1 by omega, List.take_succ_eq_append_getElem (by simp; omega), List.take_set_of_le (by omega), List.getElem_set_self, List.drop_set_of_lt (by omega)]
    simp only [List.append_assoc, List.cons_append, List.nil_append, List.length_cons]
    rw [show off + k + (l.length + 1) = off + k + 1 + l.length by omega]

theorem fillV_fill {w : World} {G : Nat → Prop} {τ : Nat → Gh} {place : Nat → Option (Nat × Nat)} : ∀ {parts : List (Nat × V)} {vals : List (Nat × Value)} {cells cells' : List V} {a : Array Value},
    fillV place cells parts = some cells' → vals.map (·.1) = parts.map (·.1) → repL w G τ (parts.map (·.2)) (vals.map (·.2)) → repL w G τ cells a.toList →
    ∃ a', Instr.fill place a vals = some a' ∧ repL w G τ cells' a'.toList
  | [], [], cells, cells', a, h, _, _, hr => by simp only [fillV, Option.some.injEq] at h; subst h; exact ⟨a, rfl, hr⟩
  | [], _ :: _, _, _, _, _, h, _, _ => by simp at h
  | _ :: _, [], _, _, _, _, h, _, _ => by simp at h
  | (i, v) :: parts, (j, x) :: vals, cells, cells', a, h, hk, hp, hr => by
    simp only [List.map_cons, List.cons.injEq] at hk
    obtain ⟨rfl, hk⟩ := hk
    simp only [List.map_cons, repL] at hp
    simp only [fillV] at h
    split at h
    · rename_i off size cs hpl hcs
      cases hsz : cs.length == size with
      | false => simp [hsz] at h
      | true =>
        simp only [hsz, cond_true] at h
        split at h
        · rename_i cells2 hsp
          obtain ⟨h1, h2, _⟩ := cells_rep hcs hp.1
          obtain ⟨h3, rfl⟩ := splice_list hsp
          have hl := repL_length h1
          have hl2 := repL_length hr
          have hs : cs.length = size := by simpa using hsz
          have hxs : x.cells.size = cs.length := by rw [hl]; simp
          have hlt : off + x.cells.size ≤ a.size := by rw [hxs]; simp at hl2; omega
          have ha : ((x.cells.zipIdx.foldl (fun cs (c, k) => cs.setIfInBounds (off + k) c) a)).toList = a.toList.take off ++ x.cells.toList ++ a.toList.drop (off + x.cells.toList.length) := by
            have := foldl_set off x.cells.toList 0 a (by simpa using hlt)
            rw [← Array.foldl_toList, Array.toList_zipIdx]
            simpa using this
          obtain ⟨a', h5, h6⟩ := fillV_fill (parts := parts) (vals := vals) (a := x.cells.zipIdx.foldl (fun cs (c, k) => cs.setIfInBounds (off + k) c) a) h hk hp.2 (by
            rw [ha, ← hl]; exact repL_append (repL_append (repL_take off hr) h1) (repL_drop _ hr))
          refine ⟨a', ?_, h6⟩
          simp only [Instr.fill, hpl]
          rw [if_neg (by simp; constructor <;> omega)]
          exact h5
        · simp at h
    · simp at h

theorem run_mapM_list {P : Program} {w : World} {α β : Type} {f : α → Sem β} {g : α → Option β} (hf : ∀ a b, g a = some b → (f a).run P w = .ok b w) :
    ∀ {l : List α} {r : List β}, allSome g l = some r → (l.mapM f).run P w = .ok r w
  | [], r, h => by simp only [allSome, Option.some.injEq] at h; subst h; rfl
  | a :: l, r, h => by
    simp only [allSome] at h
    cases h1 : g a with
    | none => simp [h1] at h
    | some b => cases h2 : allSome g l with
      | none => simp [h1, h2] at h
      | some bs =>
        simp only [h1, h2, Option.some.injEq] at h
        subst h
        simp [List.mapM_cons, hf a b h1, run_mapM_list hf h2]

theorem run_mapM_array {P : Program} {w : World} {α β : Type} {f : α → Sem β} {g : α → Option β} (hf : ∀ a b, g a = some b → (f a).run P w = .ok b w)
    {l : Array α} {r : List β} (h : allSome g l.toList = some r) : (l.mapM f).run P w = .ok r.toArray w := by
  rw [Array.mapM_eq_mapM_toList]
  simp [run_mapM_list hf h]

theorem parts_rel {w : World} {G : Nat → Prop} {τ : Nat → Gh} {rd : Operand → V} {ρ : Operand → Value} : ∀ (l : List (Nat × Operand)), (∀ p ∈ l, (rd p.2).rep w G τ (ρ p.2)) →
    repL w G τ ((l.map fun p => (p.1, rd p.2)).map (·.2)) ((l.map fun p => (p.1, ρ p.2)).map (·.2))
  | [], _ => by simp only [List.map_nil, repL]
  | p :: l, h => by simp only [List.map_cons, repL]; exact ⟨h p (by simp), parts_rel l fun q hq => h q (by simp [hq])⟩

theorem evBuild_res {P : Program} {base : Nat} {X G : Nat → Prop} {τ : Nat → Gh} {st : Nat → Option E.Obj} {w : World} {ids : List Nat} {rd : Operand → V} {ρ : Operand → Value} {t : TypeId} {parts : Array (Nat × Operand)} {e : Eff} {rs : List Nat}
    (hm : Mem base X G τ st w) (hrd : ∀ p ∈ parts.toList, (rd p.2).rep w G τ (ρ p.2)) (h : (evBuild P rd t parts).run st = some (e, rs)) :
    OpRes P base X ids G τ st w (do pure (Next.value (← Instr.build t (parts.map fun (i, x) => (i, ρ x))))) e := by
  unfold evBuild at h
  split at h
  · rename_i z place hz hpl
    split at h
    · rename_i cs hf
      simp only [T.run, Option.some.injEq, Prod.mk.injEq] at h
      obtain ⟨rfl, _⟩ := h
      obtain ⟨z0, hz1, rfl, _⟩ := zeroOf_run hz w
      obtain ⟨a', h1, h2⟩ := fillV_fill (w := w) (G := G) (τ := τ) (vals := parts.toList.map fun p => (p.1, ρ p.2)) (a := z0.cells) hf (by simp) (parts_rel _ hrd) (repL_ofCell _)
      refine OpRes.pure (x := .agg a') hm (run_v ?_) (by simp only [V.rep]; exact ⟨a', rfl, h2⟩)
      have hparts : (parts.map fun (p : Nat × Operand) => (p.1, ρ p.2)).toList = parts.toList.map fun p => (p.1, ρ p.2) := by simp
      unfold placesOf at hpl
      split at hpl
      · rename_i fields hu
        split at hpl
        · rename_i l hl
          simp only [Option.some.injEq] at hpl
          subst hpl
          have hmm := run_mapM_array (P := P) (w := w) (f := fun (f : Field) => do pure (f.offset, ← sizeOf f.type)) (fun f b hb => by
            split at hb
            · rename_i n hn
              simp only [Option.some.injEq] at hb
              subst hb
              simp [szOf_run hn w]
            · simp at hb) hl
          have hplace : (fun (i : Nat) => l.toArray[i]?) = fun (i : Nat) => l[i]? := by funext i; simp
          simp only [Instr.build, Sem.run_bind, hz1, Result.andThen_ok, run_underlying hu, hmm, hparts, hplace, h1]
          rfl
        · simp at hpl
      · rename_i k e hu
        split at hpl
        · rename_i n hn
          simp only [Option.some.injEq] at hpl
          subst hpl
          simp only [Instr.build, Sem.run_bind, hz1, Result.andThen_ok, run_underlying hu, szOf_run hn w, hparts, h1]
          rfl
        · simp at hpl
      · simp at hpl
    · simp [T.run] at h
  · simp [T.run] at h

end Go.Proofs.Ytfpdlamjlbpmkaa.E
