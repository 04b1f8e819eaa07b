/- The engine, part V (behind Z): what is done with parts of slices that are owned. -/
import Derived.Test.YtfpdlamjlbpmkaaEngZ
import Derived.Lib.Overlaps
namespace Go.Proofs.Ytfpdlamjlbpmkaa.E
open Go
set_option linter.unusedSimpArgs false

theorem evMove_res {P : Program} {base : Nat} {X G : Nat → Prop} {τ : Nat → Gh} {st : Nat → Option E.Obj} {w : World} {ids : List Nat} {site : Nat} {ans : List Ans} {v : V} {x : Value} {e : Eff} {rs : List Nat}
    (hm : Mem base X G τ st w) (hc : Closed ids st) (hnew : ∀ i ∈ e.new, i ∉ ids) (hv : v.rep w G τ x) (h : (evMove site ans v).run st = some (e, rs)) (hp : ∀ p ∈ e.obs, p) :
    OpRes P base X ids G τ st w (pure (.value x)) e := by
  unfold evMove at h
  cases hf : flagged ans with
  | false =>
    simp only [hf, cond_false, T.run, Option.some.injEq, Prod.mk.injEq] at h
    obtain ⟨rfl, _⟩ := h
    exact OpRes.pure hm rfl hv
  | true =>
    simp only [hf, cond_true] at h
    split at h
    · rename_i id n a b
      cases ha : a == 0 with
      | false => simp only [ha, cond_false, T.run, reduceCtorEq] at h
      | true =>
        simp only [ha, cond_true] at h
        have ha' : a = 0 := by simpa using ha
        subst ha'
        unfold evSeal at h
        obtain ⟨o, r, ho, h, _⟩ := run_ask h
        split at h
        · rename_i m rows lim hpt
          cases hmn : m == n with
          | false => simp only [hmn, cond_false, T.run, reduceCtorEq] at h
          | true =>
            simp only [hmn, cond_true, T.run, Option.some.injEq, Prod.mk.injEq] at h
            obtain ⟨rfl, _⟩ := h
            have hmn' : m = n := by simpa using hmn
            subst hmn'
            have p0 : b ≤ rows.length := hp _ (by simp)
            have hs : site ∉ ids := hnew site (by simp)
            obtain ⟨⟨h3, h4⟩, h1, h2⟩ := parts_ok (hm.ok id o ho) hpt
            simp only [V.rep] at hv
            obtain ⟨ad, rfl, g1, g2, g3⟩ := hv
            have had : ad = (τ id).adr := by
              rcases g3 with g3 | g3
              · rcases h4 with ⟨_, e2, _⟩ | ⟨bb, _, _, _, _, e2, _⟩
                · rw [g3, e2]; rfl
                · rw [g3, e2]; simp [add_plain]
              · omega
            refine ⟨_, w, G, setGh τ site ⟨(τ id).blk, (τ id).adr, b, (τ id).cap⟩, .inl rfl, ?_, ?_, Ext.refl _ _ _ _, fun i hi => setGh_ne fun e => hs (e ▸ hi)⟩
            · simp only [V.rep, setGh_same, Gh.hdr, had]; rfl
            · refine Mem.move hm ho hc hs rfl rfl (fun _ _ => rfl) ?_
              simp only [Obj.ok, setGh_same]
              have hlen : (rows.take b).length = b := by simp; omega
              refine ⟨hlen.symm, by rw [hlen]; exact g2, ?_⟩
              rcases h4 with h4 | ⟨bb, xs, t, fz, e1, e2, e3, e4, e5, e6, e7⟩
              · exact .inl h4
              · refine .inr ⟨bb, xs, t, fz, e1, e2, e3, e4, e5, e6, ?_⟩
                have := repRows_cut (l := 0) (h := b) e7
                simpa using this
        · simp [T.run] at h
    · split at h
      · rename_i n q q2 tl
        simp only [T.run, Option.some.injEq, Prod.mk.injEq] at h
        obtain ⟨rfl, _⟩ := h
        have hs : site ∉ ids := hnew site (by simp)
        simp only [V.rep, V.repI] at hv
        subst hv
        refine ⟨_, w, G, setGh τ site ⟨none, none, 0, 0⟩, .inl rfl, ?_, ?_, Ext.refl _ _ _ _, fun i hi => setGh_ne fun e => hs (e ▸ hi)⟩
        · simp only [V.rep, setGh_same, Gh.part]
          exact ⟨none, rfl, Nat.le_refl _, Nat.le_refl _, .inl rfl⟩
        · have hst : ∀ i p, putSt st [(site, some (E.Obj.blk n [] 0))] i = some p → (i = site ∧ p = .blk n [] 0) ∨ (i ≠ site ∧ st i = some p) := by
            intro i p h
            simp only [putSt] at h
            by_cases hi : i = site
            · subst hi; simp at h; exact .inl ⟨rfl, h.symm⟩
            · have : (i == site) = false := by simpa using hi
              simp only [this, cond_false] at h; exact .inr ⟨hi, h⟩
          refine ⟨hm.gold, fun i p h => ?_, fun i p b h hb => ?_, fun i j p q b k1 k2 hb1 hb2 => ?_⟩
          · rcases hst i p h with ⟨e1, e2⟩ | ⟨n1, h⟩
            · rw [e1, e2]; simp only [Obj.ok, rowsOk, setGh_same]; exact ⟨trivial, Nat.le_refl _, .inl ⟨trivial, trivial, trivial⟩⟩
            · exact Obj.ok_mono (fun b hb => ⟨hb, rfl⟩) (fun b _ => ⟨rfl, fun h => h⟩) (setGh_ne n1) (fun j hj => setGh_ne fun e => hs (e ▸ (hc i p h).2 j hj)) (hm.ok i p h)
          · rcases hst i p h with ⟨e1, _⟩ | ⟨n1, h⟩
            · rw [e1, setGh_same] at hb; simp at hb
            · rw [setGh_ne n1] at hb; exact hm.own i p b h hb
          · rcases hst i p k1 with ⟨e1, _⟩ | ⟨n1, k1⟩ <;> rcases hst j q k2 with ⟨e2, _⟩ | ⟨n2, k2⟩
            · rw [e1, e2]
            · rw [e1, setGh_same] at hb1; simp at hb1
            · rw [e2, setGh_same] at hb2; simp at hb2
            · rw [setGh_ne n1] at hb1; rw [setGh_ne n2] at hb2; exact hm.inj i j p q b k1 k2 hb1 hb2
      · rename_i n q tl _
        simp only [T.run, Option.some.injEq, Prod.mk.injEq] at h
        obtain ⟨rfl, _⟩ := h
        simp only [V.rep, V.repI] at hv
        refine OpRes.pure hm rfl ?_
        simp only [V.rep, V.repI]
        exact ⟨none, 0, hv, Nat.le_refl _, .inl trivial⟩
      · rename_i n tl _ _
        simp only [T.run, Option.some.injEq, Prod.mk.injEq] at h
        obtain ⟨rfl, _⟩ := h
        have hs : site ∉ ids := hnew site (by simp)
        simp only [V.rep, V.repI] at hv
        subst hv
        refine ⟨_, w, G, setGh τ site ⟨none, none, 0, 0⟩, .inl rfl, ?_, ?_, Ext.refl _ _ _ _, fun i hi => setGh_ne fun e => hs (e ▸ hi)⟩
        · simp only [V.rep, setGh_same, Gh.hdr]
        · have hst : ∀ i p, putSt st [(site, some (E.Obj.arr n []))] i = some p → (i = site ∧ p = .arr n []) ∨ (i ≠ site ∧ st i = some p) := by
            intro i p h
            simp only [putSt] at h
            by_cases hi : i = site
            · subst hi; simp at h; exact .inl ⟨rfl, h.symm⟩
            · have : (i == site) = false := by simpa using hi
              simp only [this, cond_false] at h; exact .inr ⟨hi, h⟩
          refine ⟨hm.gold, fun i p h => ?_, fun i p b h hb => ?_, fun i j p q b k1 k2 hb1 hb2 => ?_⟩
          · rcases hst i p h with ⟨e1, e2⟩ | ⟨n1, h⟩
            · rw [e1, e2]; simp only [Obj.ok, rowsOk, setGh_same]; exact ⟨rfl, Nat.le_refl _, .inl ⟨trivial, trivial, trivial⟩⟩
            · exact Obj.ok_mono (fun b hb => ⟨hb, rfl⟩) (fun b _ => ⟨rfl, fun h => h⟩) (setGh_ne n1) (fun j hj => setGh_ne fun e => hs (e ▸ (hc i p h).2 j hj)) (hm.ok i p h)
          · rcases hst i p h with ⟨e1, _⟩ | ⟨n1, h⟩
            · rw [e1, setGh_same] at hb; simp at hb
            · rw [setGh_ne n1] at hb; exact hm.own i p b h hb
          · rcases hst i p k1 with ⟨e1, _⟩ | ⟨n1, k1⟩ <;> rcases hst j q k2 with ⟨e2, _⟩ | ⟨n2, k2⟩
            · rw [e1, e2]
            · rw [e1, setGh_same] at hb1; simp at hb1
            · rw [e2, setGh_same] at hb2; simp at hb2
            · rw [setGh_ne n1] at hb1; rw [setGh_ne n2] at hb2; exact hm.inj i j p q b k1 k2 hb1 hb2
      · simp [T.run] at h
    · rename_i id
      obtain ⟨o, r, ho, h, _⟩ := run_ask h
      split at h
      · rename_i n rows tl
        simp only [T.run, Option.some.injEq, Prod.mk.injEq] at h
        obtain ⟨rfl, _⟩ := h
        simp only [V.rep] at hv
        refine ⟨x, w, giveG G τ st [id], τ, .inl rfl, ?_, Mem.give hm [id], Ext.give hm [id], fun _ _ => rfl⟩
        simp only [V.rep]
        rw [hv]
        exact repI_given hm (by simp) ho
      · rename_i n rows _
        simp only [T.run, Option.some.injEq, Prod.mk.injEq] at h
        obtain ⟨rfl, _⟩ := h
        have hs : site ∉ ids := hnew site (by simp)
        have hok := hm.ok id _ ho
        refine ⟨x, w, G, setGh τ site (τ id), .inl rfl, ?_, ?_, Ext.refl _ _ _ _, fun i hi => setGh_ne fun e => hs (e ▸ hi)⟩
        · simp only [V.rep, setGh_same] at hv ⊢; exact hv
        · refine Mem.move hm ho hc hs rfl rfl (fun _ _ => rfl) ?_
          exact Obj.ok_name rfl setGh_same hok
      · simp [T.run] at h
    · simp [T.run] at h

theorem evCap_res {P : Program} {base : Nat} {X G : Nat → Prop} {τ : Nat → Gh} {st : Nat → Option E.Obj} {w : World} {ids : List Nat} {v : V} {x : Value} {e : Eff} {rs : List Nat} {s : Sem Next}
    (hm : Mem base X G τ st w) (hv : v.rep w G τ x) (hs : ∀ a n c, x = .slice a n c → s.run P w = .ok (.value (.int .i64 c)) w) (h : (evCap v).run st = some (e, rs)) : OpRes P base X ids G τ st w s e := by
  unfold evCap at h
  split at h
  · rename_i id n a b
    obtain ⟨o, r, ho, h, _⟩ := run_ask h
    split at h
    · rename_i n2 rows c
      simp only [T.run, Option.some.injEq, Prod.mk.injEq] at h
      obtain ⟨rfl, _⟩ := h
      have hok := hm.ok id _ ho
      simp only [Obj.ok] at hok
      simp only [V.rep] at hv
      obtain ⟨ad, hx, _⟩ := hv
      rw [hok.1] at hx
      exact OpRes.pure hm (hs _ _ _ hx) (by simp only [V.rep, V.repI])
    · simp [T.run] at h
  · simp only [T.run, Option.some.injEq, Prod.mk.injEq] at h
    obtain ⟨rfl, _⟩ := h
    simp only [V.rep, V.repI] at hv
    exact OpRes.pure hm (hs _ _ _ hv) (by simp only [V.rep, V.repI]; rfl)
  · simp [T.run] at h

theorem srcRows_res {P : Program} {base : Nat} {X G : Nat → Prop} {τ : Nat → Gh} {st : Nat → Option E.Obj} {w : World} {id n lim room : Nat} {o : E.Obj} {rows S : List (List V)} {ps : List Prop} {v : V} {x : Value} {rs : List Nat}
    (hm : Mem base X G τ st w) (ho : st id = some o) (hpt : o.parts = some (n, rows, lim)) (hv : v.rep w G τ x) (h : (srcRows id n rows room v).run st = some ((S, ps), rs)) (hp : ∀ p ∈ ps, p) :
    ∃ (len : Nat) (xs : List Value), (Builtin.lenOf x).run P w = .ok len w ∧ S.length = Nat.min len room ∧ (Builtin.firstCells n S.length x).run P w = .ok xs.toArray w ∧ repIL w G S.flatten xs ∧ ∀ r ∈ S, r.length = n := by
  have fromPart : ∀ {id2 a2 b2 lim2 : Nat} {o2 : E.Obj} {rows2 : List (List V)}, st id2 = some o2 → o2.parts = some (n, rows2, lim2) → (τ id2).part n a2 b2 x → a2 + min room (b2 - a2) ≤ rows2.length →
      ∃ (len : Nat) (xs : List Value), (Builtin.lenOf x).run P w = .ok len w ∧ ((rows2.drop a2).take (min room (b2 - a2))).length = Nat.min len room ∧ (Builtin.firstCells n ((rows2.drop a2).take (min room (b2 - a2))).length x).run P w = .ok xs.toArray w ∧
        repIL w G ((rows2.drop a2).take (min room (b2 - a2))).flatten xs ∧ ∀ r ∈ (rows2.drop a2).take (min room (b2 - a2)), r.length = n := by
    intro id2 a2 b2 lim2 o2 rows2 ho2 hp2 hx hk
    obtain ⟨xs, q1, q2, q3, q4⟩ := part_read (P := P) (k := min room (b2 - a2)) hm ho2 hp2 hx hk
    obtain ⟨ad, rfl, _⟩ := hx
    exact ⟨b2 - a2, xs, rfl, by rw [q3]; exact Nat.min_comm _ _, by rw [q3]; exact q1 w rfl, q2, q4⟩
  have fromTake : ∀ {rows2 : List (List V)} {a : Option Addr} {c : Nat}, x = .slice a rows2.length c → (rows2 = [] ∨ ∃ b o, a = some ⟨b, o, none⟩ ∧ repRows w G n b o rows2) →
      ∃ (len : Nat) (xs : List Value), (Builtin.lenOf x).run P w = .ok len w ∧ (rows2.take room).length = Nat.min len room ∧ (Builtin.firstCells n (rows2.take room).length x).run P w = .ok xs.toArray w ∧
        repIL w G (rows2.take room).flatten xs ∧ ∀ r ∈ rows2.take room, r.length = n := by
    intro rows2 a c hx hr
    subst hx
    refine ⟨rows2.length, ?_⟩
    rcases hr with rfl | ⟨b, o, rfl, hr⟩
    · refine ⟨[], rfl, by simp [Nat.min_def], ?_, by simp [repIL], by simp⟩
      cases a with
      | none => rfl
      | some A => simp only [List.take_nil, List.length_nil, Builtin.firstCells, Nat.zero_mul]; rfl
    · have k1 := repRows_cut (l := 0) (h := room) hr
      simp only [List.drop_zero, Nat.zero_mul, Nat.add_zero] at k1
      obtain ⟨xs, q1, q2, q3⟩ := repRows_flat k1
      refine ⟨xs, rfl, by rw [List.length_take]; exact Nat.min_comm _ _, ?_, q1, repRows_len k1⟩
      simp only [Builtin.firstCells]
      rw [← q2]
      exact run_loadCells_list w _ xs fun j y hj => by rw [add_plain]; exact q3 j y hj
  unfold srcRows at h
  split at h
  · rename_i id2 n2 a2 b2
    simp only [V.rep] at hv
    cases hid : id2 == id with
    | true =>
      simp only [hid, cond_true] at h
      cases hn : n2 == n with
      | false => simp only [hn, cond_false, T.run, reduceCtorEq] at h
      | true =>
        simp only [hn, cond_true, T.run, Option.some.injEq, Prod.mk.injEq] at h
        obtain ⟨⟨rfl, rfl⟩, _⟩ := h
        have e1 : id2 = id := by simpa using hid
        have e2 : n2 = n := by simpa using hn
        subst e1 e2
        exact fromPart ho hpt hv (hp _ (by simp))
    | false =>
      simp only [hid, cond_false] at h
      obtain ⟨o2, r, ho2, h, _⟩ := run_ask h
      split at h
      · rename_i m rows2 lim2 hp2
        cases hn : n2 == n && m == n with
        | false => simp only [hn, cond_false, T.run, reduceCtorEq] at h
        | true =>
          simp only [hn, cond_true, T.run, Option.some.injEq, Prod.mk.injEq] at h
          obtain ⟨⟨rfl, rfl⟩, _⟩ := h
          simp only [Bool.and_eq_true, beq_iff_eq] at hn
          obtain ⟨e1, e2⟩ := hn
          subst e1 e2
          exact fromPart ho2 hp2 hv (hp _ (by simp))
      · simp [T.run] at h
  · rename_i n2 rows2
    cases hn : n2 == n with
    | false => simp only [hn, cond_false, T.run, reduceCtorEq] at h
    | true =>
      simp only [hn, cond_true, T.run, Option.some.injEq, Prod.mk.injEq] at h
      obtain ⟨⟨rfl, rfl⟩, _⟩ := h
      have e1 : n2 = n := by simpa using hn
      subst e1
      simp only [V.rep, V.repI] at hv
      obtain ⟨a, c, hx, hle, hr⟩ := hv
      refine fromTake hx ?_
      rcases hr with hr | ⟨b, o, h1, _, h2⟩
      · exact .inl hr
      · exact .inr ⟨b, o, h1, h2⟩
  · simp only [T.run, Option.some.injEq, Prod.mk.injEq] at h
    obtain ⟨⟨rfl, rfl⟩, _⟩ := h
    simp only [V.rep, V.repI] at hv
    subst hv
    exact ⟨0, [], rfl, by simp [Nat.min_def], rfl, by simp [repIL], by simp⟩
  · rename_i id2
    cases hid : id2 == id with
    | true => simp only [hid, cond_true, T.run, reduceCtorEq] at h
    | false =>
      simp only [hid, cond_false] at h
      obtain ⟨o2, r, ho2, h, _⟩ := run_ask h
      split at h
      · rename_i m rows2
        cases hn : m == n with
        | false => simp only [hn, cond_false, T.run, reduceCtorEq] at h
        | true =>
          simp only [hn, cond_true, T.run, Option.some.injEq, Prod.mk.injEq] at h
          obtain ⟨⟨rfl, rfl⟩, _⟩ := h
          have e1 : m = n := by simpa using hn
          subst e1
          have hok := hm.ok id2 _ ho2
          simp only [Obj.ok] at hok
          simp only [V.rep, Gh.hdr, hok.1] at hv
          refine fromTake hv ?_
          rcases hok.2.2 with ⟨_, _, e3⟩ | ⟨b, _, _, _, _, e2, _, _, _, _, e7⟩
          · left; have := hok.2.1; apply List.eq_nil_of_length_eq_zero; omega
          · exact .inr ⟨b, 0, e2, e7⟩
      · simp [T.run] at h
  · simp [T.run] at h

/-- Where a part's writes go. -/
theorem part_addr {w : World} {G : Nat → Prop} {g : Gh} {n a b : Nat} {rows new : List (List V)} {ad : Option Addr} {A : Addr} (hro : rowsOk w G g n rows) (h : ad = g.adr.map (·.add (a * n)) ∨ (a = g.cap ∧ 0 < a)) (hb : b ≤ g.cap) (hn : new.length ≤ b - a) (hA : ad = some A) :
    new = [] ∨ ∃ blk, g.blk = some blk ∧ A = ⟨blk, a * n, none⟩ := by
  by_cases hz : new = []
  · exact .inl hz
  · have hl : 0 < new.length := List.length_pos_iff.2 hz
    rcases h with h | h
    · rcases hro.2 with ⟨_, e2, _⟩ | ⟨blk, _, _, _, e1, e2, _⟩
      · rw [h, e2] at hA; simp at hA
      · rw [h, e2] at hA
        simp only [Option.map_some, add_plain, Nat.zero_add, Option.some.injEq] at hA
        exact .inr ⟨blk, e1, hA.symm⟩
    · omega

theorem evCopy_res {P : Program} {base : Nat} {X G : Nat → Prop} {τ : Nat → Gh} {st : Nat → Option E.Obj} {w : World} {ids : List Nat} {t u ty : TypeId} {dv sv : V} {dx sx : Value} {e : Eff} {rs : List Nat}
    (hm : Mem base X G τ st w) (hd : dv.rep w G τ dx) (hs : sv.rep w G τ sx) (h : (evCopy P t dv sv).run st = some (e, rs)) (hp : ∀ p ∈ e.obs, p) :
    OpRes P base X ids G τ st w (do pure (Next.value (← Builtin.copy_ #[t, u] ty #[dx, sx]))) e := by
  unfold evCopy at h
  split at h
  · rename_i id n a b el k he
    obtain ⟨hu, hn⟩ := elemOfSlice_spec he
    obtain ⟨o, r, ho, h, _⟩ := run_ask h
    split at h
    · rename_i m rows lim hpt
      cases hmn : m == n && k == n with
      | false => simp only [hmn, cond_false, T.run, reduceCtorEq] at h
      | true =>
        simp only [hmn, cond_true] at h
        simp only [Bool.and_eq_true, beq_iff_eq] at hmn
        obtain ⟨e1, e2⟩ := hmn
        subst e1 e2
        obtain ⟨⟨S, ps⟩, r1, r2, h1, h2, _⟩ := T.run_bind_some h
        simp only [T.run, Option.some.injEq, Prod.mk.injEq] at h2
        obtain ⟨rfl, _⟩ := h2
        have p0 : a ≤ rows.length := hp _ (by simp)
        have p1 : b ≤ lim := hp _ (by simp)
        obtain ⟨len, xs, q1, q2, q3, q4, q5⟩ := srcRows_res (P := P) hm ho hpt hs h1 (fun p h => hp p (by simp [h]))
        obtain ⟨hro, g1, g2⟩ := parts_ok (hm.ok id o ho) hpt
        simp only [V.rep] at hd
        obtain ⟨ad, rfl, d1, d2, d3⟩ := hd
        have hSl : S.length ≤ b - a := by rw [q2]; exact Nat.min_le_right _ _
        obtain ⟨w', s1, s2, s3, s4, s5⟩ := write_part (a := a) P hm ho hpt q5 q4 p0 (by omega)
        refine ⟨.int .i64 (S.length : Int), w', G, τ, .inl (run_v ?_), by simp only [V.rep, V.repI], s4, s5, fun _ _ => rfl⟩
        simp only [Builtin.copy_, show (#[t, u] : Array TypeId)[0]? = some t from rfl, show (#[Value.slice ad (b - a) ((τ id).cap - a), sx] : Array Value)[0]? = some (.slice ad (b - a) ((τ id).cap - a)) from rfl,
          show (#[Value.slice ad (b - a) ((τ id).cap - a), sx] : Array Value)[1]? = some sx from rfl, Sem.run_bind, run_underlying hu, Result.andThen_ok, q1, ← q2, szOf_run hn w, q3]
        cases had : ad with
        | none =>
          have hw : w' = w := by
            rcases d3 with d3 | d3
            · rcases hro.2 with ⟨_, _, e3⟩ | ⟨blk, _, _, _, _, e2, _⟩
              · exact s3 e3
              · rw [e2, had] at d3; simp at d3
            · exact s2 (by apply List.eq_nil_of_length_eq_zero; omega)
          rw [hw]; rfl
        | some A =>
          have := s1 A (part_addr hro d3 (by omega) hSl had)
          simp only [Sem.run_bind, this, Result.andThen_ok]; rfl
    · simp [T.run] at h
  · simp [T.run] at h

theorem zeros_rep {P : Program} {w : World} {G : Nat → Prop} {t : TypeId} {z : List V} {n : Nat} (hz : zeroOf P t = some z) (hzl : z.length = n) (k : Nat) : ∃ z0 : Value, (zeroValue t).run P w = .ok z0 w ∧ z0.cells.size = n ∧
    repIL w G (List.replicate k z).flatten (Builtin.zeroCells z0.cells k).toList ∧ (Builtin.zeroCells z0.cells k).toList.length = k * n := by
  obtain ⟨z0, hz0, hz1, hz2⟩ := zeroOf_run hz w
  have hzn : z0.cells.size = n := by rw [hz1] at hzl; simpa using hzl
  have hlen : (List.replicate k z).flatten.length = k * n := by rw [flat_len (n := n) _ (fun r hr => by rw [List.eq_of_mem_replicate hr]; exact hzl)]; simp
  have hlen2 : (Builtin.zeroCells z0.cells k).toList.length = k * n := by rw [Array.length_toList, zeroCells_size, hzn]
  refine ⟨z0, hz0, hzn, repIL_of_get (by rw [hlen, hlen2]) fun j c x hjc hjx => ?_, hlen2⟩
  have hjlt : j < k * n := by rw [← hlen]; exact (List.getElem?_eq_some_iff.1 hjc).1
  rw [flat_replicate_get z k j (by rw [hzl]; exact hjlt)] at hjc
  have hn0 : 0 < n := by rcases Nat.eq_zero_or_pos n with h | h
                         · subst h; simp at hjlt
                         · exact h
  have hmod : j % n < n := Nat.mod_lt _ hn0
  have hx : x = z0.cells[j % z0.cells.size]! := by
    simp only [Builtin.zeroCells] at hjx
    rw [Array.getElem?_toList, Array.getElem?_map, Array.getElem?_range, if_pos (by rw [hzn]; exact hjlt)] at hjx
    simp only [Option.map_some, Option.some.injEq] at hjx
    exact hjx.symm
  have hin : j % z0.cells.size < z0.cells.size := by rw [hzn]; exact hmod
  have hx' : z0.cells[j % z0.cells.size]! = z0.cells[j % z0.cells.size] := by simp [hin]
  rw [hz1, List.length_map, Array.length_toList, List.getElem?_map, Array.getElem?_toList, Array.getElem?_eq_getElem hin] at hjc
  simp only [Option.map_some, Option.some.injEq] at hjc
  rw [hx, hx', ← hjc]
  exact ⟨repI_ofCell _, hz2 _ (by simp)⟩

theorem evClear_res {P : Program} {base : Nat} {X G : Nat → Prop} {τ : Nat → Gh} {st : Nat → Option E.Obj} {w : World} {ids : List Nat} {t ty : TypeId} {v : V} {x : Value} {e : Eff} {rs : List Nat}
    (hm : Mem base X G τ st w) (hv : v.rep w G τ x) (h : (evClear P t v).run st = some (e, rs)) (hp : ∀ p ∈ e.obs, p) :
    OpRes P base X ids G τ st w (do pure (Next.value (← Builtin.clear_ #[t] ty #[x]))) e := by
  unfold evClear at h
  split at h
  · rename_i id n a b el k z he hz
    obtain ⟨hu, hn⟩ := elemOfSlice_spec he
    rw [elemOf_spec he] at hz
    obtain ⟨o, r, ho, h, _⟩ := run_ask h
    split at h
    · rename_i m rows lim hpt
      cases hmn : m == n && (k == n && z.length == n) with
      | false => simp only [hmn, cond_false, T.run, reduceCtorEq] at h
      | true =>
        simp only [hmn, cond_true, T.run, Option.some.injEq, Prod.mk.injEq] at h
        obtain ⟨rfl, _⟩ := h
        simp only [Bool.and_eq_true, beq_iff_eq] at hmn
        obtain ⟨e1, e2, e3⟩ := hmn
        subst e1 e2
        have p0 : a ≤ rows.length := hp _ (by simp)
        have p1 : b ≤ lim := hp _ (by simp)
        obtain ⟨hro, g1, g2⟩ := parts_ok (hm.ok id o ho) hpt
        simp only [V.rep] at hv
        obtain ⟨ad, rfl, d1, d2, d3⟩ := hv
        obtain ⟨z0, y1, y2, y3, y4⟩ := zeros_rep (w := w) (G := G) hz e3 (b - a)
        obtain ⟨w', s1, s2, s3, s4, s5⟩ := write_part (a := a) (new := List.replicate (b - a) z) P hm ho hpt (fun r hr => by rw [List.eq_of_mem_replicate hr]; exact e3) y3 p0 (by simp; omega)
        refine ⟨.tuple #[], w', G, τ, .inl (run_v ?_), by simp only [V.rep], s4, s5, fun _ _ => rfl⟩
        by_cases hba : b - a = 0
        · have hw : w' = w := s2 (by rw [hba]; rfl)
          rw [hw, hba]
          cases ad with
          | none =>
            simp only [Builtin.clear_, show (#[t] : Array TypeId)[0]? = some t from rfl, show (#[Value.slice none 0 ((τ id).cap - a)] : Array Value)[0]? = some (.slice none 0 ((τ id).cap - a)) from rfl, Sem.run_bind, run_underlying hu, Result.andThen_ok]
            rfl
          | some A =>
            simp only [Builtin.clear_, show (#[t] : Array TypeId)[0]? = some t from rfl, show (#[Value.slice (some A) 0 ((τ id).cap - a)] : Array Value)[0]? = some (.slice (some A) 0 ((τ id).cap - a)) from rfl, Sem.run_bind, run_underlying hu, Result.andThen_ok]
            rfl
        · cases had : ad with
          | none =>
            exfalso
            rcases d3 with d3 | d3
            · rcases hro.2 with ⟨_, _, e3⟩ | ⟨blk, _, _, _, _, e2, _⟩
              · omega
              · rw [e2, had] at d3; simp at d3
            · omega
          | some A =>
            have := s1 A (part_addr hro d3 (by omega) (by simp) had)
            obtain ⟨q, hq⟩ : ∃ q, b - a = q + 1 := ⟨b - a - 1, by omega⟩
            rw [hq] at this ⊢
            simp only [Builtin.clear_, show (#[t] : Array TypeId)[0]? = some t from rfl, show (#[Value.slice (some A) (q + 1) ((τ id).cap - a)] : Array Value)[0]? = some (.slice (some A) (q + 1) ((τ id).cap - a)) from rfl, Sem.run_bind, run_underlying hu, Result.andThen_ok, y1, this]
            rfl
    · simp [T.run] at h
  · simp [T.run] at h

theorem evAppendIn_res {P : Program} {base : Nat} {X G : Nat → Prop} {τ : Nat → Gh} {st : Nat → Option E.Obj} {w : World} {ids : List Nat} {t u ty : TypeId} {id n a b : Nat} {v : V} {bx x : Value} {e : Eff} {rs : List Nat}
    (hm : Mem base X G τ st w) (hb : (V.vw id n a b).rep w G τ bx) (hv : v.rep w G τ x) (h : (evAppendIn P t u id n a b v).run st = some (e, rs)) (hp : ∀ p ∈ e.obs, p) :
    OpRes P base X ids G τ st w (do pure (Next.value (← Builtin.append_ #[t, u] ty #[bx, x]))) e := by
  unfold evAppendIn at h
  split at h
  · rename_i el k el2 k2 he he2
    obtain ⟨hu, hn⟩ := elemOfSlice_spec he
    obtain ⟨hu2, hn2⟩ := elemOfSlice_spec he2
    obtain ⟨o, r, ho, h, _⟩ := run_ask h
    split at h
    · rename_i m rows lim hpt
      cases hmn : m == n && (k == n && k2 == n) with
      | false => simp only [hmn, cond_false, T.run, reduceCtorEq] at h
      | true =>
        simp only [hmn, cond_true] at h
        simp only [Bool.and_eq_true, beq_iff_eq] at hmn
        obtain ⟨e1, e2, e3⟩ := hmn
        subst e1 e2
        split at h
        · rename_i id2 n2 a2 b2 hvv
          cases hid : id2 == id && n2 == k with
          | false => simp only [hid, cond_false, T.run, reduceCtorEq] at h
          | true =>
            simp only [hid, cond_true, T.run, Option.some.injEq, Prod.mk.injEq] at h
            obtain ⟨rfl, _⟩ := h
            simp only [Bool.and_eq_true, beq_iff_eq] at hid
            obtain ⟨f1, f2⟩ := hid
            subst f1 f2
            have p0 : b ≤ rows.length := hp _ (by simp)
            have p1 : b2 ≤ rows.length := hp _ (by simp)
            have p2 : b + (b2 - a2) ≤ lim := hp _ (by simp)
            obtain ⟨hro, g1, g2⟩ := parts_ok (hm.ok id2 o ho) hpt
            simp only [V.rep] at hb hv
            have hv' := hv
            obtain ⟨ad2, hx2, c1, c2, _⟩ := hv'
            obtain ⟨xs, q1, q2, q3, q4⟩ := part_read (P := P) (k := b2 - a2) hm ho hpt hv (by omega)
            obtain ⟨ad, rfl, d1, d2, d3⟩ := hb
            obtain ⟨w', s1, s2, s3, s4, s5⟩ := write_part (a := b) P hm ho hpt q4 q2 p0 (by rw [q3]; exact p2)
            refine ⟨.slice ad (b - a + (b2 - a2)) ((τ id2).cap - a), w', G, τ, .inl (run_v ?_), ?_, s4, s5, fun _ _ => rfl⟩
            · have hne : P.underlying u = some (.slice el2) := hu2
              have hlen : (Builtin.lenOf x).run P w = .ok (b2 - a2) w := by rw [hx2]; rfl
              have hfit : b - a + (b2 - a2) ≤ (τ id2).cap - a := by omega
              simp only [Builtin.append_, show (#[t, u] : Array TypeId)[0]? = some t from rfl, show (#[Value.slice ad (b - a) ((τ id2).cap - a), x] : Array Value)[0]? = some (.slice ad (b - a) ((τ id2).cap - a)) from rfl,
                show (#[Value.slice ad (b - a) ((τ id2).cap - a), x] : Array Value)[1]? = some x from rfl, Sem.run_bind, run_underlying hu, Result.andThen_ok, szOf_run hn w]
              simp only [show (#[t, u] : Array TypeId)[1]? = some u from rfl, Sem.run_bind, run_underlying hne, Sem.run_pure, Result.andThen_ok, Bool.false_eq_true, if_false, hlen, Bool.not_false, if_true, if_pos hfit, q1 w rfl]
              cases had : ad with
              | none =>
                have hw : w' = w := by
                  rcases d3 with d3 | d3
                  · rcases hro.2 with ⟨_, _, e3⟩ | ⟨blk, _, _, _, _, e2, _⟩
                    · exact s3 e3
                    · rw [e2, had] at d3; simp at d3
                  · exact s2 (by apply List.eq_nil_of_length_eq_zero; rw [q3]; omega)
                rw [hw]; rfl
              | some A =>
                have hA : (rows.drop a2).take (b2 - a2) = [] ∨ ∃ blk, (τ id2).blk = some blk ∧ A.add ((b - a) * n2) = ⟨blk, b * n2, none⟩ := by
                  by_cases hz : b2 - a2 = 0
                  · left; rw [hz]; simp
                  · right
                    rcases d3 with d3 | d3
                    · rcases hro.2 with ⟨_, e2, _⟩ | ⟨blk, _, _, _, e1, e2, _⟩
                      · rw [d3, e2] at had; simp at had
                      · rw [d3, e2] at had
                        simp only [Option.map_some, add_plain, Nat.zero_add, Option.some.injEq] at had
                        refine ⟨blk, e1, ?_⟩
                        rw [← had, add_plain, ← Nat.add_mul]
                        congr 2; omega
                    · omega
                have := s1 _ hA
                simp only [Sem.run_bind, this, Result.andThen_ok]; rfl
            · simp only [V.rep]
              exact ⟨ad, by congr 1; omega, by omega, by omega, d3⟩
        · simp [T.run] at h
    · simp [T.run] at h
  · simp [T.run] at h

theorem appendTo_new {P : Program} {st : Nat → Option E.Obj} {site n : Nat} {el : TypeId} {bv : V} {new : List (List V)} {e : Eff} {rs : List Nat} (h : (appendTo P site el n bv new).run st = some (e, rs)) : site ∈ e.new := by
  revert h
  unfold appendTo
  split
  · intro h2; simp only [T.run, Option.some.injEq, Prod.mk.injEq] at h2; obtain ⟨rfl, _⟩ := h2; simp
  · intro h2
    obtain ⟨o, r, _, h3, _⟩ := run_ask h2
    split at h3
    · rename_i m rows _
      cases hmn : m == n with
      | false => simp only [hmn, cond_false, T.run, reduceCtorEq] at h3
      | true => simp only [hmn, cond_true, T.run, Option.some.injEq, Prod.mk.injEq] at h3; obtain ⟨rfl, _⟩ := h3; simp
    · simp [T.run] at h3
  · intro h2; simp [T.run] at h2

theorem evAppendVw_res {P : Program} {base : Nat} {X G : Nat → Prop} {τ : Nat → Gh} {st : Nat → Option E.Obj} {w : World} {ids : List Nat} {site : Nat} {t u ty : TypeId} {bv : V} {id2 n2 a2 b2 : Nat} {bx x : Value} {e : Eff} {rs : List Nat}
    (hm : Mem base X G τ st w) (hbase : base ≤ w.heap.size) (hc : Closed ids st) (hnew : ∀ i ∈ e.new, i ∉ ids) (hb : bv.rep w G τ bx) (hv : (V.vw id2 n2 a2 b2).rep w G τ x)
    (h : (evAppendVw P site t u bv id2 n2 a2 b2).run st = some (e, rs)) (hp : ∀ p ∈ e.obs, p) :
    OpRes P base X ids G τ st w (do pure (Next.value (← Builtin.append_ #[t, u] ty #[bx, x]))) e := by
  unfold evAppendVw at h
  split at h
  · rename_i el n d z he hd hz
    rw [elemOf_spec he] at hz
    cases hq : Nat.ble 1 n && (z.length == n && (Nat.ble 1 (bytesOf P el) && n2 == n)) with
    | false => simp only [hq, cond_false, T.run, reduceCtorEq] at h
    | true =>
      simp only [hq, cond_true] at h
      simp only [Bool.and_eq_true, beq_iff_eq] at hq
      obtain ⟨_, f2, f3, f4⟩ := hq
      have f3' := Nat.le_of_ble_eq_true f3
      subst f4
      obtain ⟨o, r, ho, h, _⟩ := run_ask h
      split at h
      · rename_i m rows lim hpt
        cases hmn : m == n2 with
        | false => simp only [hmn, cond_false, T.run, reduceCtorEq] at h
        | true =>
          simp only [hmn, cond_true] at h
          have hmn' : m = n2 := by simpa using hmn
          subst hmn'
          obtain ⟨e0, r1, r2, h1, h2, _⟩ := T.run_bind_some h
          simp only [T.run, Option.some.injEq, Prod.mk.injEq] at h2
          obtain ⟨rfl, _⟩ := h2
          have p0 : b2 ≤ rows.length := hp _ (by simp)
          have hsite : site ∉ ids := hnew site (show site ∈ e0.new from appendTo_new h1)
          simp only [V.rep] at hv
          have hv' := hv
          obtain ⟨ad2, hx2, c1, c2, _⟩ := hv'
          obtain ⟨xs, q1, q2, q3, q4⟩ := part_read (P := P) (k := b2 - a2) hm ho hpt hv (by omega)
          have hl : (Builtin.lenOf x).run P w = .ok ((rows.drop a2).take (b2 - a2)).length w := by rw [hx2, q3]; rfl
          obtain ⟨x', w', G', τ', k1, k2, k3, k4, k5⟩ := append_core (ty := ty) (xs := xs) hm hbase hc hsite hb he hz f2 (.inr ⟨_, hd⟩) f3' hl (by rw [q3]; exact q1) q2 (by rw [← repIL_length q2, flat_len _ q4]) q4 h1 (fun p hp' => hp p (by simp [hp']))
          exact ⟨x', w', G', τ', k1, k2, k3, k4, k5⟩
      · simp [T.run] at h
  · simp [T.run] at h

theorem evGrow_res {P : Program} {base : Nat} {X G : Nat → Prop} {τ : Nat → Gh} {st : Nat → Option E.Obj} {w : World} {ids : List Nat} {site : Nat} {t u ty : TypeId} {id n a b : Nat} {bx : Value} {x : Int} {e : Eff} {rs : List Nat}
    (hm : Mem base X G τ st w) (hbase : base ≤ w.heap.size) (hc : Closed ids st) (hnew : ∀ i ∈ e.new, i ∉ ids) (hb : (V.vw id n a b).rep w G τ bx) (hu2 : isIntT P u = true) (h : (evGrow P site t id n a b x).run st = some (e, rs)) (hp : ∀ p ∈ e.obs, p) :
    OpRes P base X ids G τ st w (do pure (Next.value (← Builtin.append_ #[t, u] ty #[bx, .int .i64 x]))) e := by
  unfold evGrow at h
  split at h
  · rename_i el k he
    obtain ⟨hu, hn⟩ := elemOfSlice_spec he
    split at h
    · rename_i z hz
      obtain ⟨o, r, ho, h, _⟩ := run_ask h
      split at h
      · rename_i m rows c
        cases hmn : m == n && (k == n && (z.length == n && (Nat.ble 1 n && Nat.ble 1 (bytesOf P el)))) with
        | false => simp only [hmn, cond_false, T.run, reduceCtorEq] at h
        | true =>
          simp only [hmn, cond_true, T.run, Option.some.injEq, Prod.mk.injEq] at h
          obtain ⟨rfl, _⟩ := h
          simp only [Bool.and_eq_true, beq_iff_eq] at hmn
          obtain ⟨e1, e2, e3, e4, e5⟩ := hmn
          subst e1 e2
          have e4' := Nat.le_of_ble_eq_true e4
          have e5' := Nat.le_of_ble_eq_true e5
          have p0 : b ≤ rows.length := hp _ (by simp)
          have p1 : 0 ≤ x := hp _ (by simp)
          have p2 : c < b + x.toNat := hp _ (by simp)
          have p3 : (b - a + x.toNat) * bytesOf P el ≤ 2 ^ 47 := hp _ (by simp)
          have hs : site ∉ ids := hnew site (by simp)
          have hpt : (E.Obj.blk k rows c).parts = some (k, rows, c) := rfl
          have hok := hm.ok id _ ho
          simp only [Obj.ok] at hok
          obtain ⟨q, rfl⟩ : ∃ q : Nat, x = (q : Int) := ⟨x.toNat, by omega⟩
          simp only [Int.toNat_natCast] at p2 p3 ⊢
          simp only [V.rep] at hb
          obtain ⟨xs, y1, y2, y3, y4⟩ := part_read (P := P) (k := b - a) hm ho hpt hb (by obtain ⟨_, _, d1, _⟩ := hb; omega)
          obtain ⟨ad, rfl, d1, d2, d3⟩ := hb
          have hq : b - a + q ≤ 2 ^ 47 := Nat.le_trans (by have := Nat.mul_le_mul_left (b - a + q) e5'; omega) p3
          have hwr : IntKind.i64.wrap (q : Int) = (q : Int) := Go.IntWalk.i64_in _ (by constructor <;> omega)
          obtain ⟨i, hi, hib⟩ := bytesOf_run hn w
          obtain ⟨z0, hz0, hzn, _, _⟩ := zeros_rep (w := w) (G := G) hz e3 q
          have hi' : (typeInfo el).run P w.drew = .ok i w.drew := by
            have : P.info? el = some i := by
              unfold typeInfo at hi
              simp only [Sem.run_bind, run_program, Result.andThen_ok] at hi
              cases hq : P.info? el with
              | none => simp [hq] at hi
              | some j => simp only [hq, Sem.run_pure, Result.ok.injEq] at hi; rw [hi.1]
            simp [typeInfo, this]
          have hzz : (zeroValue el).run P w.drew = .ok z0 w.drew := by
            obtain ⟨z1, hz1', _, _⟩ := zeroOf_run hz w.drew
            have h3 := hz0
            have h4 := hz1'
            unfold zeroValue at h3 h4 ⊢
            simp only [Sem.run_bind, hi, hi', Result.andThen_ok] at h3 h4 ⊢
            cases hq : i.zero with
            | none => simp [hq] at h3
            | some j => simp only [hq, Sem.run_pure, Result.ok.injEq] at h3 ⊢; exact ⟨h3.1, trivial⟩
          obtain ⟨_, _, hzr, hzl⟩ : ∃ z1 : Value, True ∧ repIL w G (List.replicate q z).flatten (Builtin.zeroCells z0.cells q).toList ∧ (Builtin.zeroCells z0.cells q).toList.length = q * k := by
            obtain ⟨z1, g1, _, g3, g4⟩ := zeros_rep (w := w) (G := G) hz e3 q
            rw [hz0] at g1
            cases g1
            exact ⟨z0, trivial, g3, g4⟩
          have hxl : xs.length = (b - a) * k := by rw [← repIL_length y2, flat_len _ y4, y3]
          have hrows : (rows.take b).drop a = (rows.drop a).take (b - a) := by rw [List.drop_take]
          have hcap : ¬ (b - a + q ≤ (τ id).cap - a) := by omega
          have hgb := grow_bound p3 (cap := (τ id).cap - a) (by omega)
          have hrl : ((rows.take b).drop a ++ List.replicate q z).length = b - a + q := by rw [hrows, List.length_append, y3]; simp
          have hall : ∀ rw ∈ (rows.take b).drop a ++ List.replicate q z, rw.length = k := by
            intro rw hrw
            rw [List.mem_append] at hrw
            rcases hrw with hrw | hrw
            · rw [hrows] at hrw; exact y4 rw hrw
            · rw [List.eq_of_mem_replicate hrw]; exact e3
          have hge : b - a + q ≤ (Question.appendCap (b - a + q) ((τ id).cap - a) el).cut (w.tape w.drawn (.appendCap (b - a + q) ((τ id).cap - a) el)) := by show b - a + q ≤ b - a + q + _; omega
          generalize hnc : (Question.appendCap (b - a + q) ((τ id).cap - a) el).cut (w.tape w.drawn (.appendCap (b - a + q) ((τ id).cap - a) el)) = nc at hge
          refine arr_new (ws := []) (w1 := w.drew) (c := xs.toArray ++ Builtin.zeroCells z0.cells q ++ Builtin.zeroCells z0.cells (nc - (b - a + q))) (cap := nc) (t := el) (fz := (0, 0)) hm (Ext.refl _ _ _ _) hbase hc hs rfl rfl rfl rfl hall (by rw [hrl]; exact hge) ?_ (fun i _ hi => by omega) ?_ (run_v ?_)
          · simp only [Array.size_append, List.size_toArray, zeroCells_size, hzn, hxl]
            rw [← Nat.add_mul, ← Nat.add_mul]; congr 1; omega
          · rw [hrl]
            simp only [Array.toList_append]
            rw [List.take_left' (by rw [List.length_append, hzl, Nat.add_mul, ← hxl])]
            rw [List.flatten_append, hrows]
            exact repIL_append y2 hzr
          · obtain ⟨kk, hkk⟩ : ∃ kk, P.underlying u = some (.int kk) := by
              unfold isIntT at hu2
              split at hu2
              · rename_i kk hk; exact ⟨kk, hk⟩
              · simp at hu2
            rw [hrl]
            simp only [Builtin.append_, show (#[t, u] : Array TypeId)[0]? = some t from rfl, show (#[Value.slice ad (b - a) ((τ id).cap - a), .int .i64 (q : Int)] : Array Value)[0]? = some (.slice ad (b - a) ((τ id).cap - a)) from rfl,
              show (#[Value.slice ad (b - a) ((τ id).cap - a), .int .i64 (q : Int)] : Array Value)[1]? = some (.int .i64 (q : Int)) from rfl, Sem.run_bind, run_underlying hu, Result.andThen_ok, szOf_run hn w]
            simp only [show (#[t, u] : Array TypeId)[1]? = some u from rfl, Sem.run_bind, run_underlying hkk, Sem.run_pure, Result.andThen_ok, if_true, asInt, asIntOf, hwr, hi, hib, Bool.not_true, Bool.false_eq_true, if_false]
            rw [if_neg (by omega)]
            simp only [Sem.run_bind, hi, Result.andThen_ok, hib]
            rw [if_neg (by have : ((q : Int) * (bytesOf P el : Int)) = ((q * bytesOf P el : Nat) : Int) := by push_cast; rfl
                           rw [this]; have := Nat.mul_le_mul_right (bytesOf P el) (show q ≤ b - a + q by omega); omega)]
            simp only [Sem.run_pure, Result.andThen_ok, Int.toNat_natCast, if_neg hcap, Sem.run_bind, hi, hib, true_or, and_true]
            rw [if_neg (by have : IntKind.i64.max = 9223372036854775807 := rfl
                           rw [this]; omega)]
            simp only [Sem.run_bind, hi, Result.andThen_ok, hib, if_neg hgb]
            simp only [run_choose_drew, Question.forced, Bool.false_eq_true, if_false, Result.andThen_ok, hi', hib, run_askRoom, Sem.run_bind, y1 w.drew rfl, hzz, newRow, run_newObj_alloc, Sem.run_pure, hnc]
            by_cases h0 : q * k = 0
            · rw [if_pos h0]
              have hz1 : Builtin.zeroCells z0.cells q = #[] := by
                apply Array.eq_empty_of_size_eq_zero; rw [zeroCells_size, hzn]; exact h0
              rw [hz1]
              simp only [Sem.run_pure, Result.andThen_ok, hzz, Sem.run_bind, run_newObj_alloc]
              rfl
            · rw [if_neg h0]
              simp only [Sem.run_bind, hzz, Sem.run_pure, Result.andThen_ok, run_newObj_alloc]
              rfl
      · simp [T.run] at h
    · simp [T.run] at h
  · simp [T.run] at h

/-- A slice that is owned and a part of another one do not meet. -/
theorem overlaps_run {P : Program} {base : Nat} {X G : Nat → Prop} {τ : Nat → Gh} {st : Nat → Option E.Obj} {w : World} {id id2 n a b lim : Nat} {o : E.Obj} {rows r2 : List (List V)} {x y : Value} {g : FuncId}
    (hm : Mem base X G τ st w) (ho1 : st id2 = some (.arr n rows)) (ho : st id = some o) (hid : id2 ≠ id) (hpt : o.parts = some (n, r2, lim)) (hx : (V.own id2).rep w G τ x) (hy : (V.vw id n a b).rep w G τ y)
    (hg : IsOverlaps P g n) (hr : 0 < rows.length) (hab : a < b) :
    (callFunc g #[x, y]).run P w = .ok (.value (.bool false)) w := by
  obtain ⟨fn, t, r, el, f1, f2, f3, f4, f5, f6, f7, f8⟩ := hg
  rw [run_callFunc_extern f1 f2 f3 f4 f5]
  simp only [V.rep, Gh.hdr] at hx hy
  obtain ⟨ad, rfl, d1, d2, d3⟩ := hy
  obtain ⟨hro, _, _⟩ := parts_ok (hm.ok id o ho) hpt
  have hok1 := hm.ok id2 _ ho1
  simp only [Obj.ok] at hok1
  rcases hro.2 with ⟨_, e2, e3⟩ | ⟨bb, ys, ty, fz, e1, e2, e3, e4, e5, e6, _⟩
  · omega
  · rcases hok1.2.2 with ⟨_, h2, h3⟩ | ⟨bx, xs, tx, fx, h1, h2, h3, h4, h5, h6, _⟩
    · have := hok1.2.1; omega
    · have hB : ad = some ⟨bb, a * n, none⟩ := by
        rcases d3 with d3 | d3
        · rw [e2] at d3; simpa [add_plain] using d3
        · omega
      subst hB
      rw [h2] at hx
      subst hx
      have hne : bx ≠ bb := fun e => hid (hm.inj id2 id _ o bx ho1 ho h1 (e ▸ e1))
      have hmul : (a + 1) * n ≤ (τ id).cap * n := Nat.mul_le_mul_right n (by omega)
      rw [Nat.add_mul] at hmul
      have free : ∀ i, i ≤ xs.size → w.frozen? ⟨bx, i, none⟩ = false := by
        intro i hi
        have := h5 i (by omega)
        simp only [World.frozen?, h3]
        rw [Bool.and_eq_false_iff, decide_eq_false_iff_not, decide_eq_false_iff_not]
        by_cases h : fx.1 ≤ i
        · exact .inr fun h2 => this ⟨h, h2⟩
        · exact .inl h
      rw [Lib.run_overlaps_apart w t r el f6 n (fun w => szOf_run f7 w) ⟨bx, 0, none⟩ ⟨bb, a * n, none⟩ _ _ _ _ hne tx ty xs.size ys.size (by simp [World.shape?, h3]) (by simp [World.shape?, e3]) (by omega) (free 0 (by omega)) (free xs.size (Nat.le_refl _))]
      rfl

theorem recastW_spec : ∀ {ws ws' : List (Nat × Option E.Obj)} {r : List (List V)} {ps : List Prop}, recastW ws r = some (ws', ps) → (∀ p ∈ ps, p) → ws' = ws
  | [], _, _, _, h, _ => by simp [recastW] at h
  | [(i, none)], _, _, _, h, _ => by simp [recastW] at h
  | [(i, some (.box cs))], _, _, _, h, _ => by simp [recastW] at h
  | [(i, some (.arr n r0))], _, r, _, h, hp => by
    simp only [recastW, Option.some.injEq, Prod.mk.injEq] at h
    obtain ⟨rfl, rfl⟩ := h
    have : r0 = r := hp _ (by simp)
    rw [this]
  | [(i, some (.blk n r0 c))], _, r, _, h, hp => by
    simp only [recastW, Option.some.injEq, Prod.mk.injEq] at h
    obtain ⟨rfl, rfl⟩ := h
    have : r0 = r := hp _ (by simp)
    rw [this]
  | x :: y :: l, ws', r, ps, h, hp => by
    simp only [recastW] at h
    split at h
    · rename_i l' ps' hl
      simp only [Option.some.injEq, Prod.mk.injEq] at h
      obtain ⟨rfl, rfl⟩ := h
      rw [recastW_spec hl hp]
    · simp at h

theorem recast_spec {st : Nat → Option E.Obj} : ∀ {as : List Ans} {e e' : Eff} {rs : List Nat}, (recast as e).run st = some (e', rs) → (∀ p ∈ e'.obs, p) → e'.v = e.v ∧ e'.ws = e.ws ∧ e'.new = e.new ∧ ∀ p ∈ e.obs, p
  | [], e, e', rs, h, hp => by
    simp only [recast, T.run, Option.some.injEq, Prod.mk.injEq] at h
    obtain ⟨rfl, _⟩ := h
    exact ⟨rfl, rfl, rfl, hp⟩
  | a :: as, e, e', rs, h, hp => by
    simp only [recast] at h
    obtain ⟨e1, r1, r2, h1, h2, _⟩ := T.run_bind_some h
    obtain ⟨k1, k2, k3, k4⟩ := recast_spec h2 hp
    have : e1.v = e.v ∧ e1.ws = e.ws ∧ e1.new = e.new ∧ ∀ p ∈ e.obs, p := by
      unfold recast1 at h1
      split at h1
      · split at h1
        · rename_i k x k' y hv
          cases hk : decide (k = k') with
          | false => simp only [hk, cond_false, T.run, reduceCtorEq] at h1
          | true =>
            simp only [hk, cond_true, T.run, Option.some.injEq, Prod.mk.injEq] at h1
            obtain ⟨rfl, _⟩ := h1
            have hxy : x = y := k4 _ (by simp)
            have hkk : k = k' := of_decide_eq_true hk
            exact ⟨by simp only [hv, hxy, hkk], rfl, rfl, fun p hpm => k4 p (by simp [hpm])⟩
        · rename_i x y hv
          simp only [T.run, Option.some.injEq, Prod.mk.injEq] at h1
          obtain ⟨rfl, _⟩ := h1
          have hxy : x = y := k4 _ (by simp)
          exact ⟨by simp only [hv, hxy], rfl, rfl, fun p hpm => k4 p (by simp [hpm])⟩
        · rename_i n x n' y hv
          cases hk : n == n' with
          | false => simp only [hk, cond_false, T.run, reduceCtorEq] at h1
          | true =>
            simp only [hk, cond_true, T.run, Option.some.injEq, Prod.mk.injEq] at h1
            obtain ⟨rfl, _⟩ := h1
            have hxy : x = y := k4 _ (by simp)
            have hkk : n = n' := by simpa using hk
            exact ⟨by simp only [hv, hxy, hkk], rfl, rfl, fun p hpm => k4 p (by simp [hpm])⟩
        · rename_i id n a b id' n' a' b' hv
          cases hk : id == id' && n == n' with
          | false => simp only [hk, cond_false, T.run, reduceCtorEq] at h1
          | true =>
            simp only [hk, cond_true, T.run, Option.some.injEq, Prod.mk.injEq] at h1
            obtain ⟨rfl, _⟩ := h1
            have ha : a = a' := k4 _ (by simp)
            have hb : b = b' := k4 _ (by simp)
            simp only [Bool.and_eq_true, beq_iff_eq] at hk
            exact ⟨by simp only [hv, ha, hb, hk.1, hk.2], rfl, rfl, fun p hpm => k4 p (by simp [hpm])⟩
        · simp [T.run] at h1
      · split at h1
        · rename_i ws ps hw
          simp only [T.run, Option.some.injEq, Prod.mk.injEq] at h1
          obtain ⟨rfl, _⟩ := h1
          exact ⟨rfl, recastW_spec hw (fun p hpm => k4 p (by simp [hpm])), rfl, fun p hpm => k4 p (by simp [hpm])⟩
        · simp [T.run] at h1
      · simp only [T.run, Option.some.injEq, Prod.mk.injEq] at h1
        obtain ⟨rfl, _⟩ := h1
        exact ⟨rfl, rfl, rfl, k4⟩
    exact ⟨k1.trans this.1, k2.trans this.2.1, k3.trans this.2.2.1, this.2.2.2⟩

end Go.Proofs.Ytfpdlamjlbpmkaa.E
