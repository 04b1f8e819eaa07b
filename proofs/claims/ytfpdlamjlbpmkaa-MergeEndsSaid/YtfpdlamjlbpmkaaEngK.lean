/- The engine, part K: appends and makes, whole. -/
import Derived.Test.YtfpdlamjlbpmkaaEngJ
namespace Go.Proofs.Ytfpdlamjlbpmkaa.E
open Go
set_option linter.unusedSimpArgs false

theorem repIL_one {w : World} {G : Nat → Prop} : ∀ {cs : List V} {xs : List Value}, repIL w G cs xs → ∀ x ∈ xs, x.oneCell' = true
  | [], [], _, x, hx => by simp at hx
  | [], _ :: _, hr, _, _ => by simp only [repIL] at hr
  | _ :: _, [], hr, _, _ => by simp only [repIL] at hr
  | c :: cs, x :: xs, hr, y, hy => by
    simp only [repIL] at hr
    rcases List.mem_cons.1 hy with rfl | hy
    · exact hr.1.2
    · exact repIL_one hr.2 y hy

theorem elemOf_spec {P : Program} {t e : TypeId} {n : Nat} (h : elemOfSlice P t = some (e, n)) : elemOf P t = e := by
  have := (elemOfSlice_spec h).1
  simp [elemOf, this]

/-- What append comes to, from what it appends. -/
theorem append_core {P : Program} {base : Nat} {X G : Nat → Prop} {τ : Nat → Gh} {st : Nat → Option E.Obj} {w : World} {ids : List Nat} {site n : Nat} {t u el ty : TypeId} {bv : V} {bx x : Value} {new : List (List V)} {xs : List Value} {z : List V} {e : Eff} {rs : List Nat}
    (hm : Mem base X G τ st w) (hbase : base ≤ w.heap.size) (hc : Closed ids st) (hs : site ∉ ids) (hb : bv.rep w G τ bx)
    (he : elemOfSlice P t = some (el, n)) (hz : zeroOf P el = some z) (hzl : z.length = n) (hd : P.underlying u = some .string ∨ ∃ e, P.underlying u = some (.slice e)) (hb1 : 1 ≤ bytesOf P el)
    (hlen : (Builtin.lenOf x).run P w = .ok new.length w) (hnew : ∀ w1 : World, w1.heap = w.heap → (Builtin.firstCells n new.length x).run P w1 = .ok xs.toArray w1)
    (hr : repIL w G new.flatten xs) (hnl : xs.length = new.length * n) (hnn : ∀ r ∈ new, r.length = n)
    (h : (appendTo P site el n bv new).run st = some (e, rs)) (hp : ∀ p ∈ e.obs, p) :
    OpRes P base X ids G τ st w (do pure (Next.value (← Builtin.append_ #[t, u] ty #[bx, x]))) e := by
  obtain ⟨hu, hn⟩ := elemOfSlice_spec he
  have h1 := repIL_one hr
  unfold appendTo at h
  split at h
  · simp only [T.run, Option.some.injEq, Prod.mk.injEq] at h
    obtain ⟨rfl, _⟩ := h
    have hsz : new.length * bytesOf P el ≤ 2 ^ 47 := hp _ (by simp)
    simp only [V.rep, V.repI] at hb
    subst hb
    rcases run_append (P := P) (w := w) (sT := t) (uT := u) (ty := ty) (len := 0) (cap := 0) (base := none) (x := x) (old := []) hu hn hz hzl hd hb1 hlen hnew (fun _ _ => rfl) (by simp) hnl (by simpa using hsz) with ⟨hle, hrun⟩ | ⟨hlt, c, cap, g1, g2, g3, hrun⟩
    · have h0 : new = [] := by apply List.eq_nil_of_length_eq_zero; omega
      subst h0
      refine ⟨_, w, G, setGh τ site ⟨none, none, 0, 0⟩, .inl (run_v (hrun w (fun _ h => by simp at h) (fun _ => rfl))), ?_, ?_, Ext.refl _ _ _ _, fun i hi => setGh_ne fun e => hs (e ▸ hi)⟩
      · simp only [V.rep, setGh_same, Gh.hdr]; rfl
      · have hst : ∀ i p, putSt st [(site, some (E.Obj.arr n []))] i = some p → (i = site ∧ p = .arr n []) ∨ (i ≠ site ∧ st i = some p) := by
          intro i p h
          simp only [putSt] at h
          by_cases hi : i = site
          · subst hi; simp at h; exact .inl ⟨rfl, h.symm⟩
          · have : (i == site) = false := by simpa using hi
            simp only [this, cond_false] at h; exact .inr ⟨hi, h⟩
        refine ⟨hm.gold, fun i p h => ?_, fun i p b h hb => ?_, fun i j p q b k1 k2 hb1 hb2 => ?_⟩
        · rcases hst i p h with ⟨e1, e2⟩ | ⟨n1, h⟩
          · rw [e1, e2]; simp only [Obj.ok, rowsOk, setGh_same]; exact ⟨rfl, Nat.le_refl _, .inl ⟨trivial, trivial, trivial⟩⟩
          · exact Obj.ok_mono (fun b hb => ⟨hb, rfl⟩) (fun b _ => ⟨rfl, fun h => h⟩) (setGh_ne n1) (fun j hj => setGh_ne fun e => hs (e ▸ (hc i p h).2 j hj)) (hm.ok i p h)
        · rcases hst i p h with ⟨e1, _⟩ | ⟨n1, h⟩
          · rw [e1, setGh_same] at hb; simp at hb
          · rw [setGh_ne n1] at hb; exact hm.own i p b h hb
        · rcases hst i p k1 with ⟨e1, _⟩ | ⟨n1, k1⟩ <;> rcases hst j q k2 with ⟨e2, _⟩ | ⟨n2, k2⟩
          · rw [e1, e2]
          · rw [e1, setGh_same] at hb1; simp at hb1
          · rw [e2, setGh_same] at hb2; simp at hb2
          · rw [setGh_ne n1] at hb1; rw [setGh_ne n2] at hb2; exact hm.inj i j p q b k1 k2 hb1 hb2
    · simp only [Nat.zero_add, List.nil_append] at g1 g3 hrun
      exact arr_new (ws := []) (w1 := w.drew) (cap := cap) (t := el) (fz := (0, 0)) hm (Ext.refl _ _ _ _) hbase hc hs rfl rfl rfl rfl hnn g1 g2 (fun i _ hi => by omega) (by rw [g3]; exact hr) (run_v hrun)
  · rename_i id
    obtain ⟨o, r, ho, hh, _⟩ := run_ask h
    clear h
    split at hh
    · rename_i m rows
      cases hmn : m == n with
      | false => simp only [hmn, cond_false, T.run, reduceCtorEq] at hh
      | true =>
        simp only [hmn, cond_true, T.run, Option.some.injEq, Prod.mk.injEq] at hh
        obtain ⟨rfl, _⟩ := hh
        have hmn' : m = n := by simpa using hmn
        subst hmn'
        have hsz : (rows.length + new.length) * bytesOf P el ≤ 2 ^ 47 := hp _ (by simp)
        simp only [V.rep, Gh.hdr] at hb
        have hok := hm.ok id _ ho
        simp only [Obj.ok, rowsOk] at hok
        obtain ⟨q1, q2, q3⟩ := hok
        rw [q1] at hb
        -- the old cells
        have hold : ∃ old : List Value, (∀ w1 : World, w1.heap = w.heap → (Builtin.firstCells m rows.length bx).run P w1 = .ok old.toArray w1) ∧ repIL w G rows.flatten old ∧ old.length = rows.length * m ∧ ∀ r ∈ rows, r.length = m := by
          have hrun : (rowsAt m (.own id)).run st = some (rows, [id]) := by simp [rowsAt, T.run, ho]
          obtain ⟨a, c, _, xs, k1, k2, k3, k4⟩ := rowsAt_res (P := P) hm (v := .own id) (x := bx) (by simp only [V.rep, Gh.hdr, q1]; exact hb) hrun
          exact ⟨xs, k1, k2, k3, k4⟩
        obtain ⟨old, k1, k2, k3, k4⟩ := hold
        subst hb
        rcases run_append (P := P) (w := w) (sT := t) (uT := u) (ty := ty) (len := rows.length) (cap := (τ id).cap) (base := (τ id).adr) (x := x) (old := old) hu hn hz hzl hd hb1 hlen hnew k1 k3 hnl hsz with ⟨hle, hrun⟩ | ⟨hlt, c, cap, g1, g2, g3, hrun⟩
        · -- in its place
          rcases q3 with ⟨e1, e2, e3⟩ | ⟨b, ys, tt, fz, e1, e2, e3, e4, e5, e6, e7⟩
          · have hn0 : new = [] := by apply List.eq_nil_of_length_eq_zero; omega
            have hr0 : rows = [] := by apply List.eq_nil_of_length_eq_zero; omega
            subst hn0 hr0
            refine ⟨_, w, G, setGh τ site ⟨none, none, 0, 0⟩, .inl (run_v (hrun w (fun a h => by rw [e2] at h; simp at h) (fun _ => rfl))), ?_, ?_, Ext.refl _ _ _ _, fun i hi => setGh_ne fun e => hs (e ▸ hi)⟩
            · simp only [V.rep, setGh_same, Gh.hdr, e2, e3]; rfl
            · refine Mem.move hm ho hc hs (by rw [e1]) rfl (fun _ _ => rfl) ?_
              simp only [Obj.ok, rowsOk, setGh_same]
              exact ⟨rfl, Nat.le_refl _, .inl ⟨trivial, trivial, trivial⟩⟩
          · have hmul : (rows.length + new.length) * m ≤ (τ id).cap * m := Nat.mul_le_mul_right m hle
            rw [Nat.add_mul] at hmul
            have hfit : rows.length * m + xs.length ≤ ys.size := by rw [e6, hnl]; exact hmul
            have hstore := run_storeCells_free P b (rows.length * m) tt fz xs 0 ys w e3 (e5.le (by omega)) (by simpa using hfit) h1
            have hsp : (ys.toList.take (rows.length * m + 0) ++ xs ++ ys.toList.drop (rows.length * m + 0 + xs.length)).toArray = splicedA ys (rows.length * m) xs := by simp [splicedA]
            rw [hsp] at hstore
            have hrun2 := hrun (w.setRow b (splicedA ys (rows.length * m) xs)) (fun a ha => by rw [e2] at ha; cases ha; rw [add_plain]; simpa using hstore) (fun h => by rw [e2] at h; simp at h)
            have hG' : ∀ j, G j → G j ∧ (w.setRow b (splicedA ys (rows.length * m) xs)).heap[j]? = w.heap[j]? := fun j hj => ⟨hj, setRow_other w b j _ (fun e => e4 (e ▸ hj))⟩
            refine ⟨_, _, G, setGh τ site ⟨some b, some ⟨b, 0, none⟩, rows.length + new.length, (τ id).cap⟩, .inl (run_v hrun2), ?_, ?_, Ext.setRow (hm.own id _ b ho e1) e4, fun i hi => setGh_ne fun e => hs (e ▸ hi)⟩
            · simp only [V.rep, setGh_same, Gh.hdr, e2]
            · refine Mem.move hm ho hc hs (by rw [e1]) (by simp) (fun k hk => setRow_other w b k _ (hk b e1)) ?_
              simp only [Obj.ok, rowsOk, setGh_same, List.length_append]
              refine ⟨trivial, hle, .inr ⟨b, _, tt, fz, rfl, rfl, setRow_heap w b ys _ tt fz e3, e4, by rw [splicedA_size hfit]; exact e5, by rw [splicedA_size hfit]; exact e6, ?_⟩⟩
              obtain ⟨zs, z1, z2, z3⟩ := repRows_flat e7
              refine repRows_content 0 (xs := zs ++ xs) (fun r hr' => ?_) ?_ (fun i y hy => ?_)
              · rcases List.mem_append.1 hr' with h | h
                · exact k4 r h
                · exact hnn r h
              · rw [List.flatten_append]
                exact repIL_append (repIL_mono hG' z1) (repIL_mono hG' hr)
              · rw [Nat.zero_add, cell_setRow_same w b i ys _ tt fz e3, splicedA_get hfit]
                rw [List.getElem?_append] at hy
                by_cases hi : i < zs.length
                · rw [if_pos hi] at hy
                  rw [if_neg (by omega)]
                  have := z3 i y hy
                  rw [Nat.zero_add, cell_of_heap e3] at this
                  exact this
                · rw [if_neg hi] at hy
                  have : i - zs.length < xs.length := (List.getElem?_eq_some_iff.1 hy).1
                  rw [if_pos (by omega), ← z2]; exact hy
        · -- in a new block
          have hkill : Mem base X G τ (putSt st [(id, none)]) w := by
            have hk : ∀ i p, putSt st [(id, none)] i = some p → st i = some p := by
              intro i p h
              simp only [putSt] at h
              by_cases hi : i = id
              · subst hi; simp at h
              · have : (i == id) = false := by simpa using hi
                simpa only [this, cond_false] using h
            exact ⟨hm.gold, fun i p h => hm.ok i p (hk i p h), fun i p b h => hm.own i p b (hk i p h), fun i j p q b h1 h2 => hm.inj i j p q b (hk i p h1) (hk j q h2)⟩
          refine arr_new (ws := [(id, none)]) (w1 := w.drew) (cap := cap) (t := el) (fz := (0, 0)) hkill (Ext.refl _ _ _ _) hbase (hc.kills [id]) hs rfl rfl rfl rfl (fun r hr' => ?_) (by simpa using g1) g2 (fun i _ hi => by omega) ?_ (run_v (by simpa using hrun))
          · rcases List.mem_append.1 hr' with h | h
            · exact k4 r h
            · exact hnn r h
          · rw [List.length_append, g3, List.flatten_append]
            exact repIL_append k2 hr
    · simp [T.run] at hh
  · simp [T.run] at h

theorem evAppend_res {P : Program} {base : Nat} {X G : Nat → Prop} {τ : Nat → Gh} {st : Nat → Option E.Obj} {w : World} {ids : List Nat} {site : Nat} {t u ty : TypeId} {bv v : V} {bx x : Value} {e : Eff} {rs : List Nat}
    (hm : Mem base X G τ st w) (hbase : base ≤ w.heap.size) (hc : Closed ids st) (hnew : ∀ i ∈ e.new, i ∉ ids) (hb : bv.rep w G τ bx) (hv : v.rep w G τ x)
    (h : (evAppend P site t u bv v).run st = some (e, rs)) (hp : ∀ p ∈ e.obs, p) :
    OpRes P base X ids G τ st w (do pure (Next.value (← Builtin.append_ #[t, u] ty #[bx, x]))) e := by
  unfold evAppend at h
  split at h
  · rename_i el n d z he hd hz
    rw [elemOf_spec he] at hz
    cases hq : Nat.ble 1 n && (z.length == n && Nat.ble 1 (bytesOf P el)) with
    | false => simp only [hq, cond_false, T.run, reduceCtorEq] at h
    | true =>
      simp only [hq, cond_true] at h
      simp only [Bool.and_eq_true, beq_iff_eq] at hq
      obtain ⟨_, b2, b3⟩ := hq
      have b3' := Nat.le_of_ble_eq_true b3
      obtain ⟨new, r1, r2, h1, h2, _⟩ := T.run_bind_some h
      have hsite : site ∉ ids := by
        refine hnew site ?_
        revert h2
        unfold appendTo
        split
        · intro h2; simp only [T.run, Option.some.injEq, Prod.mk.injEq] at h2; obtain ⟨rfl, _⟩ := h2; simp
        · intro h2
          obtain ⟨o, r, _, h3, _⟩ := run_ask h2
          split at h3
          · rename_i m rows _
            cases hmn : m == n with
            | false => simp only [hmn, cond_false, T.run, reduceCtorEq] at h3
            | true => simp only [hmn, cond_true, T.run, Option.some.injEq, Prod.mk.injEq] at h3; obtain ⟨rfl, _⟩ := h3; simp
          · simp [T.run] at h3
        · intro h2; simp [T.run] at h2
      split at h1
      · rename_i s
        cases hn1 : n == 1 with
        | false => simp only [hn1, cond_false, T.run, reduceCtorEq] at h1
        | true =>
          simp only [hn1, cond_true, T.run, Option.some.injEq, Prod.mk.injEq] at h1
          obtain ⟨rfl, _⟩ := h1
          have hn1' : n = 1 := by simpa using hn1
          subst hn1'
          simp only [V.rep, V.repI] at hv
          subst hv
          have hl : (strRows s).length = s.size := by simp [strRows]
          refine append_core (xs := s.data.toList.map fun b => .int .u8 b.toNat) hm hbase hc hsite hb he hz b2 (.inl hd) b3' (by rw [hl]; rfl) (fun w1 _ => ?_) (strRows_flat _) (by simp [strRows]) (by simp [strRows, intRow]) h2 hp
          simp only [Builtin.firstCells, hl, Sem.run_pure]
          congr 1
          apply Array.ext'
          have : s.extract 0 s.size = s := by
            apply ByteArray.ext
            simp [ByteArray.data_extract]
          rw [this]; simp
      · rename_i q y hns
        obtain ⟨a, c, hx, xs, k1, k2, k3, k4⟩ := rowsAt_res (P := P) hm hv h1
        exact append_core (xs := xs) hm hbase hc hsite hb he hz b2 (.inr ⟨_, hd⟩) b3' (by subst hx; rfl) k1 k2 k3 k4 h2 hp
      · simp [T.run] at h1
  · simp [T.run] at h

theorem flat_replicate_get {α : Type} (z : List α) : ∀ (k i : Nat), i < k * z.length → (List.replicate k z).flatten[i]? = z[i % z.length]?
  | 0, i, h => by simp at h
  | k + 1, i, h => by
    simp only [List.replicate_succ, List.flatten_cons]
    by_cases hi : i < z.length
    · rw [List.getElem?_append_left hi, Nat.mod_eq_of_lt hi]
    · have hs : (k + 1) * z.length = k * z.length + z.length := Nat.succ_mul _ _
      have hge : z.length ≤ i := by omega
      have hlt : i - z.length < k * z.length := by omega
      rw [List.getElem?_append_right hge, flat_replicate_get z k _ hlt, Nat.mod_eq_sub_mod hge]

theorem repIL_of_get {w : World} {G : Nat → Prop} : ∀ {cs : List V} {xs : List Value}, cs.length = xs.length → (∀ (i : Nat) (c : V) (x : Value), cs[i]? = some c → xs[i]? = some x → c.repI w G x ∧ x.oneCell' = true) → repIL w G cs xs
  | [], [], _, _ => by simp only [repIL]
  | [], _ :: _, h, _ => by simp at h
  | _ :: _, [], h, _ => by simp at h
  | c :: cs, x :: xs, h, hr => by
    simp only [repIL]
    exact ⟨hr 0 c x (by simp) (by simp), repIL_of_get (by simpa using h) fun i d y hd hy => hr (i + 1) d y (by simpa using hd) (by simpa using hy)⟩

theorem repI_ofCell {w : World} {G : Nat → Prop} (x : Value) : (ofCell x).repI w G x := by
  unfold ofCell; split <;> simp only [V.repI]

theorem evMakeSlice_res {P : Program} {base : Nat} {X G : Nat → Prop} {τ : Nat → Gh} {st : Nat → Option E.Obj} {w : World} {ids : List Nat} {site : Nat} {t : TypeId} {lv cv : V} {lx cx : Value} {e : Eff} {rs : List Nat}
    (hm : Mem base X G τ st w) (hbase : base ≤ w.heap.size) (hc : Closed ids st) (hnew : ∀ i ∈ e.new, i ∉ ids) (hl : lv.rep w G τ lx) (hcv : cv.rep w G τ cx) (h : (evMakeSlice P site t lv cv).run st = some (e, rs)) (hp : ∀ p ∈ e.obs, p) :
    OpRes P base X ids G τ st w (do pure (Next.value (← Instr.makeSlice t lx cx))) e := by
  unfold evMakeSlice at h
  split at h
  · rename_i el n l c he
    obtain ⟨hu, hn⟩ := elemOfSlice_spec he
    simp only [V.rep, V.repI] at hl hcv
    subst hl hcv
    split at h
    · rename_i z hz
      cases hb : Nat.ble 1 n && (z.length == n && Nat.ble 1 (bytesOf P el)) with
      | false => simp only [hb, cond_false, T.run, reduceCtorEq] at h
      | true =>
        simp only [hb, cond_true, T.run, Option.some.injEq, Prod.mk.injEq] at h
        obtain ⟨rfl, _⟩ := h
        simp only [Bool.and_eq_true, beq_iff_eq] at hb
        obtain ⟨b1, b2, b3⟩ := hb
        have b1' := Nat.le_of_ble_eq_true b1
        have b3' := Nat.le_of_ble_eq_true b3
        have p0 : l = c := hp _ (by simp)
        have p1 : 0 ≤ l := hp _ (by simp)
        have p2 : l.toNat * bytesOf P el ≤ 2 ^ 47 := hp _ (by simp)
        subst p0
        obtain ⟨z0, hz0, hz1, hz2⟩ := zeroOf_run hz w
        have hzn : z0.cells.size = n := by rw [hz1] at b2; simpa using b2
        obtain ⟨i, hi, hib⟩ := bytesOf_run hn w
        obtain ⟨k, rfl⟩ : ∃ k : Nat, l = (k : Int) := ⟨l.toNat, by omega⟩
        simp only [Int.toNat_natCast] at p2 ⊢
        have hk : k ≤ 2 ^ 47 := Nat.le_trans (by have := Nat.mul_le_mul_left k b3'; omega) p2
        have hwr : IntKind.i64.wrap (k : Int) = (k : Int) := Go.IntWalk.i64_in _ (by constructor <;> omega)
        have htl : (decide ((k : Int) < 0) || decide ((bytesOf P el : Int) * (k : Int) > 2 ^ 48)) = false := by
          rw [Bool.or_eq_false_iff, decide_eq_false_iff_not, decide_eq_false_iff_not]
          refine ⟨by omega, ?_⟩
          have : (bytesOf P el : Int) * (k : Int) = ((k * bytesOf P el : Nat) : Int) := by push_cast; rw [Int.mul_comm]
          rw [this]; omega
        have hlen : (List.replicate k z).flatten.length = k * n := by rw [flat_len (n := n) _ (fun r hr => by rw [List.eq_of_mem_replicate hr]; exact b2)]; simp
        refine arr_new (ws := []) (w1 := w) (c := (Array.range (k * n)).map (z0.cells[· % z0.cells.size]!)) (cap := k) (t := el) (fz := (0, 0)) hm (Ext.refl _ _ _ _) hbase hc (hnew site (by simp)) rfl rfl rfl rfl
          (fun r hr => by rw [List.eq_of_mem_replicate hr]; exact b2) (by simp) (by simp) (fun i _ hi => by omega) ?_ (run_v ?_)
        · refine repIL_of_get (by simp [hlen]) fun j c x hjc hjx => ?_
          have hjlt : j < k * n := by rw [← hlen]; exact (List.getElem?_eq_some_iff.1 hjc).1
          rw [flat_replicate_get z k j (by rw [b2]; exact hjlt)] at hjc
          have hmod : j % n < n := Nat.mod_lt _ (by omega)
          have hx : x = z0.cells[j % z0.cells.size]! := by
            simp only [List.length_replicate] at hjx
            rw [List.getElem?_take_of_lt hjlt] at hjx
            rw [Array.getElem?_toList, Array.getElem?_map, Array.getElem?_range, if_pos hjlt] at hjx
            simp only [Option.map_some, Option.some.injEq] at hjx
            exact hjx.symm
          have hin : j % z0.cells.size < z0.cells.size := by rw [hzn]; exact hmod
          have hx' : z0.cells[j % z0.cells.size]! = z0.cells[j % z0.cells.size] := by simp [hin]
          rw [hz1, List.length_map, Array.length_toList, List.getElem?_map, Array.getElem?_toList, Array.getElem?_eq_getElem hin] at hjc
          simp only [Option.map_some, Option.some.injEq] at hjc
          rw [hx, hx', ← hjc]
          exact ⟨repI_ofCell _, hz2 _ (by simp)⟩
        · simp only [Instr.makeSlice, Sem.run_bind, run_underlying hu, Result.andThen_ok, asInt, asIntOf, Sem.run_pure, hi, hib, hwr, htl, Bool.false_or, Int.toNat_natCast, szOf_run hn w]
          rw [if_neg (by simp)]
          simp only [Sem.run_bind, run_askRoom, Result.andThen_ok, szOf_run hn w]
          by_cases h0 : k * n = 0
          · simp [h0, newRow, Array.range_zero']
          · simp [h0, newRow, hz0]
    · simp [T.run] at h
  · simp [T.run] at h

end Go.Proofs.Ytfpdlamjlbpmkaa.E
