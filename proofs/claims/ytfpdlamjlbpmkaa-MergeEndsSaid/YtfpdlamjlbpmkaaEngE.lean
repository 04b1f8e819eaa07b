/- The engine, part E: memory: what keeps, what is new, what is written. -/
import Derived.Test.YtfpdlamjlbpmkaaEngD
import Derived.Laws.Tables
import Derived.Laws.CopyRow
import Derived.Laws.Cells
import Derived.Laws.NewFold
import Derived.ChangeKeysEq
namespace Go.Proofs.Ytfpdlamjlbpmkaa.E
open Go
set_option linter.unusedSimpArgs false

def repIL (w : World) (G : Nat → Prop) : List V → List Value → Prop
  | [], [] => True
  | c :: cs, x :: xs => (c.repI w G x ∧ x.oneCell' = true) ∧ repIL w G cs xs
  | [], _ :: _ => False
  | _ :: _, [] => False

theorem repIL_length {w : World} {G : Nat → Prop} : ∀ {cs : List V} {xs : List Value}, repIL w G cs xs → cs.length = xs.length
  | [], [], _ => rfl
  | [], _ :: _, hr => by simp only [repIL] at hr
  | _ :: _, [], hr => by simp only [repIL] at hr
  | c :: cs, x :: xs, hr => by simp only [repIL] at hr; simp [repIL_length hr.2]

theorem repIL_mono {w w' : World} {G G' : Nat → Prop} (h : ∀ b, G b → G' b ∧ w'.heap[b]? = w.heap[b]?) : ∀ {cs : List V} {xs : List Value}, repIL w G cs xs → repIL w' G' cs xs
  | [], [], _ => by simp only [repIL]
  | [], _ :: _, hr => by simp only [repIL] at hr
  | _ :: _, [], hr => by simp only [repIL] at hr
  | c :: cs, x :: xs, hr => by simp only [repIL] at hr ⊢; exact ⟨⟨repI_mono h c x hr.1.1, hr.1.2⟩, repIL_mono h hr.2⟩

theorem rep_of_repI {w : World} {G : Nat → Prop} {τ : Nat → Gh} {v : V} {x : Value} (h : v.repI w G x) : v.rep w G τ x := by
  cases v <;> first | (simp only [V.rep]; done) | (simp only [V.rep]; exact h) | (simp only [V.repI] at h)

theorem repL_of_repIL {w : World} {G : Nat → Prop} {τ : Nat → Gh} : ∀ {cs : List V} {xs : List Value}, repIL w G cs xs → repL w G τ cs xs
  | [], [], _ => by simp only [repL]
  | [], _ :: _, hr => by simp only [repIL] at hr
  | _ :: _, [], hr => by simp only [repIL] at hr
  | c :: cs, x :: xs, hr => by simp only [repIL] at hr; simp only [repL]; exact ⟨rep_of_repI hr.1.1, repL_of_repIL hr.2⟩

theorem repL_fixCells {w : World} {G : Nat → Prop} {τ : Nat → Gh} : ∀ {ks : List (Option Nat)} {cs : List V} {xs : List Value}, repL w G τ cs xs → repL w G τ (fixCells ks cs) xs
  | [], cs, xs, h => by simpa [fixCells] using h
  | k :: ks, [], xs, h => by cases k <;> simpa [fixCells] using h
  | k :: ks, c :: cs, [], h => by simp only [repL] at h
  | k :: ks, c :: cs, x :: xs, h => by
    simp only [repL] at h
    unfold fixCells
    split
    · rename_i n ks' cs' e1 e2
      simp only [List.cons.injEq] at e1 e2
      obtain ⟨_, rfl⟩ := e1
      obtain ⟨rfl, rfl⟩ := e2
      simp only [repL]
      refine ⟨?_, repL_fixCells h.2⟩
      have h1 := h.1
      simp only [V.rep, V.repI] at h1 ⊢
      exact ⟨none, 0, h1, Nat.le_refl _, .inl trivial⟩
    · rename_i e1 e2
      simp only [List.cons.injEq] at e1 e2
      obtain ⟨_, rfl⟩ := e1
      obtain ⟨rfl, rfl⟩ := e2
      simp only [repL]
      exact ⟨h.1, repL_fixCells h.2⟩
    · rename_i e1; simp at e1
    · rename_i e1; simp at e1

theorem repL_fixRow {P : Program} {t : TypeId} {w : World} {G : Nat → Prop} {τ : Nat → Gh} {cs : List V} {xs : List Value} (h : repL w G τ cs xs) : repL w G τ (fixRow P t cs) xs := by
  unfold fixRow
  split
  · exact repL_fixCells h
  · exact h

theorem rep_fixV {P : Program} {t : TypeId} {w : World} {G : Nat → Prop} {τ : Nat → Gh} {v : V} {x : Value} (h : v.rep w G τ x) : (fixV P t v).rep w G τ x := by
  unfold fixV
  split
  · split
    · simp only [V.rep] at h ⊢
      obtain ⟨xs, e, hr⟩ := h
      exact ⟨xs, e, repL_fixCells hr⟩
    · exact h
  · split
    · split
      · simp only [V.rep, V.repI] at h ⊢
        exact ⟨none, 0, h, Nat.le_refl _, .inl trivial⟩
      · exact h
    · exact h
  · exact h

theorem idsL_fixCells : ∀ {ks : List (Option Nat)} {cs : List V}, idsL (fixCells ks cs) = idsL cs
  | [], cs => by simp [fixCells]
  | k :: ks, [] => by cases k <;> simp [fixCells]
  | k :: ks, c :: cs => by
    unfold fixCells
    split
    · rename_i n ks' cs' e1 e2
      simp only [List.cons.injEq] at e1 e2
      obtain ⟨_, rfl⟩ := e1
      obtain ⟨rfl, rfl⟩ := e2
      simp only [idsL, V.ids, idsL_fixCells]
    · rename_i e1 e2
      simp only [List.cons.injEq] at e1 e2
      obtain ⟨_, rfl⟩ := e1
      obtain ⟨rfl, rfl⟩ := e2
      simp only [idsL, idsL_fixCells]
    · rename_i e1; simp at e1
    · rename_i e1; simp at e1

/-- Cells that lie one behind the other. -/
theorem repCells_of {w : World} {G : Nat → Prop} {b : Nat} : ∀ {cs : List V} {xs : List Value} (o : Nat), repIL w G cs xs → (∀ i x, xs[i]? = some x → w.cell? ⟨b, o + i, none⟩ = some x) → repCells w G b o cs
  | [], _, _, _, _ => by simp only [repCells]
  | _ :: _, [], _, hr, _ => by simp only [repIL] at hr
  | c :: cs, x :: xs, o, hr, h => by
    simp only [repIL] at hr
    simp only [repCells]
    refine ⟨⟨x, by simpa using h 0 x (by simp), hr.1.2, hr.1.1⟩, repCells_of (o + 1) hr.2 fun i y hy => ?_⟩
    have := h (i + 1) y (by simpa using hy)
    rwa [show o + (i + 1) = o + 1 + i by omega] at this

theorem repCells_get {w : World} {G : Nat → Prop} {b : Nat} : ∀ {cs : List V} {o : Nat}, repCells w G b o cs → ∃ xs : List Value, repIL w G cs xs ∧ ∀ i x, xs[i]? = some x → w.cell? ⟨b, o + i, none⟩ = some x
  | [], _, _ => ⟨[], by simp only [repIL], by simp⟩
  | c :: cs, o, h => by
    simp only [repCells] at h
    obtain ⟨⟨x, hx, ho, hc⟩, h⟩ := h
    obtain ⟨xs, h1, h2⟩ := repCells_get h
    refine ⟨x :: xs, by simp only [repIL]; exact ⟨⟨hc, ho⟩, h1⟩, fun i y hy => ?_⟩
    cases i with
    | zero => simp at hy; subst hy; simpa using hx
    | succ i =>
      have := h2 i y (by simpa using hy)
      rwa [show o + (i + 1) = o + 1 + i by omega]

theorem repRows_len {w : World} {G : Nat → Prop} {sz b : Nat} : ∀ {rows : List (List V)} {o : Nat}, repRows w G sz b o rows → ∀ r ∈ rows, r.length = sz
  | [], _, _, r, hr => by simp at hr
  | r :: rs, o, h, q, hq => by
    simp only [repRows] at h
    rcases List.mem_cons.1 hq with rfl | hq
    · exact h.1
    · exact repRows_len h.2.2 q hq

theorem repRows_get {w : World} {G : Nat → Prop} {sz b : Nat} : ∀ {rows : List (List V)} {o : Nat}, repRows w G sz b o rows → ∀ (i : Nat) (r : List V), rows[i]? = some r → r.length = sz ∧ repCells w G b (o + i * sz) r
  | [], _, _, i, r, hr => by simp at hr
  | r :: rs, o, h, 0, q, hq => by simp only [repRows] at h; simp at hq; subst hq; exact ⟨h.1, by simpa using h.2.1⟩
  | r :: rs, o, h, i + 1, q, hq => by
    simp only [repRows] at h
    obtain ⟨h1, h2⟩ := repRows_get h.2.2 i q (by simpa using hq)
    exact ⟨h1, by rwa [show o + (i + 1) * sz = o + sz + i * sz by rw [Nat.add_mul]; omega]⟩

theorem repRows_of {w : World} {G : Nat → Prop} {sz b : Nat} : ∀ {rows : List (List V)} {o : Nat}, (∀ (i : Nat) (r : List V), rows[i]? = some r → r.length = sz ∧ repCells w G b (o + i * sz) r) → repRows w G sz b o rows
  | [], _, _ => by simp only [repRows]
  | r :: rs, o, h => by
    simp only [repRows]
    refine ⟨(h 0 r (by simp)).1, by simpa using (h 0 r (by simp)).2, repRows_of fun i q hq => ?_⟩
    obtain ⟨h1, h2⟩ := h (i + 1) q (by simpa using hq)
    exact ⟨h1, by rwa [show o + sz + i * sz = o + (i + 1) * sz by rw [Nat.add_mul]; omega]⟩

theorem repCells_append {w : World} {G : Nat → Prop} {b : Nat} : ∀ {cs ds : List V} {o : Nat}, repCells w G b o (cs ++ ds) ↔ repCells w G b o cs ∧ repCells w G b (o + cs.length) ds
  | [], ds, o => by simp only [List.nil_append, repCells, true_and, List.length_nil, Nat.add_zero]
  | c :: cs, ds, o => by
    simp only [List.cons_append, repCells, List.length_cons]
    rw [repCells_append (cs := cs), show o + 1 + cs.length = o + (cs.length + 1) by omega]
    exact and_assoc.symm

/-! ### Objects -/

theorem rowsOk_mono {w w' : World} {G G' : Nat → Prop} {g : Gh} {n : Nat} {rows : List (List V)} (hG : ∀ b, G b → G' b ∧ w'.heap[b]? = w.heap[b]?)
    (hb : ∀ b, g.blk = some b → w'.heap[b]? = w.heap[b]? ∧ (G' b → G b)) (h : rowsOk w G g n rows) : rowsOk w' G' g n rows := by
  obtain ⟨h2, h3⟩ := h
  refine ⟨h2, ?_⟩
  rcases h3 with h3 | ⟨b, xs, t, fz, e1, e2, e3, e4, e5, e6, e7⟩
  · exact .inl h3
  · exact .inr ⟨b, xs, t, fz, e1, e2, by rw [(hb b e1).1]; exact e3, fun hg => e4 ((hb b e1).2 hg), e5, e6, repRows_mono hG n b (hb b e1).1 0 rows e7⟩

theorem Obj.ok_mono {w w' : World} {G G' : Nat → Prop} {τ τ' : Nat → Gh} {id : Nat} (hG : ∀ b, G b → G' b ∧ w'.heap[b]? = w.heap[b]?)
    (hb : ∀ b, (τ id).blk = some b → w'.heap[b]? = w.heap[b]? ∧ (G' b → G b)) (ht : τ' id = τ id) :
    ∀ {o : E.Obj}, (∀ j ∈ idsObj o, τ' j = τ j) → o.ok w G τ id → o.ok w' G' τ' id
  | .box cells, hi, h => by
    simp only [Obj.ok, rowsOk] at h ⊢
    obtain ⟨b, xs, t, fz, h1, h2, h3, h4, h5⟩ := h
    exact ⟨b, xs, t, fz, by rw [ht]; exact h1, by rw [(hb b h1).1]; exact h2, fun hg => h3 ((hb b h1).2 hg), h4, repL_mono hG cells xs.toList (fun i hc => hi i (by simpa only [idsObj] using hc)) h5⟩
  | .arr n rows, hi, h => by
    simp only [Obj.ok] at h ⊢
    rw [ht]
    exact ⟨h.1, rowsOk_mono hG hb h.2⟩
  | .blk n rows c, hi, h => by
    simp only [Obj.ok] at h ⊢
    rw [ht]
    exact ⟨h.1, rowsOk_mono hG hb h.2⟩

theorem idsObj_rows {o : E.Obj} (h : o.rowsB = true) : idsObj o = [] := by cases o <;> first | rfl | simp [Obj.rowsB] at h

theorem Obj.ok_name {w : World} {G : Nat → Prop} {τ τ' : Nat → Gh} {id j : Nat} {o : E.Obj} (h : o.rowsB = true) (ht : τ' j = τ id) (hok : o.ok w G τ id) : o.ok w G τ' j := by
  cases o with
  | box cells => simp [Obj.rowsB] at h
  | arr n rows => simp only [Obj.ok] at hok ⊢; rw [ht]; exact hok
  | blk n rows c => simp only [Obj.ok] at hok ⊢; rw [ht]; exact hok

/-- The names that a store of objects mentions are among some. -/
def Closed (ids : List Nat) (st : Nat → Option E.Obj) : Prop := ∀ i o, st i = some o → i ∈ ids ∧ ∀ j ∈ idsObj o, j ∈ ids

theorem Obj.ok_blk {w : World} {G : Nat → Prop} {τ : Nat → Gh} {id b : Nat} {o : E.Obj} (h : o.ok w G τ id) (hb : (τ id).blk = some b) : ¬ G b ∧ ∃ xs t fz, w.heap[b]? = some (.cells xs t fz) := by
  cases o with
  | box cells =>
    simp only [Obj.ok, rowsOk] at h
    obtain ⟨b', xs, t, fz, h1, h2, h3, _⟩ := h
    rw [hb] at h1; cases h1
    exact ⟨h3, xs, t, fz, h2⟩
  | arr n rows =>
    simp only [Obj.ok, rowsOk] at h
    rcases h.2.2 with h3 | ⟨b', xs, t, fz, e1, _, e3, e4, _⟩
    · rw [hb] at h3; simp at h3
    · rw [hb] at e1; cases e1
      exact ⟨e4, xs, t, fz, e3⟩
  | blk n rows c =>
    simp only [Obj.ok, rowsOk] at h
    rcases h.2.2 with h3 | ⟨b', xs, t, fz, e1, _, e3, e4, _⟩
    · rw [hb] at h3; simp at h3
    · rw [hb] at e1; cases e1
      exact ⟨e4, xs, t, fz, e3⟩

theorem lt_of_get {w : World} {b : Nat} {o : Go.Obj} (h : w.heap[b]? = some o) : b < w.heap.size := (Array.getElem?_eq_some_iff.1 h).1

theorem alloc_get (w : World) (o : Go.Obj) (b : Nat) (h : b < w.heap.size) : (w.alloc o).heap[b]? = w.heap[b]? := Go.RowKit.Below.heap_alloc w o b h

theorem alloc_new (w : World) (o : Go.Obj) : (w.alloc o).heap[w.heap.size]? = some o := by
  show (w.heap.push o)[w.heap.size]? = some o
  simp

theorem alloc_size (w : World) (o : Go.Obj) : (w.alloc o).heap.size = w.heap.size + 1 := by
  show (w.heap.push o).size = _
  simp

theorem Ext.alloc {base : Nat} {X G : Nat → Prop} {w : World} (hm : ∀ b, G b → b < w.heap.size) (hb : base ≤ w.heap.size) (o : Go.Obj) : Ext base X G w G (w.alloc o) :=
  ⟨rfl, rfl, rfl, by rw [alloc_size]; omega, fun b h _ => alloc_get w o b (by omega), fun b h => ⟨h, alloc_get w o b (hm b h)⟩, fun _ h => .inl h⟩

theorem Ext.drew {base : Nat} {X G : Nat → Prop} (w : World) : Ext base X G w G w.drew :=
  ⟨rfl, rfl, rfl, Nat.le_refl _, fun _ _ _ => rfl, fun _ h => ⟨h, rfl⟩, fun _ h => .inl h⟩

def setGh (τ : Nat → Gh) (i : Nat) (g : Gh) : Nat → Gh := fun j => if j = i then g else τ j

theorem setGh_ne {τ : Nat → Gh} {i j : Nat} {g : Gh} (h : j ≠ i) : setGh τ i g j = τ j := by simp [setGh, h]
theorem setGh_same {τ : Nat → Gh} {i : Nat} {g : Gh} : setGh τ i g i = g := by simp [setGh]

/-- A new block, and a new object there. -/
theorem Mem.new {base : Nat} {X G : Nat → Prop} {τ : Nat → Gh} {st : Nat → Option E.Obj} {w : World} {ids : List Nat} {site : Nat} {g : Gh} {o : E.Obj} {k : Go.Obj}
    (hm : Mem base X G τ st w) (hbase : base ≤ w.heap.size) (hc : Closed ids st) (hs : site ∉ ids) (hg : ∀ b, g.blk = some b → b = w.heap.size) (hok : o.ok (w.alloc k) G (setGh τ site g) site) :
    Mem base X G (setGh τ site g) (putSt st [(site, some o)]) (w.alloc k) := by
  have hst : ∀ i o', putSt st [(site, some o)] i = some o' → (i = site ∧ o' = o) ∨ (i ≠ site ∧ st i = some o') := by
    intro i o' h
    simp only [putSt] at h
    by_cases hi : i = site
    · subst hi; simp at h; exact .inl ⟨rfl, h.symm⟩
    · have : (i == site) = false := by simpa using hi
      simp only [this, cond_false] at h; exact .inr ⟨hi, h⟩
  have hne : ∀ i o', st i = some o' → i ≠ site := fun i o' h e => hs (e ▸ (hc i o' h).1)
  have hlt : ∀ i o' b, st i = some o' → (τ i).blk = some b → b < w.heap.size := fun i o' b h hb => by
    obtain ⟨_, xs, t, fz, h2⟩ := Obj.ok_blk (hm.ok i o' h) hb
    exact lt_of_get h2
  refine ⟨fun b hb => by rw [alloc_size]; have := hm.gold b hb; omega, fun i o' h => ?_, fun i o' b h hb => ?_, fun i j o1 o2 b h1 h2 hb1 hb2 => ?_⟩
  · rcases hst i o' h with ⟨rfl, rfl⟩ | ⟨hi, h⟩
    · exact hok
    · exact Obj.ok_mono (fun b hb => ⟨hb, alloc_get w k b (hm.gold b hb)⟩) (fun b hb => ⟨alloc_get w k b (hlt i o' b h hb), id⟩) (setGh_ne hi)
        (fun j hj => setGh_ne fun e => hs (e ▸ (hc i o' h).2 j hj)) (hm.ok i o' h)
  · rcases hst i o' h with ⟨rfl, rfl⟩ | ⟨hi, h⟩
    · rw [setGh_same] at hb; rw [hg b hb]; exact .inl hbase
    · rw [setGh_ne hi] at hb; exact hm.own i o' b h hb
  · rcases hst i o1 h1 with ⟨e1, _⟩ | ⟨hi, k1⟩ <;> rcases hst j o2 h2 with ⟨e2, _⟩ | ⟨hj, k2⟩
    · rw [e1, e2]
    · rw [e1, setGh_same] at hb1; rw [setGh_ne hj] at hb2
      have := hlt j o2 b k2 hb2; have := hg b hb1; omega
    · rw [e2, setGh_same] at hb2; rw [setGh_ne hi] at hb1
      have := hlt i o1 b k1 hb1; have := hg b hb2; omega
    · rw [setGh_ne hi] at hb1; rw [setGh_ne hj] at hb2; exact hm.inj i j o1 o2 b k1 k2 hb1 hb2

/-- The cells of one object are written. -/
theorem Mem.set {base : Nat} {X G : Nat → Prop} {τ : Nat → Gh} {st : Nat → Option E.Obj} {w w' : World} {id b : Nat} {o o' : E.Obj}
    (hm : Mem base X G τ st w) (hi : st id = some o) (hb : (τ id).blk = some b) (hsz : w'.heap.size = w.heap.size) (hne : ∀ k, k ≠ b → w'.heap[k]? = w.heap[k]?) (hok : o'.ok w' G τ id) :
    Mem base X G τ (putSt st [(id, some o')]) w' := by
  have hnG : ¬ G b := (Obj.ok_blk (hm.ok id o hi) hb).1
  have hst : ∀ i p, putSt st [(id, some o')] i = some p → (i = id ∧ p = o') ∨ (i ≠ id ∧ st i = some p) := by
    intro i p h
    simp only [putSt] at h
    by_cases hi : i = id
    · subst hi; simp at h; exact .inl ⟨rfl, h.symm⟩
    · have : (i == id) = false := by simpa using hi
      simp only [this, cond_false] at h; exact .inr ⟨hi, h⟩
  refine ⟨fun k hk => by rw [hsz]; exact hm.gold k hk, fun i p h => ?_, fun i p k h hk => ?_, fun i j p q k h1 h2 hk1 hk2 => ?_⟩
  · rcases hst i p h with ⟨rfl, rfl⟩ | ⟨hne', h⟩
    · exact hok
    · exact Obj.ok_mono (fun k hk => ⟨hk, hne k fun e => hnG (e ▸ hk)⟩) (fun k hk => ⟨hne k fun e => hne' (hm.inj i id p o b h hi (e ▸ hk) hb), fun h => h⟩) rfl (fun _ _ => rfl) (hm.ok i p h)
  · rcases hst i p h with ⟨rfl, rfl⟩ | ⟨_, h⟩
    · exact hm.own _ o k hi hk
    · exact hm.own i p k h hk
  · rcases hst i p h1 with ⟨e1, _⟩ | ⟨_, k1⟩ <;> rcases hst j q h2 with ⟨e2, _⟩ | ⟨_, k2⟩
    · rw [e1, e2]
    · rw [e1] at hk1 ⊢; exact hm.inj _ j o q k hi k2 hk1 hk2
    · rw [e2] at hk2 ⊢; exact hm.inj i _ p o k k1 hi hk1 hk2
    · exact hm.inj i j p q k k1 k2 hk1 hk2

theorem putSt_append (st : Nat → Option E.Obj) : ∀ (l l' : List (Nat × Option E.Obj)), putSt st (l ++ l') = putSt (putSt st l) l'
  | [], _ => rfl
  | (i, o) :: l, l' => by simp only [List.cons_append, putSt]; exact putSt_append _ l l'

theorem putSt_kills (st : Nat → Option E.Obj) : ∀ (l : List Nat) (j : Nat), putSt st (kills l) j = if j ∈ l then none else st j
  | [], j => by simp [kills, putSt]
  | i :: l, j => by
    have ih := putSt_kills (fun k => bif k == i then none else st k) l j
    simp only [kills, List.map_cons, putSt] at ih ⊢
    rw [ih]
    by_cases h : j = i
    · subst h; by_cases h2 : j ∈ l <;> simp [h2]
    · have : (j == i) = false := by simpa using h
      by_cases h2 : j ∈ l <;> simp [h2, h, this]

/-- What is read only from now on: the blocks of slices that are given up. -/
def giveG (G : Nat → Prop) (τ : Nat → Gh) (st : Nat → Option E.Obj) (l : List Nat) : Nat → Prop := fun b => G b ∨ ∃ id ∈ l, (∃ n rows, st id = some (.arr n rows)) ∧ (τ id).blk = some b

theorem Mem.give {base : Nat} {X G : Nat → Prop} {τ : Nat → Gh} {st : Nat → Option E.Obj} {w : World} (hm : Mem base X G τ st w) (l : List Nat) :
    Mem base X (giveG G τ st l) τ (putSt st (kills l)) w := by
  have hst : ∀ i o, putSt st (kills l) i = some o → i ∉ l ∧ st i = some o := by
    intro i o h
    rw [putSt_kills] at h
    by_cases hi : i ∈ l
    · simp [hi] at h
    · simp only [hi, if_false] at h; exact ⟨hi, h⟩
  refine ⟨fun b hb => ?_, fun i o h => ?_, fun i o b h hb => hm.own i o b (hst i o h).2 hb, fun i j o p b h1 h2 => hm.inj i j o p b (hst i o h1).2 (hst j p h2).2⟩
  · rcases hb with hb | ⟨id, _, ⟨n, rows, h⟩, hb⟩
    · exact hm.gold b hb
    · obtain ⟨_, xs, t, fz, h2⟩ := Obj.ok_blk (hm.ok id _ h) hb
      exact lt_of_get h2
  · obtain ⟨hi, h⟩ := hst i o h
    refine Obj.ok_mono (fun b hb => ⟨.inl hb, rfl⟩) (fun b hb => ⟨rfl, fun hg => ?_⟩) rfl (fun _ _ => rfl) (hm.ok i o h)
    rcases hg with hg | ⟨id, hid, ⟨n, rows, hs⟩, hb'⟩
    · exact hg
    · exact absurd (hm.inj i id o _ b h hs hb hb') (fun e => hi (e ▸ hid))

theorem Ext.give {base : Nat} {X G : Nat → Prop} {τ : Nat → Gh} {st : Nat → Option E.Obj} {w : World} (hm : Mem base X G τ st w) (l : List Nat) : Ext base X G w (giveG G τ st l) w :=
  ⟨rfl, rfl, rfl, Nat.le_refl _, fun _ _ _ => rfl, fun _ h => ⟨.inl h, rfl⟩, fun b h => by
    rcases h with h | ⟨id, _, ⟨n, rows, hs⟩, hb⟩
    · exact .inl h
    · rcases hm.own id _ b hs hb with h | h
      · exact .inr (.inr h)
      · exact .inr (.inl h)⟩

/-- An owned slice, given up, reads as its rows. -/
theorem repI_given {base : Nat} {X G : Nat → Prop} {τ : Nat → Gh} {st : Nat → Option E.Obj} {w : World} (hm : Mem base X G τ st w) {l : List Nat} {id n : Nat} {rows : List (List V)} (hid : id ∈ l) (hs : st id = some (.arr n rows)) :
    (V.sl n rows).repI w (giveG G τ st l) (τ id).hdr := by
  have h := hm.ok id _ hs
  simp only [Obj.ok, rowsOk] at h
  obtain ⟨h1, h2, h3⟩ := h
  simp only [V.repI, Gh.hdr, h1]
  refine ⟨_, _, rfl, h2, ?_⟩
  rcases h3 with ⟨e1, e2, e3⟩ | ⟨b, xs, t, fz, e1, e2, e3, e4, e5, e6, e7⟩
  · exact .inl (by have : rows.length = 0 := by omega
                   simpa using this)
  · exact .inr ⟨b, 0, e2, .inr ⟨id, hid, ⟨n, rows, hs⟩, e1⟩, repRows_mono (fun k hk => ⟨.inl hk, rfl⟩) n b rfl 0 rows e7⟩

theorem settle_res {base : Nat} {X G : Nat → Prop} {τ : Nat → Gh} {st : Nat → Option E.Obj} {w : World} (hm : Mem base X G τ st w) (all : List Nat) :
    ∀ {cs : List V} {xs : List Value} {cs' : List V} {l rs : List Nat}, (settle cs).run st = some ((cs', l), rs) → (∀ i ∈ l, i ∈ all) → (∀ x ∈ xs, x.oneCell' = true) → repL w G τ cs xs → repIL w (giveG G τ st all) cs' xs
  | [], [], cs', l, rs, h, _, _, _ => by simp only [settle, T.run, Option.some.injEq, Prod.mk.injEq] at h; rw [← h.1.1]; simp only [repIL]
  | [], _ :: _, _, _, _, _, _, _, hr => by simp only [repL] at hr
  | _ :: _, [], _, _, _, _, _, _, hr => by simp only [repL] at hr
  | c :: cs, x :: xs, cs', l, rs, h, hl, h1x, hr => by
    simp only [repL] at hr
    have hx1 : x.oneCell' = true := h1x x (by simp)
    have hxs : ∀ y ∈ xs, y.oneCell' = true := fun y hy => h1x y (by simp [hy])
    have go : ∀ {d : V} {rs'}, ((settle cs).bind fun r => T.ret (d :: r.1, r.2)).run st = some ((cs', l), rs') → d.repI w G x → repIL w (giveG G τ st all) cs' (x :: xs) := by
      intro d rs' h hd
      obtain ⟨⟨a1, a2⟩, r1, r2, h1, h2, _⟩ := T.run_bind_some h
      simp only [T.run, Option.some.injEq, Prod.mk.injEq] at h2
      obtain ⟨⟨rfl, rfl⟩, rfl⟩ := h2
      simp only [repIL]
      exact ⟨⟨repI_mono (fun b hb => ⟨.inl hb, rfl⟩) _ _ hd, hx1⟩, settle_res hm all h1 hl hxs hr.2⟩
    unfold settle at h
    split at h
    · rename_i id
      simp only [T.run] at h
      split at h
      · simp at h
      · rename_i o ho
        cases o with
        | box cells => simp [T.run] at h
        | blk n rows c => simp [T.run] at h
        | arr n rows =>
          simp only at h
          split at h
          · simp at h
          · rename_i p hp
            obtain ⟨⟨a1, a2⟩, r1, r2, h1, h2, _⟩ := T.run_bind_some hp
            simp only [T.run, Option.some.injEq, Prod.mk.injEq] at h2
            obtain ⟨rfl, rfl⟩ := h2
            simp only [Option.some.injEq, Prod.mk.injEq] at h
            obtain ⟨⟨rfl, rfl⟩, _⟩ := h
            simp only [repIL]
            have hx := hr.1
            simp only [V.rep] at hx
            subst hx
            exact ⟨⟨repI_given hm (hl id (by simp)) ho, hx1⟩, settle_res hm all h1 (fun i hi => hl i (by simp [hi])) hxs hr.2⟩
    · exact go h (by simpa only [V.rep] using hr.1)
    · exact go h (by simpa only [V.rep] using hr.1)
    · exact go h (by simpa only [V.rep] using hr.1)
    · simp [T.run] at h

end Go.Proofs.Ytfpdlamjlbpmkaa.E
