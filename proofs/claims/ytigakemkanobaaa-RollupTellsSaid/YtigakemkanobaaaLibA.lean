/- Functions of sync/atomic on an integer's cell, for which the model stands in. -/
import Derived.Test.YtigakemkanobaaaLibC
import GoSem.Extern.Table
namespace Go.Proofs.Ytigakemkanobaaa.E
open Go
set_option linter.unusedSimpArgs false

/-- Function g loads an integer of a kind. -/
def IsALoad (P : Program) (g : FuncId) (k : IntKind) : Prop := ∃ fn, P.funcs[g]? = some fn ∧ (fn.name == "runtime.NumGoroutine") = false ∧ fn.body.isNone = true ∧ Extern.findNext fn = none ∧
  Extern.find fn = some (Extern.Atomic.loadT (.int k))
/-- Function g adds to an integer of a kind. -/
def IsAAdd (P : Program) (g : FuncId) (k : IntKind) : Prop := ∃ fn, P.funcs[g]? = some fn ∧ (fn.name == "runtime.NumGoroutine") = false ∧ fn.body.isNone = true ∧ Extern.findNext fn = none ∧
  Extern.find fn = some (Extern.Atomic.update (Op.intArith .add) k true)
/-- Function g stores an integer. -/
def IsAStore (P : Program) (g : FuncId) : Prop := ∃ fn, P.funcs[g]? = some fn ∧ (fn.name == "runtime.NumGoroutine") = false ∧ fn.body.isNone = true ∧ Extern.findNext fn = none ∧
  Extern.find fn = some Extern.Atomic.storeT

theorem one_arg {w : World} {G : Nat → Prop} {τ : Nat → Gh} {c : V} {vals : Array Value} (h : repL w G τ [c] vals.toList) : ∃ x, vals = #[x] ∧ c.rep w G τ x := by
  cases hv : vals.toList with
  | nil => rw [hv] at h; simp only [repL] at h
  | cons x l => cases l with
    | nil => rw [hv] at h; simp only [repL] at h; exact ⟨x, by apply Array.ext'; simpa using hv, h.1⟩
    | cons y l => rw [hv] at h; simp only [repL] at h; exact h.2.elim
theorem two_args {w : World} {G : Nat → Prop} {τ : Nat → Gh} {c d : V} {vals : Array Value} (h : repL w G τ [c, d] vals.toList) : ∃ x y, vals = #[x, y] ∧ c.rep w G τ x ∧ d.rep w G τ y := by
  cases hv : vals.toList with
  | nil => rw [hv] at h; simp only [repL] at h
  | cons x l => cases l with
    | nil => rw [hv] at h; simp only [repL] at h; exact h.2.elim
    | cons y l => cases l with
      | nil => rw [hv] at h; simp only [repL] at h; exact ⟨x, y, by apply Array.ext'; simpa using hv, h.1, h.2.1⟩
      | cons z l => rw [hv] at h; simp only [repL] at h; exact h.2.2.elim

theorem box_at {w : World} {G : Nat → Prop} {τ : Nat → Gh} {base : Nat} {X : Nat → Prop} {cells : List V} {n off : Nat} {x : Value} {v : V}
    (hm : Mem base X G τ (objsAt [.box cells]) w) (hx : (V.ptr 0 n 0 off).rep w G τ x) (hc : cells[off]? = some v) :
    ∃ b xs t fz y, x = .pointer (some ⟨b, off, none⟩) ∧ (τ 0).blk = some b ∧ w.heap[b]? = some (.cells xs t fz) ∧ ¬ G b ∧ Free fz xs.size ∧ repL w G τ cells xs.toList ∧ xs[off]? = some y ∧ v.rep w G τ y := by
  have hok := hm.ok 0 _ rfl
  simp only [Obj.ok] at hok
  obtain ⟨b, xs, t, fz, h1, h2, h3, h4, h5⟩ := hok
  simp only [V.rep] at hx
  obtain ⟨b', e1, rfl⟩ := hx
  rw [h1] at e1; cases e1
  obtain ⟨y, k1, k2⟩ := repL_get h5 off v hc
  exact ⟨b, xs, t, fz, y, by simp, h1, h2, h3, h4, h5, by simpa using k1, k2⟩

theorem free_at {w : World} {b : Nat} {xs : Array Value} {t : TypeId} {fz : Nat × Nat} {off : Nat} (h : w.heap[b]? = some (.cells xs t fz)) (hf : Free fz xs.size) (ho : off < xs.size) : w.frozen? ⟨b, off, none⟩ = false := by
  have := hf off ho
  simp only [World.frozen?, h]
  rw [Bool.and_eq_false_iff, decide_eq_false_iff_not, decide_eq_false_iff_not]
  by_cases h : fz.1 ≤ off
  · exact .inr fun h2 => this ⟨h, h2⟩
  · exact .inl h

theorem box_set {w : World} {G : Nat → Prop} {τ : Nat → Gh} {base : Nat} {X : Nat → Prop} {cells : List V} {off : Nat} {v v' : V} {y : Value}
    {b : Nat} {xs : Array Value} {t : TypeId} {fz : Nat × Nat} (hm : Mem base X G τ (objsAt [.box cells]) w) (hc : cells[off]? = some v)
    (h1 : (τ 0).blk = some b) (h2 : w.heap[b]? = some (.cells xs t fz)) (h3 : ¬ G b) (h4 : Free fz xs.size) (h5 : repL w G τ cells xs.toList)
    (hv : v'.rep w G τ y) (hflat : v'.flat = true) :
    Ext base X G w G (w.setRow b (xs.setIfInBounds off y)) ∧ Mem base X G τ (objsAt' [some (.box (cells.set off v'))]) (w.setRow b (xs.setIfInBounds off y)) := by
  have hown := hm.own 0 _ b rfl h1
  have hG' : ∀ k, G k → G k ∧ (w.setRow b (xs.setIfInBounds off y)).heap[k]? = w.heap[k]? := fun k hk => ⟨hk, setRow_other w b k _ (fun e => h3 (e ▸ hk))⟩
  refine ⟨Ext.setRow hown h3, ?_⟩
  have hlt : off < cells.length := (List.getElem?_eq_some_iff.1 hc).1
  have hlen := repL_length h5
  have hok : (E.Obj.box (cells.set off v')).ok (w.setRow b (xs.setIfInBounds off y)) G τ 0 := by
    simp only [Obj.ok]
    refine ⟨b, _, t, fz, h1, setRow_heap w b xs _ t fz h2, h3, by simpa using h4, ?_⟩
    have k1 := repL_mono hG' cells _ (fun _ _ => rfl) h5
    have e1 : cells.set off v' = cells.take off ++ [v'] ++ cells.drop (off + 1) := by rw [List.set_eq_take_append_cons_drop, if_pos hlt]; simp
    have e2 : (xs.setIfInBounds off y).toList = xs.toList.take off ++ [y] ++ xs.toList.drop (off + 1) := by
      rw [Array.toList_setIfInBounds, List.set_eq_take_append_cons_drop, if_pos (by omega)]; simp
    rw [e1, e2]
    exact repL_append (repL_append (repL_take off k1) (by simp only [repL]; exact ⟨rep_mono hG' v' y (fun _ _ => rfl) hv, trivial⟩)) (repL_drop _ k1)
  have hset := Mem.set (st := objsAt [.box cells]) (id := 0) (o := .box cells) hm rfl h1 (by simp) (fun k hk => setRow_other w b k _ hk) hok
  have sub : ∀ i p, objsAt' [some (.box (cells.set off v'))] i = some p → putSt (objsAt [.box cells]) [(0, some (.box (cells.set off v')))] i = some p := by
    intro i p hp
    cases i with
    | zero => simpa [objsAt', putSt] using hp
    | succ i => simp [objsAt'] at hp
  exact ⟨hset.gold, fun i p hp => hset.ok i p (sub i p hp), fun i p b hp => hset.own i p b (sub i p hp), fun i j p q b hp hq => hset.inj i j p q b (sub i p hp) (sub j q hq)⟩

theorem Mem.objs' {w : World} {G : Nat → Prop} {τ : Nat → Gh} {base : Nat} {X : Nat → Prop} {o : E.Obj} (hm : Mem base X G τ (objsAt [o]) w) : Mem base X G τ (objsAt' [some o]) w := by
  have sub : ∀ i p, objsAt' [some o] i = some p → objsAt [o] i = some p := by
    intro i p hp
    cases i with
    | zero => simpa [objsAt', objsAt] using hp
    | succ i => simp [objsAt'] at hp
  exact ⟨hm.gold, fun i p hp => hm.ok i p (sub i p hp), fun i p b hp => hm.own i p b (sub i p hp), fun i j p q b hp hq => hm.inj i j p q b (sub i p hp) (sub j q hq)⟩

theorem rep_int {w : World} {G : Nat → Prop} {τ : Nat → Gh} {k : IntKind} {n : Int} {y : Value} (h : (V.val (.int k n)).rep w G τ y) : y = .int k n := by simpa only [V.rep, V.repI] using h

/-- Loading an integer. -/
theorem extLoad {P : Program} {g : FuncId} {k : IntKind} (hg : IsALoad P g k) {cells : List V} {n off : Nat} {x : Int} (hc : cells[off]? = some (.val (.int k x))) :
    ExtC P g [.ptr 0 n 0 off] [.box cells] (.val (.int k x)) [some (.box cells)] := by
  refine ⟨fun w G X τ vals hm hX ha => ?_⟩
  obtain ⟨p, rfl, hp⟩ := one_arg ha
  obtain ⟨b, xs, t, fz, y, rfl, h1, h2, h3, h4, h5, h6, h7⟩ := box_at hm hp hc
  have hy := rep_int h7
  subst hy
  obtain ⟨fn, f1, f2, f3, f4, f5⟩ := hg
  refine ⟨.int k x, w, G, τ, ?_, Ext.refl _ _ _ _, fun _ _ => rfl, by simp only [V.rep, V.repI], hm.objs'⟩
  have hcell : w.cell? ⟨b, off, none⟩ = some (.int k x) := by rw [cell_of_heap h2]; exact h6
  rw [run_callFunc_extern f1 f2 f3 f4 f5]
  have : (Extern.Atomic.loadT (.int k) #[.pointer (some ⟨b, off, none⟩)]).run P w = .ok (.int k x) w := by
    change Sem.run P (do Extern.Atomic.read (.int k) (← asAddr (.pointer (some ⟨b, off, none⟩)))) w = _
    simp [Extern.Atomic.read, asAddr, hcell]
  rw [this]
  rfl

/-- Adding to an integer. -/
theorem extAdd {P : Program} {g : FuncId} {k : IntKind} (hg : IsAAdd P g k) {cells : List V} {n off : Nat} {x d z : Int} (hc : cells[off]? = some (.val (.int k x))) (hz : z = k.wrap (x + d)) :
    ExtC P g [.ptr 0 n 0 off, .val (.int k d)] [.box cells] (.val (.int k z)) [some (.box (cells.set off (.val (.int k z))))] := by
  subst hz
  refine ⟨fun w G X τ vals hm hX ha => ?_⟩
  obtain ⟨p, q, rfl, hp, hq⟩ := two_args ha
  obtain ⟨b, xs, t, fz, y, rfl, h1, h2, h3, h4, h5, h6, h7⟩ := box_at hm hp hc
  have hy := rep_int h7
  subst hy
  have hq' := rep_int hq
  subst hq'
  obtain ⟨fn, f1, f2, f3, f4, f5⟩ := hg
  have hlt : off < xs.size := (Array.getElem?_eq_some_iff.1 h6).1
  have hcell : w.cell? ⟨b, off, none⟩ = some (.int k x) := by rw [cell_of_heap h2]; exact h6
  have hfro := free_at h2 h4 hlt
  obtain ⟨k1, k2⟩ := box_set (v' := .val (.int k (k.wrap (x + d)))) (y := .int k (k.wrap (x + d))) hm hc h1 h2 h3 h4 h5 (by simp only [V.rep, V.repI]) rfl
  refine ⟨.int k (k.wrap (x + d)), _, G, τ, ?_, k1, fun _ _ => rfl, by simp only [V.rep, V.repI], k2⟩
  rw [run_callFunc_extern f1 f2 f3 f4 f5]
  have : (Extern.Atomic.update (Op.intArith .add) k true #[.pointer (some ⟨b, off, none⟩), .int k d]).run P w = .ok (.int k (k.wrap (x + d))) (w.setRow b (xs.setIfInBounds off (.int k (k.wrap (x + d))))) := by
    change Sem.run P (do
      let a' ← asAddr (.pointer (some ⟨b, off, none⟩))
      let old ← Extern.Atomic.read (.int k) a'
      let new ← Op.intArith .add k (← asInt old) (← asInt (.int k d))
      store a' new .atomic
      pure (if true then new else old)) w = _
    simp [Extern.Atomic.read, asAddr, asInt, asIntOf, hcell, hfro, Op.intArith, run_store P w ⟨b, off, none⟩ (.int k (k.wrap (x + d))) .atomic rfl, Result.andThen, setCell_eq_setRow w b off xs t fz _ h2]
  rw [this]
  rfl

/-- Storing an integer. -/
theorem extStore {P : Program} {g : FuncId} {k : IntKind} (hg : IsAStore P g) {cells : List V} {n off : Nat} {x z : Int} (hc : cells[off]? = some (.val (.int k x))) :
    ExtC P g [.ptr 0 n 0 off, .val (.int k z)] [.box cells] (.val (.tuple #[])) [some (.box (cells.set off (.val (.int k z))))] := by
  refine ⟨fun w G X τ vals hm hX ha => ?_⟩
  obtain ⟨p, q, rfl, hp, hq⟩ := two_args ha
  obtain ⟨b, xs, t, fz, y, rfl, h1, h2, h3, h4, h5, h6, h7⟩ := box_at hm hp hc
  have hy := rep_int h7
  subst hy
  have hq' := rep_int hq
  subst hq'
  obtain ⟨fn, f1, f2, f3, f4, f5⟩ := hg
  have hlt : off < xs.size := (Array.getElem?_eq_some_iff.1 h6).1
  have hcell : w.cell? ⟨b, off, none⟩ = some (.int k x) := by rw [cell_of_heap h2]; exact h6
  have hfro := free_at h2 h4 hlt
  obtain ⟨k1, k2⟩ := box_set (v' := .val (.int k z)) (y := .int k z) hm hc h1 h2 h3 h4 h5 (by simp only [V.rep, V.repI]) rfl
  refine ⟨.tuple #[], _, G, τ, ?_, k1, fun _ _ => rfl, by simp only [V.rep, V.repI], k2⟩
  rw [run_callFunc_extern f1 f2 f3 f4 f5]
  have : (Extern.Atomic.storeT #[.pointer (some ⟨b, off, none⟩), .int k z]).run P w = .ok (.tuple #[]) (w.setRow b (xs.setIfInBounds off (.int k z))) := by
    change Sem.run P (do
      store (← asAddr (.pointer (some ⟨b, off, none⟩))) (.int k z) .atomic
      pure Extern.Atomic.none_) w = _
    simp [Extern.Atomic.none_, asAddr, hcell, hfro, run_store P w ⟨b, off, none⟩ (.int k z) .atomic rfl, Result.andThen, setCell_eq_setRow w b off xs t fz _ h2]
  rw [this]
  rfl

end Go.Proofs.Ytigakemkanobaaa.E
