/- Maps from texts to files, and calls that turn one cell: what all devices use. -/
import Derived.Test.YtinfjnnffmlpmaaGreatDoorShPlaysP2
namespace Go.Proofs.YtinfjnnffmlpmaaGreatDoor.E
open Go
set_option linter.unusedSimpArgs false

theorem w_same (w : World) (a : Addr) (v : Value) (h : w.cell? a = some v) : w.setCell a v = w := by
  obtain ⟨b, o, s⟩ := a
  unfold World.cell? at h
  split at h
  · rename_i c e fr hb
    split at h
    · cases h
    rename_i hs
    have hs' : s = none := by simpa using hs
    subst hs'
    rw [setCell_eq_setRow w b o c e fr v hb]
    simp only at h
    have hc : c.setIfInBounds o v = c := by
      apply Array.ext_getElem?
      intro q
      rw [Array.getElem?_setIfInBounds]
      by_cases hq : o = q
      · subst hq; rw [if_pos rfl, if_pos (Array.getElem?_eq_some_iff.1 h).1, h]
      · rw [if_neg hq]
    rw [hc]
    have hh : (w.setRow b c).heap = w.heap := by
      apply Array.ext_getElem?
      intro q
      by_cases hq : q = b
      · subst hq; rw [setRow_heap w q c c e fr hb, hb]
      · exact setRow_other w b q c hq
    have : w.setRow b c = { w with heap := (w.setRow b c).heap } := rfl
    rw [this, hh]
  · cases h

theorem setCell_heap {w : World} {b i : Nat} {xs : Array Value} {t : TypeId} {fz : Nat × Nat} (v : Value) (h : w.heap[b]? = some (.cells xs t fz)) : (w.setCell ⟨b, i, none⟩ v).heap[b]? = some (.cells (xs.setIfInBounds i v) t fz) := by
  rw [setCell_eq_setRow w b i xs t fz v h]
  exact setRow_heap w b xs _ t fz h

/-- Objects under other names. -/
theorem Mem.rename {base : Nat} {X G : Nat → Prop} {τ τ' : Nat → Gh} {st st' : Nat → Option E.Obj} {w : World} (f : Nat → Nat) (hm : Mem base X G τ st w)
    (hst : ∀ i o, st' i = some o → (∃ q, st (f i) = some q) ∧ τ' i = τ (f i) ∧ o.ok w G τ' i) (hnp : ∀ i o, st' i = some o → o.plain = false → st (f i) = some o ∧ idsObj o = [])
    (hf : ∀ i j o p, st' i = some o → st' j = some p → f i = f j → i = j) : Mem base X G τ' st' w := by
  refine ⟨hm.gold, fun i o h => (hst i o h).2.2, fun i o b h hb => ?_, fun i j o p b h1 h2 hb1 hb2 => ?_, ?_⟩
  · obtain ⟨⟨q, hq⟩, ht, _⟩ := hst i o h
    rw [ht] at hb
    exact hm.own _ q b hq hb
  · obtain ⟨⟨q, hq⟩, ht, _⟩ := hst i o h1
    obtain ⟨⟨q', hq'⟩, ht', _⟩ := hst j p h2
    rw [ht] at hb1
    rw [ht'] at hb2
    exact hf i j o p h1 h2 (hm.inj _ _ q q' b hq hq' hb1 hb2)
  · refine Sub.step f hm.sub (fun b hb => ⟨hb, rfl⟩) (Nat.le_refl _) (fun _ _ h => h) (fun i o h hp => ?_) (fun i j o p h1 h2 _ _ he => hf i j o p h1 h2 he) (fun b _ hg _ _ => ⟨rfl, hg⟩) (fun i o b h hb => ?_)
    · obtain ⟨k1, k2⟩ := hnp i o h hp
      exact ⟨k1, (hst i o h).2.1, fun j hj => by rw [k2] at hj; simp at hj, fun _ _ => rfl⟩
    · obtain ⟨⟨q, hq⟩, ht, _⟩ := hst i o h
      rw [ht] at hb
      exact .inr ⟨_, q, hq, hb⟩

/-- A box whose cell c names object 1 names object 2, which is the same. -/
theorem Contract.renMap {P : Program} {f : FuncId} {args : List V} {objs : List E.Obj} {r : V} {cells cells' : List V} {k : Nest} (hlen : objs.length = 2)
    (h : Contract P f args objs r [some (.box cells), some (.nest k [])])
    (hr : ∀ {w : World} {G : Nat → Prop} {τ τ' : Nat → Gh} {x : Value}, τ' 0 = τ 0 → τ' 2 = τ 1 → r.rep w G τ x → r.rep w G τ' x)
    (hc : ∀ {w : World} {G : Nat → Prop} {τ τ' : Nat → Gh} {xs : List Value}, τ' 0 = τ 0 → τ' 2 = τ 1 → repL w G τ cells xs → repL w G τ' cells' xs) :
    Contract P f args objs r [some (.box cells'), none, some (.nest k [])] := by
  refine ⟨h.goes, fun w G X τ vals hm hX ha => Calls.mono (h.calls w G X τ vals hm hX ha) ?_⟩
  rintro e w' ⟨v, G', τ', rfl, h1, h2, h3, h4⟩
  have e0 : setGh τ' 2 (τ' 1) 0 = τ' 0 := setGh_ne (by omega)
  have e2 : setGh τ' 2 (τ' 1) 2 = τ' 1 := setGh_same
  have hcase : ∀ i o, objsAt' [some (.box cells'), none, some (.nest k [])] i = some o → (i = 0 ∧ o = .box cells') ∨ (i = 2 ∧ o = .nest k []) := by
    intro i o ho
    match i, ho with
    | 0, ho => left; simp [objsAt'] at ho; exact ⟨rfl, ho.symm⟩
    | 1, ho => simp [objsAt'] at ho
    | 2, ho => right; simp [objsAt'] at ho; exact ⟨rfl, ho.symm⟩
    | i + 3, ho => simp [objsAt'] at ho
  refine ⟨v, G', setGh τ' 2 (τ' 1), rfl, h1, fun i hi => ?_, hr e0 e2 h3, ?_⟩
  · rw [setGh_ne (by omega)]; exact h2 i hi
  · refine Mem.rename (fun i => if i = 2 then 1 else i) h4 (fun i o ho => ?_) (fun i o ho hp => ?_) (fun i j o p ho hp he => ?_)
    · rcases hcase i o ho with ⟨rfl, rfl⟩ | ⟨rfl, rfl⟩
      · refine ⟨⟨_, rfl⟩, e0, ?_⟩
        have := h4.ok 0 _ rfl
        simp only [Obj.ok, e0] at this ⊢
        obtain ⟨b, xs, t, fz, k1, k2, k3, k4, k5⟩ := this
        exact ⟨b, xs, t, fz, k1, k2, k3, k4, hc e0 e2 k5⟩
      · refine ⟨⟨_, rfl⟩, e2, ?_⟩
        exact Obj.ok_name rfl e2 (h4.ok 1 _ rfl)
    · rcases hcase i o ho with ⟨rfl, rfl⟩ | ⟨rfl, rfl⟩
      · cases hp
      · exact ⟨rfl, rfl⟩
    · rcases hcase i o ho with ⟨rfl, rfl⟩ | ⟨rfl, rfl⟩ <;> rcases hcase j p hp with ⟨rfl, rfl⟩ | ⟨rfl, rfl⟩ <;> simp at he ⊢

/-- A new box with a map that is nil: the map gets a name. -/
theorem Contract.nilMap {P : Program} {f : FuncId} {args : List V} {r : V} {cells cells' : List V}
    (h : Contract P f args [] r [some (.box cells)])
    (hr : ∀ {w : World} {G : Nat → Prop} {τ τ' : Nat → Gh} {x : Value}, τ' 0 = τ 0 → r.rep w G τ x → r.rep w G τ' x) (hid : ∀ j ∈ idsL cells, j = 0)
    (hc : ∀ {w : World} {G : Nat → Prop} {τ τ' : Nat → Gh} {xs : List Value}, τ' 0 = τ 0 → (τ' 1).blk = none → repL w G τ cells xs → repL w G τ' cells' xs) :
    Contract P f args [] r [some (.box cells'), some (.nest (.mp true []) [])] := by
  refine ⟨h.goes, fun w G X τ vals hm hX ha => Calls.mono (h.calls w G X τ vals hm hX ha) ?_⟩
  rintro e w' ⟨v, G', τ', rfl, h1, h2, h3, h4⟩
  have e0 : setGh τ' 1 ⟨none, none, 0, 0⟩ 0 = τ' 0 := setGh_ne (by omega)
  have e1 : (setGh τ' 1 ⟨none, none, 0, 0⟩ 1).blk = none := by rw [setGh_same]
  have hcl : Closed [0] (objsAt' [some (.box cells)]) := by
    intro i o ho
    match i, ho with
    | 0, ho => simp [objsAt'] at ho; subst ho; exact ⟨by simp, fun j hj => by simp [hid j (by simpa [idsObj] using hj)]⟩
    | i + 1, ho => simp [objsAt'] at ho
  have m1 := Mem.nilMap h4 hcl (site := 1) (by simp)
  have hcase : ∀ i o, objsAt' [some (.box cells'), some (.nest (.mp true []) [])] i = some o → (i = 0 ∧ o = .box cells') ∨ (i = 1 ∧ o = .nest (.mp true []) []) := by
    intro i o ho
    match i, ho with
    | 0, ho => left; simp [objsAt'] at ho; exact ⟨rfl, ho.symm⟩
    | 1, ho => right; simp [objsAt'] at ho; exact ⟨rfl, ho.symm⟩
    | i + 2, ho => simp [objsAt'] at ho
  refine ⟨v, G', setGh τ' 1 ⟨none, none, 0, 0⟩, rfl, h1, fun i hi => by simp at hi, hr e0 h3, ?_⟩
  refine Mem.rename (fun i => i) m1 (fun i o ho => ?_) (fun i o ho hp => ?_) (fun i j o p _ _ he => he)
  · rcases hcase i o ho with ⟨rfl, rfl⟩ | ⟨rfl, rfl⟩
    · refine ⟨⟨_, rfl⟩, rfl, ?_⟩
      have := h4.ok 0 _ rfl
      simp only [Obj.ok, e0] at this ⊢
      obtain ⟨b, xs, t, fz, k1, k2, k3, k4, k5⟩ := this
      exact ⟨b, xs, t, fz, k1, k2, k3, k4, hc e0 e1 k5⟩
    · exact ⟨⟨_, rfl⟩, rfl, m1.ok 1 _ rfl⟩
  · rcases hcase i o ho with ⟨rfl, rfl⟩ | ⟨rfl, rfl⟩
    · cases hp
    · exact ⟨rfl, rfl⟩

end Go.Proofs.YtinfjnnffmlpmaaGreatDoor.E

/- A function that gives an owned slice on, called with nil. -/
namespace Go.Proofs.YtinfjnnffmlpmaaGreatDoor.E
open Go

/-- Nil is an owned slice without rows. -/
theorem Contract.nil0 {P : Program} {f : FuncId} {args : List V} {n m : Nat} {rows : List (List V)}
    (h : Contract P f (.own 0 :: args) [.arr n []] (.own 1) [none, some (.arr m rows)]) (hi : idsL args = []) : Contract P f (.nil :: args) [] (.own 0) [some (.arr m rows)] := by
  refine ⟨h.goes, fun w G X τ vals hm hX ha => ?_⟩
  have only : ∀ i p, objsAt [E.Obj.arr n []] i = some p → i = 0 ∧ p = .arr n [] := by
    intro i p hp
    cases i with
    | zero => simp [objsAt] at hp; exact ⟨rfl, hp.symm⟩
    | succ i => simp [objsAt] at hp
  let τ1 : Nat → Gh := fun _ => ⟨none, none, 0, 0⟩
  refine Calls.mono (h.calls w G X τ1 vals ⟨hm.gold, ?_, ?_, ?_, Sub.plain (fun i p hp => by rw [(only i p hp).2]; rfl)⟩ hX ?_) ?_
  · intro i p hp
    obtain ⟨rfl, rfl⟩ := only i p hp
    exact ⟨rfl, Nat.le_refl _, .inl ⟨rfl, rfl, rfl⟩⟩
  · intro i p b hp hb
    cases hb
  · intro i j p q b _ _ hb
    cases hb
  · cases hv : vals.toList with
    | nil => rw [hv] at ha; simp only [repL] at ha
    | cons x xs =>
      rw [hv] at ha
      simp only [repL] at ha ⊢
      refine ⟨?_, repL_mono (fun b hb => ⟨hb, rfl⟩) args xs (fun i hi' => by rw [hi] at hi'; cases hi') ha.2⟩
      have h1 := ha.1
      simp only [V.rep, V.repI] at h1
      simp only [V.rep, h1]
      rfl
  · rintro e w' ⟨v, G', τ', rfl, h1, h2, h3, h4⟩
    refine ⟨v, G', fun i => τ' (i + 1), rfl, h1, fun i hi => by simp at hi, ?_, h4.gold, ?_, ?_, ?_, Sub.plain (fun i p hp => by
      cases i with
      | zero => simp [objsAt'] at hp; subst hp; rfl
      | succ i => simp [objsAt'] at hp)⟩
    · simpa only [V.rep] using h3
    · intro i p hp
      cases i with
      | zero =>
        simp [objsAt'] at hp
        subst hp
        have := h4.ok 1 _ rfl
        simpa only [Obj.ok] using this
      | succ i => simp [objsAt'] at hp
    · intro i p b hp hb
      cases i with
      | zero => exact h4.own 1 _ b rfl hb
      | succ i => simp [objsAt'] at hp
    · intro i j p q b hp hq _ _
      cases i with
      | zero =>
        cases j with
        | zero => rfl
        | succ j => simp [objsAt'] at hq
      | succ i => simp [objsAt'] at hp

end Go.Proofs.YtinfjnnffmlpmaaGreatDoor.E

