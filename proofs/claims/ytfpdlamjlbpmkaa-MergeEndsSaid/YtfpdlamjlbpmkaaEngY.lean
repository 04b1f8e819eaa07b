/- The engine, part Y (between R and S): two frames that are made one. -/
import Derived.Test.YtfpdlamjlbpmkaaEngR
namespace Go.Proofs.Ytfpdlamjlbpmkaa.E
open Go
set_option linter.unusedSimpArgs false

mutual
theorem mergeV_rep {w : World} {G : Nat → Prop} {τ : Nat → Gh} {B : Bool} : ∀ {u v : V} {x : Value}, (bif B then u else v).rep w G τ x → (mergeV B u v).rep w G τ x
  | u, v, x, h => by
    unfold mergeV
    split
    · rename_i k m k' m'
      cases hk : decide (k = k') with
      | false => simp only [cond_false, V.rep]
      | true =>
        have : k = k' := of_decide_eq_true hk
        subst this
        cases B <;> simpa only [cond_true, cond_false] using h
    · cases B <;> simpa only [cond_true, cond_false] using h
    · cases B <;> simpa only [cond_true, cond_false] using h
    · cases B <;> simpa only [cond_true, cond_false] using h
    · rename_i cs cs'
      split
      · rename_i l hl
        have h' : ∃ xs, x = .agg xs ∧ repL w G τ (bif B then cs else cs') xs.toList := by cases B <;> simpa only [cond_true, cond_false, V.rep] using h
        obtain ⟨xs, e, hr⟩ := h'
        simp only [V.rep]
        exact ⟨xs, e, mergeL_rep hl hr⟩
      · simp only [V.rep]
    · cases B <;> simpa only [cond_true, cond_false] using h
    · rename_i n rows n' rows'
      cases hk : n == n' with
      | false => simp only [cond_false, V.rep]
      | true =>
        have : n = n' := by simpa using hk
        subst this
        cases B <;> simpa only [cond_true, cond_false] using h
    · rename_i n rows
      cases B with
      | true =>
        simp only [cond_true, V.rep, V.repI] at h ⊢
        subst h
        exact ⟨none, 0, rfl, Nat.le_refl _, .inl trivial⟩
      | false => simpa only [cond_true, cond_false] using h
    · rename_i n rows
      cases B with
      | false =>
        simp only [cond_false, V.rep, V.repI] at h ⊢
        subst h
        exact ⟨none, 0, rfl, Nat.le_refl _, .inl trivial⟩
      | true => simpa only [cond_true, cond_false] using h
    · rename_i i j
      cases hk : i == j with
      | false => simp only [cond_false, V.rep]
      | true =>
        have : i = j := by simpa using hk
        subst this
        cases B <;> simpa only [cond_true, cond_false] using h
    · rename_i i n r o i' n' r' o'
      cases hk : i == i' && (n == n' && o == o') with
      | false => simp only [cond_false, V.rep]
      | true =>
        simp only [Bool.and_eq_true, beq_iff_eq] at hk
        obtain ⟨rfl, rfl, rfl⟩ := hk
        cases B <;> simpa only [cond_true, cond_false] using h
    · rename_i g f c g' f' c'
      cases hk : g == g' with
      | false => simp only [cond_false, V.rep]
      | true =>
        have : g = g' := by simpa using hk
        subst this
        simp only [cond_true]
        split
        · rename_i f2 c2 hf hc
          have h' : ∃ xs ys, x = .func (.func g) xs ys ∧ repL w G τ (bif B then f else f') xs.toList ∧ repL w G τ (bif B then c else c') ys.toList := by cases B <;> simpa only [cond_true, cond_false, V.rep] using h
          obtain ⟨xs, ys, e, h1, h2⟩ := h'
          simp only [V.rep]
          exact ⟨xs, ys, e, mergeL_rep hf h1, mergeL_rep hc h2⟩
        · simp only [V.rep]
    · simp only [V.rep]
theorem mergeL_rep {w : World} {G : Nat → Prop} {τ : Nat → Gh} {B : Bool} : ∀ {us vs l : List V} {xs : List Value}, mergeL B us vs = some l → repL w G τ (bif B then us else vs) xs → repL w G τ l xs
  | [], [], l, xs, h, hr => by
    simp only [mergeL, Option.some.injEq] at h
    subst h
    cases B <;> simpa only [cond_true, cond_false] using hr
  | [], _ :: _, l, xs, h, _ => by simp [mergeL] at h
  | _ :: _, [], l, xs, h, _ => by simp [mergeL] at h
  | u :: us, v :: vs, l, xs, h, hr => by
    simp only [mergeL] at h
    split at h
    · rename_i l' hl
      simp only [Option.some.injEq] at h
      subst h
      cases xs with
      | nil => cases B <;> simp [repL] at hr
      | cons x xs =>
        have hr' : (bif B then u else v).rep w G τ x ∧ repL w G τ (bif B then us else vs) xs := by cases B <;> simpa only [cond_true, cond_false, repL] using hr
        simp only [repL]
        exact ⟨mergeV_rep hr'.1, mergeL_rep hl hr'.2⟩
    · simp at h
end

mutual
theorem mergeV_ids {B : Bool} : ∀ {u v : V}, ∀ i ∈ (mergeV B u v).ids, i ∈ (bif B then u else v).ids
  | u, v, i, hi => by
    unfold mergeV at hi
    split at hi
    · rename_i k m k' m'
      cases hk : decide (k = k') <;> simp [hk, V.ids] at hi
    · simp [V.ids] at hi
    · simp [V.ids] at hi
    · simp [V.ids] at hi
    · rename_i cs cs'
      split at hi
      · rename_i l hl
        simp only [V.ids] at hi
        have := mergeL_ids hl i hi
        cases B <;> simpa only [cond_true, cond_false, V.ids] using this
      · simp [V.ids] at hi
    · simp [V.ids] at hi
    · rename_i n rows n' rows'
      cases hk : n == n' <;> simp only [hk, cond_true, cond_false, V.ids] at hi <;> simp at hi
    · simp [V.ids] at hi
    · simp [V.ids] at hi
    · rename_i a b
      cases hk : a == b with
      | false => simp only [hk, cond_false, V.ids] at hi; simp at hi
      | true =>
        have : a = b := by simpa using hk
        subst this
        simp only [hk, cond_true] at hi
        cases B <;> simpa only [cond_true, cond_false] using hi
    · rename_i a n r o a' n' r' o'
      cases hk : a == a' && (n == n' && o == o') with
      | false => simp only [hk, cond_false, V.ids] at hi; simp at hi
      | true =>
        simp only [hk, cond_true, V.ids] at hi
        simp only [Bool.and_eq_true, beq_iff_eq] at hk
        obtain ⟨rfl, rfl, rfl⟩ := hk
        cases B <;> simpa only [cond_true, cond_false, V.ids] using hi
    · rename_i g f c g' f' c'
      cases hk : g == g' with
      | false => simp only [hk, cond_false, V.ids] at hi; simp at hi
      | true =>
        simp only [hk, cond_true] at hi
        split at hi
        · rename_i f2 c2 hf hc
          simp only [V.ids, List.mem_append] at hi
          rcases hi with hi | hi
          · have := mergeL_ids hf i hi
            cases B <;> (simp only [cond_true, cond_false, V.ids, List.mem_append] at this ⊢; exact .inl this)
          · have := mergeL_ids hc i hi
            cases B <;> (simp only [cond_true, cond_false, V.ids, List.mem_append] at this ⊢; exact .inr this)
        · simp [V.ids] at hi
    · simp [V.ids] at hi
theorem mergeL_ids {B : Bool} : ∀ {us vs l : List V}, mergeL B us vs = some l → ∀ i ∈ idsL l, i ∈ idsL (bif B then us else vs)
  | [], [], l, h, i, hi => by
    simp only [mergeL, Option.some.injEq] at h
    subst h
    simp [idsL] at hi
  | [], _ :: _, l, h, _, _ => by simp [mergeL] at h
  | _ :: _, [], l, h, _, _ => by simp [mergeL] at h
  | u :: us, v :: vs, l, h, i, hi => by
    simp only [mergeL] at h
    split at h
    · rename_i l' hl
      simp only [Option.some.injEq] at h
      subst h
      simp only [idsL, List.mem_append] at hi
      rcases hi with hi | hi
      · have := mergeV_ids i hi
        cases B <;> (simp only [cond_true, cond_false, idsL, List.mem_append] at this ⊢; exact .inl this)
      · have := mergeL_ids hl i hi
        cases B <;> (simp only [cond_true, cond_false, idsL, List.mem_append] at this ⊢; exact .inr this)
    · simp at h
end

theorem mergeO_ok {w : World} {G : Nat → Prop} {τ : Nat → Gh} {B : Bool} {id : Nat} {o1 o2 : Option E.Obj} {o : E.Obj} (h : mergeO B o1 o2 = some o) :
    ∃ p, (bif B then o1 else o2) = some p ∧ (∀ i ∈ idsObj o, i ∈ idsObj p) ∧ (p.ok w G τ id → o.ok w G τ id) := by
  unfold mergeO at h
  split at h
  · rename_i cs ds
    split at h
    · rename_i l hl
      simp only [Option.some.injEq] at h
      subst h
      refine ⟨.box (bif B then cs else ds), by cases B <;> rfl, fun i hi => mergeL_ids hl i hi, fun hok => ?_⟩
      simp only [Obj.ok, rowsOk] at hok ⊢
      obtain ⟨b, xs, t, fz, e1, e2, e3, e4, e5⟩ := hok
      exact ⟨b, xs, t, fz, e1, e2, e3, e4, mergeL_rep hl e5⟩
    · simp at h
  · rename_i n rows n' rows'
    cases hk : n == n' with
    | false => simp only [hk, cond_false, reduceCtorEq] at h
    | true =>
      have : n = n' := by simpa using hk
      subst this
      simp only [hk, cond_true, Option.some.injEq] at h
      subst h
      exact ⟨.arr n (bif B then rows else rows'), by cases B <;> rfl, fun i hi => by simp [idsObj] at hi, fun hok => hok⟩
  · simp at h

/-- What a run did not touch. -/
def Kept (D : List Nat) (σ σ' : S) : Prop := (∀ t, t ∉ D → σ'.env t = σ.env t) ∧ ∃ pre, σ'.ids = pre ++ σ.ids ∧ ∀ i, i ∉ pre → σ'.st i = σ.st i

theorem Kept.refl (D : List Nat) (σ : S) : Kept D σ σ := ⟨fun _ _ => rfl, [], rfl, fun _ _ => rfl⟩

theorem Kept.trans {D D' : List Nat} {σ σ1 σ2 : S} (h : Kept D σ σ1) (h' : Kept D' σ1 σ2) : Kept (D ++ D') σ σ2 := by
  obtain ⟨a1, p1, b1, c1⟩ := h
  obtain ⟨a2, p2, b2, c2⟩ := h'
  refine ⟨fun t ht => ?_, p2 ++ p1, by rw [b2, b1, List.append_assoc], fun i hi => ?_⟩
  · simp only [List.mem_append, not_or] at ht
    rw [a2 t ht.2, a1 t ht.1]
  · simp only [List.mem_append, not_or] at hi
    rw [c2 i hi.1, c1 i hi.2]

theorem Kept.mono {D D' : List Nat} {σ σ' : S} (h : Kept D σ σ') (hd : ∀ t ∈ D, t ∈ D') : Kept D' σ σ' :=
  ⟨fun t ht => h.1 t fun hm => ht (hd t hm), h.2⟩

theorem freshIds_of {σ σ1 : S} {pre : List Nat} (h : σ1.ids = pre ++ σ.ids) : freshIds σ σ1 = pre := by
  unfold freshIds
  rw [h, List.length_append]
  have : pre.length + σ.ids.length - σ.ids.length = pre.length := by omega
  rw [this, List.take_left']
  rfl

theorem Kept.merge {B : Bool} {σ σ1 σ2 : S} {D : List Nat} : Kept D σ (mergeS B σ D σ1 σ2) := by
  refine ⟨fun t ht => ?_, freshIds σ σ1 ++ freshIds σ σ2, rfl, fun i hi => ?_⟩
  · have : D.contains t = false := by simpa using ht
    simp only [mergeS, this, cond_false]
  · have : (freshIds σ σ1 ++ freshIds σ σ2).contains i = false := by simpa using hi
    simp only [mergeS, this, cond_false]

theorem St.merge {B : Bool} {base : Nat} {X G : Nat → Prop} {τ : Nat → Gh} {σ σ1 σ2 : S} {D : List Nat} {a : Act} {w : World} (h1 : Kept D σ σ1) (h2 : Kept D σ σ2) (n1 : σ1.n = σ.n) (n2 : σ2.n = σ.n)
    (hs : St base X G τ (bif B then σ1 else σ2) a w) : St base X G τ (mergeS B σ D σ1 σ2) a w := by
  obtain ⟨a1, p1, b1, c1⟩ := h1
  obtain ⟨a2, p2, b2, c2⟩ := h2
  have hpre : freshIds σ σ1 ++ freshIds σ σ2 = p1 ++ p2 := by rw [freshIds_of b1, freshIds_of b2]
  have henv : ∀ t, (bif B then σ1 else σ2).env t = bif B then σ1.env t else σ2.env t := fun t => by cases B <;> rfl
  have hst : ∀ t, (bif B then σ1 else σ2).st t = bif B then σ1.st t else σ2.st t := fun t => by cases B <;> rfl
  have hids : ∀ i, i ∈ (bif B then σ1 else σ2).ids → i ∈ (mergeS B σ D σ1 σ2).ids := by
    intro i hi
    show i ∈ (freshIds σ σ1 ++ freshIds σ σ2) ++ σ.ids
    rw [hpre]
    cases B with
    | true =>
      have hi : i ∈ σ1.ids := hi
      rw [b1] at hi
      simp only [List.mem_append] at hi ⊢
      rcases hi with hi | hi
      · exact .inl (.inl hi)
      · exact .inr hi
    | false =>
      have hi : i ∈ σ2.ids := hi
      rw [b2] at hi
      simp only [List.mem_append] at hi ⊢
      rcases hi with hi | hi
      · exact .inl (.inr hi)
      · exact .inr hi
  have hobj : ∀ i o, (mergeS B σ D σ1 σ2).st i = some o → ∃ p, (bif B then σ1 else σ2).st i = some p ∧ (∀ j ∈ idsObj o, j ∈ idsObj p) ∧ (p.ok w G τ i → o.ok w G τ i) := by
    intro i o ho
    simp only [mergeS, hpre] at ho
    cases hc : (p1 ++ p2).contains i with
    | true =>
      simp only [hc, cond_true] at ho
      rw [hst]
      exact mergeO_ok ho
    | false =>
      simp only [hc, cond_false] at ho
      have hni : i ∉ p1 ++ p2 := by simpa using hc
      simp only [List.mem_append, not_or] at hni
      refine ⟨o, ?_, fun _ h => h, fun h => h⟩
      rw [hst, c1 i hni.1, c2 i hni.2]
      cases B <;> exact ho
  refine ⟨⟨hs.mem.gold, fun i o ho => ?_, fun i o b ho hb => ?_, fun i j o p b hi hj h1 h2 => ?_⟩, hs.base, ?_, fun t => ?_, fun t i hi => ?_, fun i o ho => ?_, hs.defers⟩
  · obtain ⟨p, k1, _, k3⟩ := hobj i o ho
    exact k3 (hs.mem.ok i p k1)
  · obtain ⟨p, k1, _, _⟩ := hobj i o ho
    exact hs.mem.own i p b k1 hb
  · obtain ⟨p1, k1, _, _⟩ := hobj i o hi
    obtain ⟨p2, k2, _, _⟩ := hobj j p hj
    exact hs.mem.inj i j p1 p2 b k1 k2 h1 h2
  · rw [hs.size]
    show (bif B then σ1 else σ2).n = σ.n
    cases B
    · exact n2
    · exact n1
  · have := hs.env t
    rw [henv] at this
    cases hc : D.contains t with
    | true =>
      simp only [mergeS, hc, cond_true]
      exact mergeV_rep this
    | false =>
      simp only [mergeS, hc, cond_false]
      have ht : t ∉ D := by simpa using hc
      rw [a1 t ht, a2 t ht] at this
      cases B <;> exact this
  · have hi2 : i ∈ (bif B then σ1 else σ2).ids := by
      refine hs.ids t i ?_
      rw [henv]
      cases hc : D.contains t with
      | true =>
        simp only [mergeS, hc, cond_true] at hi
        exact mergeV_ids i hi
      | false =>
        simp only [mergeS, hc, cond_false] at hi
        have ht : t ∉ D := by simpa using hc
        rw [a1 t ht, a2 t ht]
        cases B <;> exact hi
    exact hids i hi2
  · obtain ⟨p, k1, k2, _⟩ := hobj i o ho
    obtain ⟨g1, g2⟩ := hs.objs i p k1
    exact ⟨hids i g1, fun j hj => hids j (g2 j (k2 j hj))⟩

theorem allP_spec : ∀ {ps : List Prop}, allP ps → ∀ p ∈ ps, p
  | [], _, p, hp => by simp at hp
  | [q], h, p, hp => by rw [List.mem_singleton] at hp; rw [hp]; exact h
  | q :: r :: l, h, p, hp => by
    obtain ⟨h1, h2⟩ := h
    rcases List.mem_cons.1 hp with rfl | hp
    · exact h1
    · exact allP_spec h2 p hp

theorem orP_true {B : Bool} {ps qs : List Prop} (h : ∀ p ∈ orP B ps qs, p) (hb : B = true) : ∀ p ∈ ps, p := by
  cases ps with
  | nil => simp
  | cons a l => exact allP_spec (h (B = true → allP (a :: l)) (by simp [orP]) hb)

theorem orP_false {B : Bool} {ps qs : List Prop} (h : ∀ p ∈ orP B ps qs, p) (hb : B = false) : ∀ p ∈ qs, p := by
  cases qs with
  | nil => simp
  | cons a l => exact allP_spec (h (B = false → allP (a :: l)) (by simp [orP]) hb)

end Go.Proofs.Ytfpdlamjlbpmkaa.E
