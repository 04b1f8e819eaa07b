/- Contracts of library functions: what all of them use. -/
import Derived.Test.YtfpdlamjlbpmkaaEngX
namespace Go.Proofs.Ytfpdlamjlbpmkaa.E
open Go
set_option linter.unusedSimpArgs false

/-- What is said of an object need not be said. -/
theorem Contract.drop0 {P : Program} {f : FuncId} {args : List V} {objs : List E.Obj} {r : V} {o : Option E.Obj} {os : List (Option E.Obj)} (h : Contract P f args objs r (o :: os)) : Contract P f args objs r (none :: os) := by
  refine ⟨h.goes, fun w G X τ vals hm hX ha => Calls.mono (h.calls w G X τ vals hm hX ha) ?_⟩
  rintro e w' ⟨v, G', τ', rfl, h1, h2, h3, h4⟩
  have sub : ∀ i p, objsAt' (none :: os) i = some p → objsAt' (o :: os) i = some p := by
    intro i p hp
    cases i with
    | zero => simp [objsAt'] at hp
    | succ i => simpa [objsAt'] using hp
  exact ⟨v, G', τ', rfl, h1, h2, h3, h4.gold, fun i p hp => h4.ok i p (sub i p hp), fun i p b hp => h4.own i p b (sub i p hp), fun i j p q b hp hq => h4.inj i j p q b (sub i p hp) (sub j q hq)⟩

/-- A slice that is owned, by its block: however much room there is. -/
theorem Contract.own {P : Program} {f : FuncId} {args : List V} {objs : List E.Obj} {n : Nat} {rows : List (List V)} {r : V} {os : List (Option E.Obj)}
    (h : ∀ c, rows.length ≤ c → Contract P f (.vw 0 n 0 rows.length :: args) (.blk n rows c :: objs) r os) : Contract P f (.own 0 :: args) (.arr n rows :: objs) r os := by
  refine ⟨(h _ (Nat.le_refl _)).goes, fun w G X τ vals hm hX ha => ?_⟩
  have hok := hm.ok 0 _ rfl
  simp only [Obj.ok] at hok
  have hc := h (τ 0).cap hok.2.1
  have sub : ∀ i p, objsAt (.blk n rows (τ 0).cap :: objs) i = some p → (i = 0 ∧ p = .blk n rows (τ 0).cap) ∨ (i ≠ 0 ∧ objsAt (.arr n rows :: objs) i = some p) := by
    intro i p hp
    cases i with
    | zero => left; simp [objsAt] at hp; exact ⟨rfl, hp.symm⟩
    | succ i => right; exact ⟨by omega, by simpa [objsAt] using hp⟩
  have tot : ∀ i p, objsAt (.blk n rows (τ 0).cap :: objs) i = some p → ∃ q, objsAt (.arr n rows :: objs) i = some q := by
    intro i p hp
    rcases sub i p hp with ⟨rfl, _⟩ | ⟨_, h⟩
    · exact ⟨_, rfl⟩
    · exact ⟨_, h⟩
  refine Calls.mono (hc.calls w G X τ vals ⟨hm.gold, fun i p hp => ?_, fun i p b hp => ?_, fun i j p q b hp hq => ?_⟩ (fun b hb => ?_) ?_) ?_
  · rcases sub i p hp with ⟨rfl, rfl⟩ | ⟨_, h⟩
    · simp only [Obj.ok]; exact ⟨trivial, hok.2⟩
    · exact hm.ok i p h
  · obtain ⟨q, hq⟩ := tot i p hp
    exact hm.own i q b hq
  · obtain ⟨p', hp'⟩ := tot i p hp
    obtain ⟨q', hq'⟩ := tot j q hq
    exact hm.inj i j p' q' b hp' hq'
  · obtain ⟨i, o, h1, h2⟩ := hX b hb
    cases i with
    | zero => exact ⟨0, _, rfl, h2⟩
    | succ i => exact ⟨i + 1, o, by simpa [objsAt] using h1, h2⟩
  · cases hv : vals.toList with
    | nil => rw [hv] at ha; simp only [repL] at ha
    | cons x xs =>
      rw [hv] at ha
      simp only [repL] at ha ⊢
      refine ⟨?_, ha.2⟩
      have h1 := ha.1
      simp only [V.rep, Gh.hdr, hok.1] at h1
      simp only [V.rep]
      refine ⟨_, h1, Nat.zero_le _, hok.2.1, .inl ?_⟩
      rcases hok.2.2 with ⟨_, e2, _⟩ | ⟨b, _, _, _, _, e2, _⟩
      · rw [e2]; rfl
      · rw [e2]; simp [add_plain]
  · rintro e w' ⟨v, G', τ', rfl, h1, h2, h3, h4⟩
    exact ⟨v, G', τ', rfl, h1, fun i hi => h2 i (by simpa using hi), h3, h4⟩

theorem i64_small {n : Int} (h : -9223372036854775808 ≤ n ∧ n ≤ 9223372036854775807) : IntKind.i64.wrap n = n := Go.IntWalk.i64_in _ h

theorem over_app {X Y S : List (List V)} {a : Nat} (h : a = X.length) : over (X ++ Y) a S = X ++ S ++ Y.drop S.length := by
  subst h
  unfold over
  rw [List.take_left', List.drop_append, List.drop_of_length_le (by omega)]
  · simp
  · rfl

theorem ins1 {rows : List (List V)} {row z : List V} {k a m : Nat} (ha : a = k) (hk : k ≤ rows.length) (hm : 0 < m) :
    over (rows.take k ++ List.replicate (rows.length + 1 - k) z) a (List.take m [row]) = rows.take k ++ row :: List.replicate (rows.length - k) z := by
  have e2 : List.take m [row] = [row] := List.take_of_length_le (by simp; omega)
  rw [e2, over_app (by simp; omega)]
  simp only [List.length_cons, List.length_nil, List.append_assoc, List.cons_append, List.nil_append, List.drop_replicate]
  congr 3
  omega

theorem ins2 {rows : List (List V)} {row z : List V} {k a b m : Nat} (ha : a = k + 1) (hb : b = k) (hk : k ≤ rows.length) (hm : rows.length - k ≤ m) :
    over (rows.take k ++ row :: List.replicate (rows.length - k) z) a (List.take m (List.drop b rows)) = rows.take k ++ row :: rows.drop k := by
  subst ha hb
  rw [List.take_of_length_le (i := m) (l := List.drop b rows) (by simp; omega)]
  have e : rows.take b ++ row :: List.replicate (rows.length - b) z = (rows.take b ++ [row]) ++ List.replicate (rows.length - b) z := by simp
  rw [e, over_app (by simp; omega)]
  simp

theorem ins3 {rows : List (List V)} {k a b m : Nat} (ha : a = k + 1) (hb : b = k) (hk : k < rows.length) (hm : rows.length - k ≤ m) :
    over rows a (List.take m (List.drop b rows)) = rows.take (k + 1) ++ rows.drop k := by
  subst ha hb
  rw [List.take_of_length_le (i := m) (l := List.drop b rows) (by simp; omega)]
  unfold over
  rw [List.drop_of_length_le (i := b + 1 + (List.drop b rows).length) (by simp; omega)]
  simp

theorem ins4 {rows : List (List V)} {row : List V} {k a m : Nat} (ha : a = k) (hk : k < rows.length) (hm : 0 < m) :
    over (rows.take (k + 1) ++ rows.drop k) a (List.take m [row]) = rows.take k ++ row :: rows.drop k := by
  subst ha
  have e2 : List.take m [row] = [row] := List.take_of_length_le (by simp; omega)
  rw [e2]
  unfold over
  have h1 : (rows.take (a + 1) ++ rows.drop a).take a = rows.take a := by rw [List.take_append_of_le_length (by simp; omega), List.take_take]; congr 1; omega
  have h2 : (rows.take (a + 1) ++ rows.drop a).drop (a + [row].length) = rows.drop a := by
    rw [List.drop_append, List.drop_of_length_le (by simp; omega)]
    simp only [List.length_cons, List.length_nil, List.length_take, List.nil_append]
    rw [show a + (0 + 1) - min (a + 1) rows.length = 0 by omega]; rfl
  rw [h1, h2]
  simp

/-- A slice without rows is nil, or it is not. -/
theorem Contract.slNil {P : Program} {f : FuncId} {args : List V} {objs : List E.Obj} {n : Nat} {r : V} {os : List (Option E.Obj)} (h1 : ∀ c, Contract P f (.val (.slice none 0 c) :: args) objs r os) (h2 : ∀ A c, Contract P f (.val (.slice (some A) 0 c) :: args) objs r os) : Contract P f (.sl n [] :: args) objs r os := by
  refine ⟨(h1 0).goes, fun w G X τ vals hm hX ha => ?_⟩
  cases hv : vals.toList with
  | nil => rw [hv] at ha; simp only [repL] at ha
  | cons x xs =>
    have ha' := ha
    rw [hv] at ha
    simp only [repL] at ha
    have h := ha.1
    simp only [V.rep, V.repI] at h
    obtain ⟨a, cap, hx, _, _⟩ := h
    cases a with
    | some A =>
      refine (h2 A cap).calls w G X τ vals hm hX ?_
      rw [hv]
      simp only [repL]
      exact ⟨by simp only [V.rep, V.repI]; exact hx, ha.2⟩
    | none =>
      refine (h1 cap).calls w G X τ vals hm hX ?_
      rw [hv]
      simp only [repL]
      exact ⟨by simp only [V.rep, V.repI]; exact hx, ha.2⟩

/-- A slice that is nil is one without rows. -/
theorem Contract.ofNil {P : Program} {f : FuncId} {args : List V} {objs : List E.Obj} {n c : Nat} {r : V} {os : List (Option E.Obj)} (h : Contract P f (.sl n [] :: args) objs r os) : Contract P f (.val (.slice none 0 c) :: args) objs r os := by
  refine ⟨h.goes, fun w G X τ vals hm hX ha => h.calls w G X τ vals hm hX ?_⟩
  cases hv : vals.toList with
  | nil => rw [hv] at ha; simp only [repL] at ha
  | cons x xs =>
    rw [hv] at ha
    simp only [repL] at ha ⊢
    refine ⟨?_, ha.2⟩
    have h := ha.1
    simp only [V.rep, V.repI] at h ⊢
    exact ⟨none, c, h, Nat.zero_le _, .inl trivial⟩

/-- What is made and owned may be read only from then on. -/
theorem Contract.froze {P : Program} {f : FuncId} {args : List V} {n : Nat} {rows : List (List V)} (h : Contract P f args [] (.own 0) [some (.arr n rows)]) : Contract P f args [] (.sl n rows) [] := by
  refine ⟨h.goes, fun w G X τ vals hm hX ha => Calls.mono (h.calls w G X τ vals hm hX ha) ?_⟩
  rintro e w' ⟨v, G', τ', rfl, h1, h2, h3, h4⟩
  have hno : ∀ b, ¬ X b := fun b hb => by obtain ⟨i, o, h, _⟩ := hX b hb; simp [objsAt] at h
  have hok := h4.ok 0 _ rfl
  simp only [Obj.ok, rowsOk] at hok
  simp only [V.rep, Gh.hdr] at h3
  have hmo : ∀ b, G' b → (G' b ∨ (τ' 0).blk = some b) ∧ w'.heap[b]? = w'.heap[b]? := fun b hb => ⟨.inl hb, rfl⟩
  refine ⟨v, fun b => G' b ∨ (τ' 0).blk = some b, τ', rfl, ⟨h1.os, h1.tape, h1.output, h1.size, h1.block, fun b hb => ⟨.inl (h1.keep b hb).1, (h1.keep b hb).2⟩, ?_⟩, fun i hi => by simp at hi, ?_, ⟨?_, ?_, ?_, ?_⟩⟩
  · rintro b (hb | hb)
    · exact h1.grow b hb
    · rcases h4.own 0 _ b rfl hb with h | h
      · exact .inr (.inr h)
      · exact .inr (.inl h)
  · simp only [V.rep, V.repI]
    rw [h3, hok.1]
    refine ⟨_, _, rfl, hok.2.1, ?_⟩
    rcases hok.2.2 with ⟨_, _, hc⟩ | ⟨b, xs, t, fz, hb, ha', _, _, _, _, hr⟩
    · left
      have := hok.2.1
      rw [hc] at this
      exact List.length_eq_zero_iff.1 (by omega)
    · exact .inr ⟨b, 0, ha', .inr hb, repRows_mono hmo n b rfl 0 rows hr⟩
  · rintro b (hb | hb)
    · exact h4.gold b hb
    · rcases hok.2.2 with ⟨hn, _⟩ | ⟨b', xs, t, fz, hb', _, hh, _⟩
      · rw [hn] at hb; cases hb
      · rw [hb'] at hb; cases hb
        exact (Array.getElem?_eq_some_iff.1 hh).1
  · intro i o hi; simp [objsAt'] at hi
  · intro i o b hi; simp [objsAt'] at hi
  · intro i j o o' b hi; simp [objsAt'] at hi

/-! ### what is said less exactly -/

/-- Whatever is said by the one is said by the other. -/
def subV (a b : V) : Prop := ∀ (w : World) (G : Nat → Prop) (x : Value), a.repI w G x → b.repI w G x
def subR : List V → List V → Prop
  | [], [] => True
  | a :: as, b :: bs => subV a b ∧ subR as bs
  | _, _ => False
def subRs : List (List V) → List (List V) → Prop
  | [], [] => True
  | a :: as, b :: bs => subR a b ∧ subRs as bs
  | _, _ => False
theorem subV.rfl {a : V} : subV a a := fun _ _ _ h => h
theorem subR.rfl : ∀ {a : List V}, subR a a
  | [] => trivial
  | _ :: _ => ⟨subV.rfl, subR.rfl⟩
theorem subV.nil {n c : Nat} : subV (.val (.slice none 0 c)) (.sl n []) := by
  intro w G x h
  simp only [V.repI] at h ⊢
  exact ⟨none, c, h, Nat.zero_le _, .inl trivial⟩
theorem subR.last {cs : List V} {a b : V} (h : subV a b) : subR (cs ++ [a]) (cs ++ [b]) := by
  induction cs with
  | nil => exact ⟨h, trivial⟩
  | cons c cs ih => exact ⟨subV.rfl, ih⟩
theorem subR.len : ∀ {a b : List V}, subR a b → a.length = b.length
  | [], [], _ => Eq.refl _
  | _ :: _, _ :: _, h => by simp [subR.len h.2]
  | [], _ :: _, h => h.elim
  | _ :: _, [], h => h.elim
theorem subRs.len : ∀ {a b : List (List V)}, subRs a b → a.length = b.length
  | [], [], _ => Eq.refl _
  | _ :: _, _ :: _, h => by simp [subRs.len h.2]
  | [], _ :: _, h => h.elim
  | _ :: _, [], h => h.elim
theorem subR.cells {w : World} {G : Nat → Prop} {b : Nat} : ∀ {cs ds : List V}, subR cs ds → ∀ {o : Nat}, repCells w G b o cs → repCells w G b o ds
  | [], [], _, _, h => h
  | c :: cs, d :: ds, hs, o, h => by
    simp only [repCells] at h ⊢
    obtain ⟨⟨x, h1, h2, h3⟩, h4⟩ := h
    exact ⟨⟨x, h1, h2, hs.1 w G x h3⟩, hs.2.cells h4⟩
  | [], _ :: _, h, _, _ => h.elim
  | _ :: _, [], h, _, _ => h.elim
theorem subRs.rows {w : World} {G : Nat → Prop} {n b : Nat} : ∀ {rs ss : List (List V)}, subRs rs ss → ∀ {o : Nat}, repRows w G n b o rs → repRows w G n b o ss
  | [], [], _, _, h => h
  | c :: cs, d :: ds, hs, o, h => by
    simp only [repRows] at h ⊢
    exact ⟨by rw [← hs.1.len]; exact h.1, hs.1.cells h.2.1, hs.2.rows h.2.2⟩
  | [], _ :: _, h, _, _ => h.elim
  | _ :: _, [], h, _, _ => h.elim
theorem subRs.sl {n : Nat} {rs ss : List (List V)} (h : subRs rs ss) : subV (.sl n rs) (.sl n ss) := by
  intro w G x hx
  simp only [V.repI] at hx ⊢
  obtain ⟨a, cap, h1, h2, h3⟩ := hx
  refine ⟨a, cap, by rw [← h.len]; exact h1, by rw [← h.len]; exact h2, ?_⟩
  rcases h3 with h3 | ⟨b, o, h4, h5, h6⟩
  · subst h3
    cases ss with
    | nil => exact .inl _root_.rfl
    | cons _ _ => exact h.elim
  · exact .inr ⟨b, o, h4, h5, h.rows h6⟩
def subA (a b : V) : Prop := ∀ (w : World) (G : Nat → Prop) (τ : Nat → Gh) (x : Value), a.rep w G τ x → b.rep w G τ x
theorem subA.rfl {a : V} : subA a a := fun _ _ _ _ h => h
theorem subA.nil {n c : Nat} : subA (.val (.slice none 0 c)) (.sl n []) := by
  intro w G τ x h
  simp only [V.rep] at h ⊢
  exact subV.nil w G x h
theorem subRs.arg {n : Nat} {rs ss : List (List V)} (h : subRs rs ss) : subA (.sl n rs) (.sl n ss) := by
  intro w G τ x hx
  simp only [V.rep] at hx ⊢
  exact h.sl w G x hx
def subAs : List V → List V → Prop
  | [], [] => True
  | a :: as, b :: bs => subA a b ∧ subAs as bs
  | _, _ => False
theorem subAs.rfl : ∀ {a : List V}, subAs a a
  | [] => trivial
  | _ :: _ => ⟨subA.rfl, subAs.rfl⟩
theorem subAs.repL {w : World} {G : Nat → Prop} {τ : Nat → Gh} : ∀ {as bs : List V} {xs : List Value}, subAs as bs → E.repL w G τ as xs → E.repL w G τ bs xs
  | [], [], _, _, h => h
  | a :: as, b :: bs, [], _, h => by simp only [E.repL] at h
  | a :: as, b :: bs, x :: xs, hs, h => by
    simp only [E.repL] at h ⊢
    exact ⟨hs.1 w G τ x h.1, hs.2.repL h.2⟩
  | [], _ :: _, _, h, _ => h.elim
  | _ :: _, [], _, h, _ => h.elim
/-- A contract for arguments of which less is known is one for those of which more is. -/
theorem Contract.subs {P : Program} {f : FuncId} {args args' : List V} {objs : List E.Obj} {r : V} {os : List (Option E.Obj)} (h : Contract P f args objs r os) (hs : subAs args' args) : Contract P f args' objs r os :=
  ⟨h.goes, fun w G X τ vals hm hX ha => h.calls w G X τ vals hm hX (hs.repL ha)⟩

def idxI {α : Type} (p : α → Bool) (l : List α) : Int := match l.findIdx? p with
  | some j => (j : Int)
  | none => -1

theorem del1 {rows : List (List V)} {i b m : Nat} (hb : b = i) (hi : i ≤ m) : over rows b (List.take (rows.length - m) (List.drop m rows)) = rows.take i ++ rows.drop m ++ rows.drop (i + (rows.length - m)) := by
  subst hb
  rw [List.take_of_length_le (by simp)]
  unfold over
  simp
theorem del2 {rows : List (List V)} {z : List V} {i j : Nat} (hi : i ≤ j) (hj : j ≤ rows.length) :
    over (rows.take i ++ rows.drop j ++ rows.drop (i + (rows.length - j))) (i + (rows.length - j)) (List.replicate (rows.length - (i + (rows.length - j))) z) = rows.take i ++ rows.drop j ++ List.replicate (j - i) z := by
  have e1 : rows.length - (i + (rows.length - j)) = j - i := by omega
  have e2 : List.drop (i + (rows.length - j) + (j - i)) rows = [] := List.drop_of_length_le (by omega)
  rw [over_app (by simp; omega), e1]
  simp only [List.length_replicate, List.drop_drop, e2, List.append_nil]
theorem del3 {rows : List (List V)} {z : List V} {i j : Nat} (hi : i ≤ j) (hj : j ≤ rows.length) :
    List.take (i + (rows.length - j)) (rows.take i ++ rows.drop j ++ List.replicate (j - i) z) = rows.take i ++ rows.drop j := by
  rw [List.take_left' (by simp; omega)]

/-- A loop that goes through a list. -/
theorem LoopC.fold {P : Program} {k n : Nat} {c : Code} {α σ : Type} (l : List α) (step : σ → α → σ) (inv : Nat → σ → Prop) (S : σ → Nat → SL) {e : Ex} (he : e ≠ .normal)
    (hround : ∀ (i : Nat) (s : σ) (x : α), l[i]? = some x → i < l.length → inv i s → CodeC P k n c (S s i) .normal (S (step s x) (i + 1)) ∧ inv (i + 1) (step s x))
    (hend : ∀ s, inv l.length s → CodeC P k n c (S s l.length) e (S s l.length)) (s : σ) (h0 : inv 0 s) : LoopC P k n c (S s 0) e (S (l.foldl step s) l.length) := by
  have key : ∀ (m i : Nat) (s : σ), i + m = l.length → inv i s → LoopC P k n c (S s i) e (S ((l.drop i).foldl step s) l.length) := by
    intro m
    induction m with
    | zero =>
      intro i s hi h
      have : i = l.length := by omega
      subst this
      rw [List.drop_length]
      exact LoopC.last (hend s h) he
    | succ m ih =>
      intro i s hi h
      have hlt : i < l.length := by omega
      obtain ⟨r, h'⟩ := hround i s l[i] (by simp [hlt]) hlt h
      rw [List.drop_eq_getElem_cons hlt, List.foldl_cons]
      exact LoopC.next r (ih (i + 1) _ (by omega) h')
  have := key l.length 0 s (by omega) h0
  simpa only [List.drop_zero] using this

/-- What holds all along. -/
theorem foldl_inv {α σ : Type} (step : σ → α → σ) (inv : Nat → σ → Prop) : ∀ (l : List α) (i : Nat) (s : σ), inv i s → (∀ i s x, x ∈ l → inv i s → inv (i + 1) (step s x)) → inv (i + l.length) (l.foldl step s)
  | [], i, s, h, _ => h
  | x :: l, i, s, h, hs => by
    rw [List.foldl_cons, List.length_cons, show i + (l.length + 1) = (i + 1) + l.length by omega]
    exact foldl_inv step inv l (i + 1) _ (hs i s x (by simp) h) fun i s y hy => hs i s y (by simp [hy])

theorem u64_small {n : Int} (h : 0 ≤ n ∧ n ≤ 9223372036854775807) : IntKind.u64.wrap n = n := by
  simp only [IntKind.wrap]
  simp [IntKind.signed, IntKind.bits]
  omega

theorem clear1 {α : Type} {f : α → List V} {R : List α} {L i a m : Nat} {z : List V} (hR : R.length = L) (hi : i ≤ L) (ha : a = i) (hm : m = L - i) : over (R.map f) a (List.replicate m z) = (R.take i).map f ++ List.replicate (L - i) z := by
  subst ha hm
  unfold over
  rw [List.drop_of_length_le (by simp; omega)]
  simp [List.map_take]
theorem clear2 {α : Type} {f : α → List V} {R K : List α} {L i m : Nat} {z : List V} (hR : R.length = L) (hi : i ≤ L) (hK : R.take i = K) (hm : m = i) : List.take m ((R.take i).map f ++ List.replicate (L - i) z) = K.map f := by
  subst hm
  rw [List.take_left' (by simp; omega), hK]
theorem setRow {α : Type} (f : α → List V) (R : List α) (i : Nat) (x : α) : (R.map f).set i (f x) = (R.set i x).map f := by simp [List.map_set]

/-- A loop that goes through a list and may stop at an element. -/
theorem LoopC.search {P : Program} {k n : Nat} {c : Code} {α : Type} (l : List α) (bad : Nat → α → Bool) (S T : Nat → SL) {e1 e2 : Ex} (he1 : e1 ≠ .normal) (he2 : e2 ≠ .normal)
    (hgo : ∀ (i : Nat) (x : α), l[i]? = some x → i < l.length → bad i x = false → CodeC P k n c (S i) .normal (S (i + 1)))
    (hstop : ∀ (i : Nat) (x : α), l[i]? = some x → i < l.length → bad i x = true → CodeC P k n c (S i) e1 (T i))
    (hend : CodeC P k n c (S l.length) e2 (S l.length)) :
    (∃ i x, l[i]? = some x ∧ bad i x = true ∧ (∀ j y, j < i → l[j]? = some y → bad j y = false) ∧ LoopC P k n c (S 0) e1 (T i)) ∨ ((∀ i x, l[i]? = some x → bad i x = false) ∧ LoopC P k n c (S 0) e2 (S l.length)) := by
  have key : ∀ (m i : Nat), i + m = l.length → (∀ j y, j < i → l[j]? = some y → bad j y = false) →
      (∃ i' x, l[i']? = some x ∧ bad i' x = true ∧ (∀ j y, j < i' → l[j]? = some y → bad j y = false) ∧ LoopC P k n c (S i) e1 (T i')) ∨ ((∀ i x, l[i]? = some x → bad i x = false) ∧ LoopC P k n c (S i) e2 (S l.length)) := by
    intro m
    induction m with
    | zero =>
      intro i hi h
      have : i = l.length := by omega
      subst this
      refine .inr ⟨fun j y hy => h j y (List.getElem?_eq_some_iff.1 hy).1 hy, LoopC.last hend he2⟩
    | succ m ih =>
      intro i hi h
      have hlt : i < l.length := by omega
      have hx : l[i]? = some l[i] := List.getElem?_eq_getElem hlt
      cases hb : bad i l[i] with
      | true => exact .inl ⟨i, l[i], hx, hb, h, LoopC.last (hstop i l[i] hx hlt hb) he1⟩
      | false =>
        have h' : ∀ j y, j < i + 1 → l[j]? = some y → bad j y = false := by
          intro j y hj hy
          by_cases e : j = i
          · subst e
            rw [hx] at hy
            cases hy
            exact hb
          · exact h j y (by omega) hy
        rcases ih (i + 1) (by omega) h' with ⟨i', x, k1, k2, k3, k4⟩ | ⟨k1, k2⟩
        · exact .inl ⟨i', x, k1, k2, k3, LoopC.next (hgo i l[i] hx hlt hb) k4⟩
        · exact .inr ⟨k1, LoopC.next (hgo i l[i] hx hlt hb) k2⟩
  exact key l.length 0 (by omega) (fun j y hj => by omega)

theorem find_first {α : Type} {p : α → Bool} {l : List α} {i : Nat} {x : α} (h : l[i]? = some x) (hp : p x = true) (hf : ∀ (j : Nat) (y : α), j < i → l[j]? = some y → p y = false) : l.find? p = some x := by
  induction l generalizing i with
  | nil => simp at h
  | cons y l ih =>
    rw [List.find?_cons]
    cases i with
    | zero =>
      simp at h
      subst h
      rw [hp]
    | succ i =>
      rw [hf 0 y (by omega) (by simp)]
      exact ih (by simpa using h) fun j z hj hz => hf (j + 1) z (by omega) (by simpa using hz)
theorem find_none {α : Type} {p : α → Bool} {l : List α} (h : ∀ (i : Nat) (x : α), l[i]? = some x → p x = false) : l.find? p = none := by
  rw [List.find?_eq_none]
  intro x hx
  obtain ⟨i, hi⟩ := List.getElem?_of_mem hx
  simp [h i x hi]

theorem tf (b : Bool) : b = true ∨ b = false := by cases b <;> simp
theorem Contract.cast {P : Program} {f : FuncId} {args : List V} {objs : List E.Obj} {r r' : V} {os os' : List (Option E.Obj)} (hr : r = r') (ho : os = os') (h : Contract P f args objs r' os') : Contract P f args objs r os := by subst hr; subst ho; exact h
theorem CodeC.cast {P : Program} {k n : Nat} {c : Code} {s0 s s' : SL} {e : Ex} (hs : s = s') (h : CodeC P k n c s0 e s') : CodeC P k n c s0 e s := by subst hs; exact h

end Go.Proofs.Ytfpdlamjlbpmkaa.E
