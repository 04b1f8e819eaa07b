/- The engine, part W: what is handed in, as terms. -/
import Derived.Test.YtfpdlamjlbpmkaaEngU
import Derived.ProofKit
namespace Go.Proofs.Ytfpdlamjlbpmkaa.E
open Go
set_option linter.unusedSimpArgs false

def catFields (T : TypeId → List V → Prop) : List Field → List V → Prop
  | [], vs => vs = []
  | f :: fs, vs => ∃ a b, vs = a ++ b ∧ T f.type a ∧ catFields T fs b

def catN (T : List V → Prop) : Nat → List V → Prop
  | 0, vs => vs = []
  | n + 1, vs => ∃ a b, vs = a ++ b ∧ T a ∧ catN T n b

/-- The cells of a value of a type, as terms. -/
def Typed (P : Program) : Nat → TypeId → List V → Prop
  | 0, _, _ => False
  | d + 1, t, vs => match P.underlying t with
    | some .bool => ∃ b, vs = [.val (.bool b)]
    | some (.int k) => ∃ n, vs = [.val (.int k n)] ∧ (Lit.int k n).wf = true
    | some .string => ∃ s, vs = [.val (.string s)] ∧ s.size ≤ maxLen
    | some (.slice e) => ∃ rows, vs = [.sl (P.cellsOf e) rows] ∧ rows.length ≤ maxLen ∧ ∀ r ∈ rows, Typed P d e r
    | some (.struct fs) => catFields (Typed P d) fs.toList vs
    | some (.array n e) => catN (Typed P d e) n vs
    | _ => False

def tiles (P : Program) : Nat → List Field → Nat → Bool
  | o, [], n => o == n
  | o, f :: fs, n => f.offset == o && tiles P (o + P.cellsOf f.type) fs n

/-- Types whose values are read so. -/
def readable (P : Program) : Nat → TypeId → Bool
  | 0, _ => false
  | d + 1, t => match P.underlying t with
    | some .bool => true
    | some (.int _) => true
    | some .string => true
    | some (.slice e) => Nat.ble 1 (P.cellsOf e) && readable P d e
    | some (.struct fs) => tiles P 0 fs.toList (P.cellsOf t) && fs.toList.all fun f => readable P d f.type
    | some (.array n e) => n * P.cellsOf e == P.cellsOf t && readable P d e
    | _ => false

theorem repCells_at {w : World} {G : Nat → Prop} {b : Nat} : ∀ {cs : List V} {xs : List Value} {o : Nat}, repIL w G cs xs → (∀ i x, xs[i]? = some x → w.cell? ⟨b, o + i, none⟩ = some x) → repCells w G b o cs
  | [], [], _, _, _ => by simp only [repCells]
  | [], _ :: _, _, hr, _ => by simp only [repIL] at hr
  | _ :: _, [], _, hr, _ => by simp only [repIL] at hr
  | c :: cs, x :: xs, o, hr, h => by
    simp only [repIL] at hr
    simp only [repCells]
    refine ⟨⟨x, by simpa using h 0 x (by simp), hr.1.2, hr.1.1⟩, repCells_at hr.2 fun i y hy => ?_⟩
    have := h (i + 1) y (by simpa using hy)
    rwa [show o + (i + 1) = o + 1 + i by omega] at this

section
variable {H : Type} {enc : TypeId × Value → H} {P : Program} {w : World}

/-- Every block that is there. -/
def Old (w : World) : Nat → Prop := fun b => b < w.heap.size

theorem cell_old {a : Addr} {x : Value} (h : w.cell? a = some x) : a.spot = none ∧ a.block < w.heap.size := by
  unfold World.cell? at h
  split at h
  · rename_i hb
    refine ⟨?_, lt_of_get hb⟩
    cases hs : a.spot with
    | none => rfl
    | some s => simp [hs] at h
  · simp at h

theorem rows_of {T : List V → Prop} {a : Addr} {n : Nat} (hn : 1 ≤ n) : ∀ (len k : Nat) (elems : List (DataW H × List MemPlace)) (f : List Value → Option (DataW H × List MemPlace)),
    (∀ cs x, f cs = some x → ∃ vs, T vs ∧ repIL w (Old w) vs cs) →
    ((List.range' k len).mapM fun i => (w.cells? 0 (a.add (i * n)) n).bind f) = some elems →
    ∃ rows : List (List V), rows.length = len ∧ (∀ r ∈ rows, T r) ∧ (len = 0 ∨ (a.block < w.heap.size ∧ (k = 0 → a.spot = none))) ∧ repRows w (Old w) n a.block (a.off + k * n) rows
  | 0, k, elems, f, hf, h => ⟨[], rfl, by simp, .inl rfl, by simp only [repRows]⟩
  | len + 1, k, elems, f, hf, h => by
    rw [List.range'_succ, List.mapM_cons] at h
    cases h1 : (w.cells? 0 (a.add (k * n)) n).bind f with
    | none => simp [h1] at h
    | some x =>
      cases h2 : (List.range' (k + 1) len).mapM fun i => (w.cells? 0 (a.add (i * n)) n).bind f with
      | none => simp [h1, h2] at h
      | some xs =>
        obtain ⟨cs, hcs, hfx⟩ := Option.bind_eq_some_iff.1 h1
        obtain ⟨vs, hT, hrep⟩ := hf cs x hfx
        obtain ⟨rows, e1, e2, e3, e4⟩ := rows_of hn len (k + 1) xs f hf h2
        obtain ⟨_, hl, hc⟩ := World.cells?_some hcs
        have hcell : ∀ i y, cs[i]? = some y → w.cell? ((a.add (k * n)).add i) = some y := by
          intro i y hy
          have hi : i < n := by rw [← hl]; exact (List.getElem?_eq_some_iff.1 hy).1
          rw [hc i hi, hy]
        have h0 : ∃ y, cs[0]? = some y := ⟨cs[0]'(by omega), by simp⟩
        obtain ⟨y, hy⟩ := h0
        have hold := cell_old (hcell 0 y hy)
        have hblk : a.block < w.heap.size := by
          have := hold.2
          simp only [Addr.add] at this
          split at this <;> (try split at this) <;> simpa using this
        refine ⟨vs :: rows, by simp [e1], ?_, .inr ⟨hblk, fun hk => ?_⟩, ?_⟩
        · intro r hr
          rcases List.mem_cons.1 hr with rfl | hr
          · exact hT
          · exact e2 r hr
        · subst hk
          have := hold.1
          simpa [Addr.add] using this
        · simp only [repRows]
          refine ⟨by rw [repIL_length hrep, hl], repCells_at hrep fun i y hy => ?_, ?_⟩
          · have := hcell i y hy
            have hsp := (cell_old this).1
            rw [← this]
            congr 1
            simp only [Addr.add] at hsp ⊢
            by_cases hkn : k * n = 0
            · simp only [hkn, if_true, Nat.add_zero] at hsp ⊢
              by_cases hi : i = 0
              · simp only [hi, if_true, Nat.add_zero] at hsp ⊢
                cases a; simp_all
              · simp only [hi, if_false]
            · simp only [hkn, if_false]
              by_cases hi : i = 0
              · simp only [hi, if_true, Nat.add_zero]
              · simp only [hi, if_false]
          · rw [show a.off + k * n + n = a.off + (k + 1) * n by rw [Nat.succ_mul]; omega]
            exact e4

theorem fields_of {T : TypeId → List V → Prop} {cs : List Value} {N : Nat} (hN : cs.length = N) : ∀ (fs : List Field) (o : Nat) (xs : List (DataW H × List MemPlace)) (f : TypeId → List Value → Option (DataW H × List MemPlace)),
    (∀ g ∈ fs, ∀ cs x, f g.type cs = some x → cs.length = P.cellsOf g.type → ∃ vs, T g.type vs ∧ repIL w (Old w) vs cs) →
    tiles P o fs N = true → (fs.mapM fun g => f g.type ((cs.drop g.offset).take (P.cellsOf g.type))) = some xs →
    o ≤ N ∧ ∃ vs, catFields T fs vs ∧ repIL w (Old w) vs (cs.drop o)
  | [], o, xs, f, _, ht, _ => by
    simp only [tiles, beq_iff_eq] at ht
    refine ⟨by omega, [], rfl, ?_⟩
    rw [List.drop_eq_nil_of_le (by omega)]
    simp only [repIL]
  | g :: fs, o, xs, f, hf, ht, h => by
    simp only [tiles, Bool.and_eq_true, beq_iff_eq] at ht
    rw [List.mapM_cons] at h
    cases h1 : f g.type ((cs.drop g.offset).take (P.cellsOf g.type)) with
    | none => simp [h1] at h
    | some x =>
      cases h2 : fs.mapM fun g => f g.type ((cs.drop g.offset).take (P.cellsOf g.type)) with
      | none => simp [h1, h2] at h
      | some xs2 =>
        obtain ⟨hle, vs2, k1, k2⟩ := fields_of hN fs (o + P.cellsOf g.type) xs2 f (fun g' hg' => hf g' (by simp [hg'])) ht.2 h2
        rw [ht.1] at h1
        obtain ⟨vs1, j1, j2⟩ := hf g (by simp) _ x h1 (by simp; omega)
        refine ⟨by omega, vs1 ++ vs2, ⟨vs1, vs2, rfl, j1, k1⟩, ?_⟩
        rw [show cs.drop o = (cs.drop o).take (P.cellsOf g.type) ++ cs.drop (o + P.cellsOf g.type) by rw [← List.drop_drop, List.take_append_drop]]
        exact repIL_append j2 k2

theorem elems_of {T : List V → Prop} {cs : List Value} {n m : Nat} : ∀ (len k : Nat) (xs : List (DataW H × List MemPlace)) (f : List Value → Option (DataW H × List MemPlace)),
    (∀ cs x, f cs = some x → cs.length = m → ∃ vs, T vs ∧ repIL w (Old w) vs cs) →
    cs.length = (k + len) * m → ((List.range' k len).mapM fun i => f ((cs.drop (i * m)).take m)) = some xs →
    ∃ vs, catN T len vs ∧ repIL w (Old w) vs (cs.drop (k * m))
  | 0, k, xs, f, _, hl, _ => by
    refine ⟨[], rfl, ?_⟩
    rw [List.drop_eq_nil_of_le (by simp at hl; omega)]
    simp only [repIL]
  | len + 1, k, xs, f, hf, hl, h => by
    rw [List.range'_succ, List.mapM_cons] at h
    cases h1 : f ((cs.drop (k * m)).take m) with
    | none => simp [h1] at h
    | some x =>
      cases h2 : (List.range' (k + 1) len).mapM fun i => f ((cs.drop (i * m)).take m) with
      | none => simp [h1, h2] at h
      | some xs2 =>
        obtain ⟨vs2, k1, k2⟩ := elems_of (n := n) len (k + 1) xs2 f hf (by rw [hl]; congr 1; omega) h2
        have hlen : ((cs.drop (k * m)).take m).length = m := by
          have : (k + (len + 1)) * m = k * m + (len * m + m) := by rw [Nat.add_mul, Nat.succ_mul]
          simp [hl]; omega
        obtain ⟨vs1, j1, j2⟩ := hf _ x h1 hlen
        refine ⟨vs1 ++ vs2, ⟨vs1, vs2, rfl, j1, k1⟩, ?_⟩
        rw [show cs.drop (k * m) = (cs.drop (k * m)).take m ++ cs.drop ((k + 1) * m) by rw [Nat.succ_mul, ← List.drop_drop, List.take_append_drop]]
        exact repIL_append j2 k2

theorem trod_terms : ∀ (d fuel : Nat) (t : TypeId) (cs : List Value) (x : DataW H × List MemPlace), readable P d t = true → cs.length = P.cellsOf t → DataW.trod enc P w 0 (fun _ => true) true fuel t cs = some x → ∃ vs, Typed P d t vs ∧ repIL w (Old w) vs cs
  | 0, _, _, _, _, h, _, _ => by simp [readable] at h
  | d + 1, 0, _, _, _, _, _, h => by simp [DataW.trod] at h
  | d + 1, fuel + 1, t, cs, x, hr, hl, h => by
    cases hu : P.underlying t with
    | none => simp [readable, hu] at hr
    | some ty =>
      cases ty with
      | bool =>
        simp only [DataW.trod, hu] at h
        split at h <;> try (simp_all; done)
        rename_i b _
        simp only [Typed, hu]
        exact ⟨_, ⟨b, rfl⟩, by simp [repIL, V.repI, Value.oneCell']⟩
      | int k =>
        simp only [DataW.trod, hu] at h
        split at h <;> try (simp_all; done)
        rename_i k' n he
        split at h
        · rename_i hk
          simp only [Typed, hu]
          obtain ⟨rfl, hwf⟩ := hk
          simp only [Option.some.injEq, TypeDesc.int.injEq] at he
          subst he
          exact ⟨_, ⟨n, rfl, hwf⟩, by simp [repIL, V.repI, Value.oneCell']⟩
        · simp at h
      | string =>
        simp only [DataW.trod, hu] at h
        split at h <;> try (simp_all; done)
        rename_i s _
        split at h
        · rename_i hk
          simp only [Typed, hu]
          exact ⟨_, ⟨s, rfl, hk⟩, by simp [repIL, V.repI, Value.oneCell']⟩
        · simp at h
      | slice e =>
        simp only [readable, hu, Bool.and_eq_true] at hr
        have hn := Nat.le_of_ble_eq_true hr.1
        simp only [DataW.trod, hu] at h
        split at h <;> try (simp_all; done)
        · simp only [Typed, hu]
          exact ⟨[.sl (P.cellsOf e) []], ⟨[], rfl, Nat.zero_le _, fun r hr => by simp at hr⟩, by simp [repIL, V.repI, Value.oneCell']⟩
        · rename_i e' a len cap he
          simp only [Option.some.injEq, TypeDesc.slice.injEq] at he
          subst he
          split at h
          · rename_i hc
            obtain ⟨elems, h1, _⟩ := Option.bind_eq_some_iff.1 h
            rw [List.range_eq_range'] at h1
            obtain ⟨rows, e1, e2, e3, e4⟩ := rows_of (w := w) (T := Typed P d e) hn len 0 elems (fun cs => if cs.length = P.cellsOf e then DataW.trod enc P w 0 (fun _ => true) true fuel e cs else none) (fun cs x hx => by
              split at hx
              · rename_i hl2; exact trod_terms d fuel e cs x hr.2 hl2 hx
              · simp at hx) (by
              rw [← h1]
              congr 1
              funext i
              cases hcs : w.cells? 0 (a.add (i * P.cellsOf e)) (P.cellsOf e) with
              | none => rfl
              | some cs => simp only [Option.bind_some, (World.cells?_some hcs).2.1, if_true])
            simp only [Typed, hu]
            refine ⟨[.sl (P.cellsOf e) rows], ⟨rows, rfl, by omega, e2⟩, ?_⟩
            simp only [repIL, V.repI, Value.oneCell', and_true]
            refine ⟨some a, cap, by rw [e1], by omega, ?_⟩
            rcases e3 with e3 | ⟨e3, e5⟩
            · left
              exact List.length_eq_zero_iff.1 (by omega)
            · right
              refine ⟨a.block, a.off, ?_, e3, by simpa using e4⟩
              have := e5 rfl
              cases a; simp_all
          · simp at h
      | struct fs =>
        simp only [readable, hu, Bool.and_eq_true] at hr
        simp only [DataW.trod, hu] at h
        split at h <;> try (simp_all; done)
        obtain ⟨xs, h1, _⟩ := Option.map_eq_some_iff.1 h
        obtain ⟨_, vs, k1, k2⟩ := fields_of (w := w) (T := Typed P d) hl fs.toList 0 xs (fun t cs => DataW.trod enc P w 0 (fun _ => true) true fuel t cs) (fun g hg cs x hx hl2 => trod_terms d fuel g.type cs x (List.all_eq_true.1 hr.2 g hg) hl2 hx) hr.1 h1
        simp only [Typed, hu]
        exact ⟨vs, k1, by simpa using k2⟩
      | array n e =>
        simp only [readable, hu, Bool.and_eq_true, beq_iff_eq] at hr
        simp only [DataW.trod, hu] at h
        split at h <;> try (simp_all; done)
        obtain ⟨xs, h1, _⟩ := Option.map_eq_some_iff.1 h
        rw [List.range_eq_range'] at h1
        obtain ⟨vs, k1, k2⟩ := elems_of (w := w) (n := n) (T := Typed P d e) (m := P.cellsOf e) n 0 xs (fun cs => DataW.trod enc P w 0 (fun _ => true) true fuel e cs) (fun cs x hx hl2 => trod_terms d fuel e cs x hr.2 hl2 hx) (by rw [hl, ← hr.1]; simp) h1
        simp only [Typed, hu]
        exact ⟨vs, k1, by simpa using k2⟩
      | _ => simp [readable, hu] at hr

end

end Go.Proofs.Ytfpdlamjlbpmkaa.E
