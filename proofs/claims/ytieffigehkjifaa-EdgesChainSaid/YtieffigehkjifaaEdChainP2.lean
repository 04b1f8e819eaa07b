/- The engine, part W: what is handed in, as terms. -/
import Derived.ProofKit
import Derived.Carry
import Derived.Test.YtieffigehkjifaaEdChainP1
namespace Go.Proofs.Ytieffigehkjifaa.E
open Go
set_option linter.unusedSimpArgs false

def catFields (T : TypeId → List V → Prop) : List Field → List V → Prop
  | [], vs => vs = []
  | f :: fs, vs => ∃ a b, vs = a ++ b ∧ T f.type a ∧ catFields T fs b

def catN (T : List V → Prop) : Nat → List V → Prop
  | 0, vs => vs = []
  | n + 1, vs => ∃ a b, vs = a ++ b ∧ T a ∧ catN T n b

mutual
/-- How many values and letters a reading holds. -/
def bulk {H : Type} : DataW H → Nat
  | .lit (.string bytes) => bytes.length + 1
  | .lit _ => 1
  | .nil => 1
  | .ptr d => bulk d + 1
  | .slice elems spare => bulkAll elems + bulkAll spare + 1
  | .agg parts => bulkAll parts + 1
  | .iface _ d => bulk d + 1
  | .map entries => bulkEntries entries + 1
  | .held _ => 1
def bulkAll {H : Type} : List (DataW H) → Nat
  | [] => 0
  | d :: r => bulk d + bulkAll r
def bulkEntries {H : Type} : List (Lit × DataW H) → Nat
  | [] => 0
  | x :: r => bulkEntry x + bulkEntries r
def bulkEntry {H : Type} : Lit × DataW H → Nat
  | (.string bytes, d) => bytes.length + bulk d + 1
  | (_, d) => bulk d + 1
end

/-- No slice, and no text, of a reading is longer than B. -/
def SzOk {H : Type} (B : Nat) (d : DataW H) : Prop := maxLen ≤ B ∨ bulk d ≤ B

theorem bulk_one {H : Type} (d : DataW H) : 1 ≤ bulk d := by
  cases d with
  | lit l => cases l <;> simp [bulk]
  | _ => simp [bulk]
theorem bulkAll_len {H : Type} : ∀ l : List (DataW H), l.length ≤ bulkAll l
  | [] => Nat.zero_le _
  | d :: r => by have := bulk_one d; have := bulkAll_len r; simp only [bulkAll, List.length_cons]; omega
theorem bulkAll_mem {H : Type} {d : DataW H} : ∀ {l : List (DataW H)}, d ∈ l → bulk d ≤ bulkAll l
  | x :: r, h => by
    simp only [bulkAll]
    rcases List.mem_cons.1 h with rfl | h
    · omega
    · have := bulkAll_mem h; omega
theorem SzOk.all {H : Type} {B : Nat} {xs : List (DataW H × List MemPlace)} {d : DataW H} (h : SzOk B d) (hd : bulkAll (xs.map (·.1)) ≤ bulk d) : ∀ y ∈ xs, SzOk B y.1 := by
  intro y hy
  rcases h with h | h
  · exact .inl h
  · exact .inr (Nat.le_trans (bulkAll_mem (List.mem_map_of_mem hy)) (Nat.le_trans hd h))

mutual
/-- No slice, and no text, of a term is longer than B. -/
def V.bnd (B : Nat) : V → Prop
  | .sl _ rows => rows.length ≤ B ∧ bndRs B rows
  | .val x => match x with
    | .string s => s.size ≤ B
    | .int k n => (Lit.int k n).wf = true
    | _ => True
  | .agg cs => bndL B cs
  | _ => True
def bndRs (B : Nat) : List (List V) → Prop
  | [] => True
  | r :: rs => bndL B r ∧ bndRs B rs
def bndL (B : Nat) : List V → Prop
  | [] => True
  | c :: cs => c.bnd B ∧ bndL B cs
end
mutual
/-- How many values and letters a term holds. -/
def V.sz : V → Nat
  | .sl _ rows => szRs rows + 1
  | .val x => match x with
    | .string s => s.size + 1
    | _ => 1
  | .agg cs => szL cs
  | _ => 1
def szRs : List (List V) → Nat
  | [] => 0
  | r :: rs => szL r + szRs rs
def szL : List V → Nat
  | [] => 0
  | c :: cs => c.sz + szL cs
end
theorem szL_append : ∀ (xs ys : List V), szL (xs ++ ys) = szL xs + szL ys
  | [], ys => by simp [szL]
  | x :: xs, ys => by rw [List.cons_append, szL, szL, szL_append xs ys]; omega
theorem bndRs_mem {B : Nat} : ∀ {rs : List (List V)}, bndRs B rs → ∀ r ∈ rs, bndL B r
  | r :: rs, h, x, hx => by
    simp only [bndRs] at h
    rcases List.mem_cons.1 hx with rfl | hx
    · exact h.1
    · exact bndRs_mem h.2 x hx
theorem bndRs_of {B : Nat} : ∀ {rs : List (List V)}, (∀ r ∈ rs, bndL B r) → bndRs B rs
  | [], _ => by simp only [bndRs]
  | r :: rs, h => by simp only [bndRs]; exact ⟨h r (by simp), bndRs_of fun x hx => h x (by simp [hx])⟩
theorem bndL_append {B : Nat} : ∀ {as bs : List V}, bndL B as → bndL B bs → bndL B (as ++ bs)
  | [], _, _, h => by simpa using h
  | a :: as, bs, h, k => by simp only [bndL] at h; simp only [List.cons_append, bndL]; exact ⟨h.1, bndL_append h.2 k⟩

/-- The cells of a value of a type, as terms. -/
def Typed (P : Program) (B : Nat) : Nat → TypeId → List V → Prop
  | 0, _, _ => False
  | d + 1, t, vs => match P.underlying t with
    | some .bool => ∃ b, vs = [.val (.bool b)]
    | some (.int k) => ∃ n, vs = [.val (.int k n)] ∧ (Lit.int k n).wf = true
    | some .string => ∃ s, vs = [.val (.string s)] ∧ s.size ≤ B
    | some (.slice e) => ∃ rows, vs = [.sl (P.cellsOf e) rows] ∧ rows.length ≤ B ∧ ∀ r ∈ rows, Typed P B d e r
    | some (.struct fs) => catFields (Typed P B d) fs.toList vs
    | some (.array n e) => catN (Typed P B d e) n vs
    | _ => False

def tiles (P : Program) : Nat → List Field → Nat → Bool
  | o, [], n => o == n
  | o, f :: fs, n => f.offset == o && tiles P (o + P.cellsOf f.type) fs n

theorem bnd_fields {B : Nat} {T : TypeId → List V → Prop} (h : ∀ t vs, T t vs → bndL B vs) : ∀ {fs : List Field} {vs : List V}, catFields T fs vs → bndL B vs
  | [], vs, hv => by simp only [catFields] at hv; subst hv; simp only [bndL]
  | f :: fs, vs, hv => by
    simp only [catFields] at hv
    obtain ⟨a, b, rfl, h1, h2⟩ := hv
    exact bndL_append (h _ _ h1) (bnd_fields h h2)
theorem bnd_elems {B : Nat} {T : List V → Prop} (h : ∀ vs, T vs → bndL B vs) : ∀ {n : Nat} {vs : List V}, catN T n vs → bndL B vs
  | 0, vs, hv => by simp only [catN] at hv; subst hv; simp only [bndL]
  | n + 1, vs, hv => by
    simp only [catN] at hv
    obtain ⟨a, b, rfl, h1, h2⟩ := hv
    exact bndL_append (h _ h1) (bnd_elems h h2)
theorem typed_bnd {P : Program} {B : Nat} : ∀ (d : Nat) (t : TypeId) (vs : List V), Typed P B d t vs → bndL B vs
  | 0, _, _, h => by simp only [Typed] at h
  | d + 1, t, vs, h => by
    simp only [Typed] at h
    split at h
    · obtain ⟨b, rfl⟩ := h; simp [bndL, V.bnd]
    · obtain ⟨n, rfl, hw⟩ := h; simp only [bndL, V.bnd, and_true]; exact hw
    · obtain ⟨s, rfl, hs⟩ := h; simp [bndL, V.bnd, hs]
    · obtain ⟨rows, rfl, h1, h2⟩ := h
      simp only [bndL, V.bnd, and_true]
      exact ⟨h1, bndRs_of fun r hr => typed_bnd d _ r (h2 r hr)⟩
    · exact bnd_fields (fun t vs => typed_bnd d t vs) h
    · exact bnd_elems (fun vs => typed_bnd d _ vs) h
    · exact h.elim

/-- Types whose values are read so. -/
def readable (P : Program) : Nat → TypeId → Bool
  | 0, _ => false
  | d + 1, t => match P.underlying t with
    | some .bool => true
    | some (.int _) => true
    | some .string => true
    | some (.slice e) => Nat.ble 1 (P.cellsOf e) && readable P d e
    | some (.struct fs) => tiles P 0 fs.toList (P.cellsOf t) && fs.toList.all fun f => readable P d f.type
    | some (.array n e) => n * P.cellsOf e == P.cellsOf t && readable P d e
    | _ => false

theorem repCells_at {w : World} {G : Nat → Prop} {b : Nat} : ∀ {cs : List V} {xs : List Value} {o : Nat}, repIL w G cs xs → (∀ i x, xs[i]? = some x → w.cell? ⟨b, o + i, none⟩ = some x) → repCells w G b o cs
  | [], [], _, _, _ => by simp only [repCells]
  | [], _ :: _, _, hr, _ => by simp only [repIL] at hr
  | _ :: _, [], _, hr, _ => by simp only [repIL] at hr
  | c :: cs, x :: xs, o, hr, h => by
    simp only [repIL] at hr
    simp only [repCells]
    refine ⟨⟨x, by simpa using h 0 x (by simp), hr.1.2, hr.1.1⟩, repCells_at hr.2 fun i y hy => ?_⟩
    have := h (i + 1) y (by simpa using hy)
    rwa [show o + (i + 1) = o + 1 + i by omega] at this

section
variable {H : Type} {enc : TypeId × Value → H} {P : Program} {w : World}

/-- Every block that is there. -/
def Old (w : World) : Nat → Prop := fun b => b < w.heap.size

theorem cell_old {a : Addr} {x : Value} (h : w.cell? a = some x) : a.spot = none ∧ a.block < w.heap.size := by
  unfold World.cell? at h
  split at h
  · rename_i hb
    refine ⟨?_, lt_of_get hb⟩
    cases hs : a.spot with
    | none => rfl
    | some s => simp [hs] at h
  · simp at h

theorem mapM_len {α β : Type} {f : α → Option β} : ∀ {l : List α} {ys : List β}, l.mapM f = some ys → ys.length = l.length
  | [], ys, h => by simp at h; subst h; rfl
  | a :: l, ys, h => by
    rw [List.mapM_cons] at h
    cases h1 : f a with
    | none => simp [h1] at h
    | some x =>
      cases h2 : l.mapM f with
      | none => simp [h1, h2] at h
      | some xs =>
        obtain rfl : x :: xs = ys := by simpa [h1, h2] using h
        simp [mapM_len h2]

theorem rows_of {T : List V → Prop} {Q : DataW H × List MemPlace → Prop} {a : Addr} {n : Nat} (hn : 1 ≤ n) : ∀ (len k : Nat) (elems : List (DataW H × List MemPlace)) (f : List Value → Option (DataW H × List MemPlace)),
    (∀ x ∈ elems, Q x) → (∀ cs x, Q x → f cs = some x → ∃ vs, T vs ∧ repIL w (Old w) vs cs ∧ szL vs ≤ bulk x.1) →
    ((List.range' k len).mapM fun i => (w.cells? 0 (a.add (i * n)) n).bind f) = some elems →
    ∃ rows : List (List V), rows.length = len ∧ (∀ r ∈ rows, T r) ∧ (len = 0 ∨ (a.block < w.heap.size ∧ (k = 0 → a.spot = none))) ∧ repRows w (Old w) n a.block (a.off + k * n) rows ∧ szRs rows ≤ bulkAll (elems.map (·.1))
  | 0, k, elems, f, _, hf, h => ⟨[], rfl, by simp, .inl rfl, by simp only [repRows], Nat.zero_le _⟩
  | len + 1, k, elems, f, hQ, hf, h => by
    rw [List.range'_succ, List.mapM_cons] at h
    cases h1 : (w.cells? 0 (a.add (k * n)) n).bind f with
    | none => simp [h1] at h
    | some x =>
      cases h2 : (List.range' (k + 1) len).mapM fun i => (w.cells? 0 (a.add (i * n)) n).bind f with
      | none => simp [h1, h2] at h
      | some xs =>
        obtain ⟨cs, hcs, hfx⟩ := Option.bind_eq_some_iff.1 h1
        obtain rfl : x :: xs = elems := by simpa [h1, h2] using h
        obtain ⟨vs, hT, hrep, hz⟩ := hf cs x (hQ x (by simp)) hfx
        obtain ⟨rows, e1, e2, e3, e4, e5⟩ := rows_of (Q := Q) hn len (k + 1) xs f (fun y hy => hQ y (by simp [hy])) hf h2
        obtain ⟨_, hl, hc⟩ := World.cells?_some hcs
        have hcell : ∀ i y, cs[i]? = some y → w.cell? ((a.add (k * n)).add i) = some y := by
          intro i y hy
          have hi : i < n := by rw [← hl]; exact (List.getElem?_eq_some_iff.1 hy).1
          rw [hc i hi, hy]
        have h0 : ∃ y, cs[0]? = some y := ⟨cs[0]'(by omega), by simp⟩
        obtain ⟨y, hy⟩ := h0
        have hold := cell_old (hcell 0 y hy)
        have hblk : a.block < w.heap.size := by
          have := hold.2
          simp only [Addr.add] at this
          split at this <;> (try split at this) <;> simpa using this
        refine ⟨vs :: rows, by simp [e1], ?_, .inr ⟨hblk, fun hk => ?_⟩, ?_, by simp only [szRs, List.map_cons, bulkAll]; omega⟩
        · intro r hr
          rcases List.mem_cons.1 hr with rfl | hr
          · exact hT
          · exact e2 r hr
        · subst hk
          have := hold.1
          simpa [Addr.add] using this
        · simp only [repRows]
          refine ⟨by rw [repIL_length hrep, hl], repCells_at hrep fun i y hy => ?_, ?_⟩
          · have := hcell i y hy
            have hsp := (cell_old this).1
            rw [← this]
            congr 1
            simp only [Addr.add] at hsp ⊢
            by_cases hkn : k * n = 0
            · simp only [hkn, if_true, Nat.add_zero] at hsp ⊢
              by_cases hi : i = 0
              · simp only [hi, if_true, Nat.add_zero] at hsp ⊢
                cases a; simp_all
              · simp only [hi, if_false]
            · simp only [hkn, if_false]
              by_cases hi : i = 0
              · simp only [hi, if_true, Nat.add_zero]
              · simp only [hi, if_false]
          · rw [show a.off + k * n + n = a.off + (k + 1) * n by rw [Nat.succ_mul]; omega]
            exact e4

theorem fields_of {T : TypeId → List V → Prop} {Q : DataW H × List MemPlace → Prop} {cs : List Value} {N : Nat} (hN : cs.length = N) : ∀ (fs : List Field) (o : Nat) (xs : List (DataW H × List MemPlace)) (f : TypeId → List Value → Option (DataW H × List MemPlace)),
    (∀ x ∈ xs, Q x) → (∀ g ∈ fs, ∀ cs x, Q x → f g.type cs = some x → cs.length = P.cellsOf g.type → ∃ vs, T g.type vs ∧ repIL w (Old w) vs cs ∧ szL vs ≤ bulk x.1) →
    tiles P o fs N = true → (fs.mapM fun g => f g.type ((cs.drop g.offset).take (P.cellsOf g.type))) = some xs →
    o ≤ N ∧ ∃ vs, catFields T fs vs ∧ repIL w (Old w) vs (cs.drop o) ∧ szL vs ≤ bulkAll (xs.map (·.1))
  | [], o, xs, f, _, _, ht, _ => by
    simp only [tiles, beq_iff_eq] at ht
    refine ⟨by omega, [], rfl, ?_, Nat.zero_le _⟩
    rw [List.drop_eq_nil_of_le (by omega)]
    simp only [repIL]
  | g :: fs, o, xs, f, hQ, hf, ht, h => by
    simp only [tiles, Bool.and_eq_true, beq_iff_eq] at ht
    rw [List.mapM_cons] at h
    cases h1 : f g.type ((cs.drop g.offset).take (P.cellsOf g.type)) with
    | none => simp [h1] at h
    | some x =>
      cases h2 : fs.mapM fun g => f g.type ((cs.drop g.offset).take (P.cellsOf g.type)) with
      | none => simp [h1, h2] at h
      | some xs2 =>
        obtain rfl : x :: xs2 = xs := by simpa [h1, h2] using h
        obtain ⟨hle, vs2, k1, k2, k3⟩ := fields_of (Q := Q) hN fs (o + P.cellsOf g.type) xs2 f (fun y hy => hQ y (by simp [hy])) (fun g' hg' => hf g' (by simp [hg'])) ht.2 h2
        rw [ht.1] at h1
        obtain ⟨vs1, j1, j2, j3⟩ := hf g (by simp) _ x (hQ x (by simp)) h1 (by simp; omega)
        refine ⟨by omega, vs1 ++ vs2, ⟨vs1, vs2, rfl, j1, k1⟩, ?_, by rw [szL_append]; simp only [List.map_cons, bulkAll]; omega⟩
        rw [show cs.drop o = (cs.drop o).take (P.cellsOf g.type) ++ cs.drop (o + P.cellsOf g.type) by rw [← List.drop_drop, List.take_append_drop]]
        exact repIL_append j2 k2

theorem elems_of {T : List V → Prop} {Q : DataW H × List MemPlace → Prop} {cs : List Value} {n m : Nat} : ∀ (len k : Nat) (xs : List (DataW H × List MemPlace)) (f : List Value → Option (DataW H × List MemPlace)),
    (∀ x ∈ xs, Q x) → (∀ cs x, Q x → f cs = some x → cs.length = m → ∃ vs, T vs ∧ repIL w (Old w) vs cs ∧ szL vs ≤ bulk x.1) →
    cs.length = (k + len) * m → ((List.range' k len).mapM fun i => f ((cs.drop (i * m)).take m)) = some xs →
    ∃ vs, catN T len vs ∧ repIL w (Old w) vs (cs.drop (k * m)) ∧ szL vs ≤ bulkAll (xs.map (·.1))
  | 0, k, xs, f, _, _, hl, _ => by
    refine ⟨[], rfl, ?_, Nat.zero_le _⟩
    rw [List.drop_eq_nil_of_le (by simp at hl; omega)]
    simp only [repIL]
  | len + 1, k, xs, f, hQ, hf, hl, h => by
    rw [List.range'_succ, List.mapM_cons] at h
    cases h1 : f ((cs.drop (k * m)).take m) with
    | none => simp [h1] at h
    | some x =>
      cases h2 : (List.range' (k + 1) len).mapM fun i => f ((cs.drop (i * m)).take m) with
      | none => simp [h1, h2] at h
      | some xs2 =>
        obtain rfl : x :: xs2 = xs := by simpa [h1, h2] using h
        obtain ⟨vs2, k1, k2, k3⟩ := elems_of (n := n) (Q := Q) len (k + 1) xs2 f (fun y hy => hQ y (by simp [hy])) hf (by rw [hl]; congr 1; omega) h2
        have hlen : ((cs.drop (k * m)).take m).length = m := by
          have : (k + (len + 1)) * m = k * m + (len * m + m) := by rw [Nat.add_mul, Nat.succ_mul]
          simp [hl]; omega
        obtain ⟨vs1, j1, j2, j3⟩ := hf _ x (hQ x (by simp)) h1 hlen
        refine ⟨vs1 ++ vs2, ⟨vs1, vs2, rfl, j1, k1⟩, ?_, by rw [szL_append]; simp only [List.map_cons, bulkAll]; omega⟩
        rw [show cs.drop (k * m) = (cs.drop (k * m)).take m ++ cs.drop ((k + 1) * m) by rw [Nat.succ_mul, ← List.drop_drop, List.take_append_drop]]
        exact repIL_append j2 k2

theorem trod_terms (B : Nat) : ∀ (d fuel : Nat) (t : TypeId) (cs : List Value) (x : DataW H × List MemPlace), SzOk B x.1 → readable P d t = true → cs.length = P.cellsOf t → DataW.trod enc P w 0 (fun _ => true) true fuel t cs = some x → ∃ vs, Typed P B d t vs ∧ repIL w (Old w) vs cs ∧ szL vs ≤ bulk x.1
  | 0, _, _, _, _, _, h, _, _ => by simp [readable] at h
  | d + 1, 0, _, _, _, _, _, _, h => by simp [DataW.trod] at h
  | d + 1, fuel + 1, t, cs, x, hB, hr, hl, h => by
    cases hu : P.underlying t with
    | none => simp [readable, hu] at hr
    | some ty =>
      cases ty with
      | bool =>
        simp only [DataW.trod, hu] at h
        split at h <;> try (simp_all; done)
        rename_i b _
        simp only [Typed, hu]
        exact ⟨_, ⟨b, rfl⟩, by simp [repIL, V.repI, Value.oneCell'], bulk_one _⟩
      | int k =>
        simp only [DataW.trod, hu] at h
        split at h <;> try (simp_all; done)
        rename_i k' n he
        split at h
        · rename_i hk
          simp only [Typed, hu]
          obtain ⟨rfl, hwf⟩ := hk
          simp only [Option.some.injEq, TypeDesc.int.injEq] at he
          subst he
          exact ⟨_, ⟨n, rfl, hwf⟩, by simp [repIL, V.repI, Value.oneCell'], bulk_one _⟩
        · simp at h
      | string =>
        simp only [DataW.trod, hu] at h
        split at h <;> try (simp_all; done)
        rename_i s _
        split at h
        · rename_i hk
          simp only [Typed, hu]
          simp only [Option.some.injEq] at h
          subst h
          refine ⟨_, ⟨s, rfl, ?_⟩, by simp [repIL, V.repI, Value.oneCell'], by simp only [szL, V.sz, bulk, Array.length_toList]; exact Nat.le_refl _⟩
          rcases hB with hB | hB
          · omega
          · simp only [bulk, Array.length_toList] at hB
            have : s.size = s.data.size := rfl
            omega
        · simp at h
      | slice e =>
        simp only [readable, hu, Bool.and_eq_true] at hr
        have hn := Nat.le_of_ble_eq_true hr.1
        simp only [DataW.trod, hu] at h
        split at h <;> try (simp_all; done)
        · simp only [Typed, hu]
          exact ⟨[.sl (P.cellsOf e) []], ⟨[], rfl, Nat.zero_le _, fun r hr => by simp at hr⟩, by simp [repIL, V.repI, Value.oneCell'], bulk_one _⟩
        · rename_i e' a len cap he
          simp only [Option.some.injEq, TypeDesc.slice.injEq] at he
          subst he
          split at h
          · rename_i hc
            obtain ⟨elems, h1, h9⟩ := Option.bind_eq_some_iff.1 h
            obtain ⟨rest, _, h10⟩ := Option.map_eq_some_iff.1 h9
            have hq1 : bulkAll (elems.map (·.1)) + 1 ≤ bulk x.1 := by rw [← h10]; simp only [bulk]; omega
            have hq : bulkAll (elems.map (·.1)) ≤ bulk x.1 := by omega
            have hlen9 : len ≤ B := by
              rcases hB with hB | hB
              · omega
              · have q1 := bulkAll_len (elems.map (·.1))
                have q2 := mapM_len h1
                simp at q1 q2
                omega
            rw [List.range_eq_range'] at h1
            obtain ⟨rows, e1, e2, e3, e4, e6⟩ := rows_of (w := w) (T := Typed P B d e) (Q := fun y => SzOk B y.1) hn len 0 elems (fun cs => if cs.length = P.cellsOf e then DataW.trod enc P w 0 (fun _ => true) true fuel e cs else none) (hB.all hq) (fun cs x hQ hx => by
              split at hx
              · rename_i hl2; exact trod_terms B d fuel e cs x hQ hr.2 hl2 hx
              · simp at hx) (by
              rw [← h1]
              congr 1
              funext i
              cases hcs : w.cells? 0 (a.add (i * P.cellsOf e)) (P.cellsOf e) with
              | none => rfl
              | some cs => simp only [Option.bind_some, (World.cells?_some hcs).2.1, if_true])
            simp only [Typed, hu]
            refine ⟨[.sl (P.cellsOf e) rows], ⟨rows, rfl, by omega, e2⟩, ?_, by simp only [szL, V.sz]; omega⟩
            simp only [repIL, V.repI, Value.oneCell', and_true]
            refine ⟨some a, cap, by rw [e1], by omega, ?_⟩
            rcases e3 with e3 | ⟨e3, e5⟩
            · left
              exact List.length_eq_zero_iff.1 (by omega)
            · right
              refine ⟨a.block, a.off, ?_, e3, by simpa using e4⟩
              have := e5 rfl
              cases a; simp_all
          · simp at h
      | struct fs =>
        simp only [readable, hu, Bool.and_eq_true] at hr
        simp only [DataW.trod, hu] at h
        split at h <;> try (simp_all; done)
        obtain ⟨xs, h1, h9⟩ := Option.map_eq_some_iff.1 h
        have hq : bulkAll (xs.map (·.1)) ≤ bulk x.1 := by rw [← h9]; simp only [bulk]; omega
        obtain ⟨_, vs, k1, k2, k3⟩ := fields_of (w := w) (T := Typed P B d) (Q := fun y => SzOk B y.1) hl fs.toList 0 xs (fun t cs => DataW.trod enc P w 0 (fun _ => true) true fuel t cs) (hB.all hq) (fun g hg cs x hQ hx hl2 => trod_terms B d fuel g.type cs x hQ (List.all_eq_true.1 hr.2 g hg) hl2 hx) hr.1 h1
        simp only [Typed, hu]
        exact ⟨vs, k1, by simpa using k2, Nat.le_trans k3 hq⟩
      | array n e =>
        simp only [readable, hu, Bool.and_eq_true, beq_iff_eq] at hr
        simp only [DataW.trod, hu] at h
        split at h <;> try (simp_all; done)
        obtain ⟨xs, h1, h9⟩ := Option.map_eq_some_iff.1 h
        have hq : bulkAll (xs.map (·.1)) ≤ bulk x.1 := by rw [← h9]; simp only [bulk]; omega
        rw [List.range_eq_range'] at h1
        obtain ⟨vs, k1, k2, k3⟩ := elems_of (w := w) (n := n) (T := Typed P B d e) (Q := fun y => SzOk B y.1) (m := P.cellsOf e) n 0 xs (fun cs => DataW.trod enc P w 0 (fun _ => true) true fuel e cs) (hB.all hq) (fun cs x hQ hx hl2 => trod_terms B d fuel e cs x hQ hr.2 hl2 hx) (by rw [hl, ← hr.1]; simp) h1
        simp only [Typed, hu]
        exact ⟨vs, k1, by simpa using k2, Nat.le_trans k3 hq⟩
      | _ => simp [readable, hu] at hr

end

end Go.Proofs.Ytieffigehkjifaa.E

/- The engine, part X: a row, from a contract. -/
namespace Go.Proofs.Ytieffigehkjifaa.E
open Go
set_option linter.unusedSimpArgs false

def I (n : Int) : V := .val (.int .i64 n)
def Bo (b : Bool) : V := .val (.bool b)
def Sg (s : ByteArray) : V := .val (.string s)

theorem vcP {P : Program} (hmix : P.follows .mixedOrders = true) {f : FuncId} {args : List V} {objs : List E.Obj} (sc : List It) (exports : List Nat) {r : V} {objs' : List (Option E.Obj)} (ps : List Prop)
    (h : runF P f args objs sc exports = some (r, objs', ps)) (hp : allP ps) : Contract P f args objs r objs' := vc hmix h (allP_spec hp)

theorem runP {P : Program} (hmix : P.follows .mixedOrders = true) {k n : Nat} {c : Code} (sc : List It) {s s' : SL} (nm : Norm) {e : Ex} (ps : List Prop) (h : runTo P k n c sc s nm = some (e, s', ps)) (hp : allP ps) : CodeC P k n c s e s' :=
  runTo_says hmix h (allP_spec hp)

/-- A proposition with its proof. -/
structure Pf where
  {p : Prop}
  h : p

theorem pfs : ∀ (l : List Pf), ∀ p ∈ l.map Pf.p, p
  | [], _, h => nomatch h
  | x :: l, p, h => by
    rcases List.mem_cons.1 h with rfl | h
    · exact x.h
    · exact pfs l p h

theorem vcS {P : Program} (hmix : P.follows .mixedOrders = true) {f : FuncId} {args : List V} {objs : List E.Obj} (sc : List It) (exports : List Nat) {r : V} {objs' : List (Option E.Obj)} (l : List Pf)
    (h : runF P f args objs sc exports = some (r, objs', l.map Pf.p) := by kernel_rfl) : Contract P f args objs r objs' := vc hmix h (pfs l)

theorem runS {P : Program} (hmix : P.follows .mixedOrders = true) {k n : Nat} {c : Code} (sc : List It) {s s' : SL} (nm : Norm) {e : Ex} (l : List Pf) (h : runTo P k n c sc s nm = some (e, s', l.map Pf.p) := by kernel_rfl) : CodeC P k n c s e s' :=
  runTo_says hmix h (pfs l)

theorem nn (i : Nat) : (0 : Int) ≤ Int.ofNat i := Int.natCast_nonneg i
theorem dlt {i n : Nat} (h : i < n) : decide (Int.ofNat i < Int.ofNat n) = true := decide_eq_true (Int.ofNat_lt.2 h)
theorem dge {i n : Nat} (h : n ≤ i) : decide (Int.ofNat i < Int.ofNat n) = false := decide_eq_false fun q => Nat.not_lt.2 h (Int.ofNat_lt.1 q)
theorem dltm {α β : Type} (f : α → β) {i : Nat} {l : List α} (h : i < l.length) : decide (Int.ofNat i < Int.ofNat (l.map f).length) = true := dlt (by rwa [List.length_map])
theorem dgem {α β : Type} (f : α → β) {i : Nat} {l : List α} (h : l.length ≤ i) : decide (Int.ofNat i < Int.ofNat (l.map f).length) = false := dge (by rwa [List.length_map])
theorem ltm {α β : Type} (f : α → β) {i : Nat} {l : List α} (h : i < l.length) : Int.ofNat i < Int.ofNat (l.map f).length := Int.ofNat_lt.2 (by rwa [List.length_map])
theorem gtm {α β : Type} (f : α → β) {i : Nat} {l : List α} {x : α} (h : l[i]? = some x) : (l.map f)[i]? = some (f x) := by rw [List.getElem?_map, h]; rfl
theorem w64 (n : Nat) (h : n < 4611686018427387904) : IntKind.i64.wrap (Int.ofNat n) = Int.ofNat n := by
  simp only [IntKind.wrap, IntKind.signed, IntKind.bits, Int.ofNat_eq_natCast]
  simp
  omega
theorem lenm {α β : Type} (f : α → β) (l : List α) : Int.ofNat (l.map f).length = Int.ofNat l.length := by rw [List.length_map]

def TypedArg (P : Program) (B : Nat) (t : TypeId) (v : V) : Prop := match P.underlying t with
  | some (.struct _) => ∃ cs, v = .agg cs ∧ Typed P B 14 t cs
  | some (.array _ _) => ∃ cs, v = .agg cs ∧ Typed P B 14 t cs
  | _ => Typed P B 14 t [v]

def oneB (P : Program) (t : TypeId) : Bool := match P.underlying t with
  | some (.struct _) => true
  | some (.array _ _) => true
  | _ => P.cellsOf t == 1

def TypedArgs (P : Program) (B : Nat) : List TypeId → List V → Prop
  | [], vs => vs = []
  | t :: ts, vs => ∃ v us, vs = v :: us ∧ TypedArg P B t v ∧ TypedArgs P B ts us

theorem arg_bnd {P : Program} {B : Nat} {t : TypeId} {v : V} (h : TypedArg P B t v) : v.bnd B := by
  unfold TypedArg at h
  split at h
  · obtain ⟨cs, rfl, h⟩ := h; simp only [V.bnd]; exact typed_bnd _ _ _ h
  · obtain ⟨cs, rfl, h⟩ := h; simp only [V.bnd]; exact typed_bnd _ _ _ h
  · have := typed_bnd _ _ _ h; simp only [bndL, and_true] at this; exact this
theorem args_bnd {P : Program} {B : Nat} : ∀ {ts : List TypeId} {vs : List V}, TypedArgs P B ts vs → bndL B vs
  | [], vs, h => by simp only [TypedArgs] at h; subst h; simp only [bndL]
  | t :: ts, vs, h => by
    simp only [TypedArgs] at h
    obtain ⟨v, us, rfl, h1, h2⟩ := h
    simp only [bndL]
    exact ⟨arg_bnd h1, args_bnd h2⟩

theorem typed_int {P : Program} {B : Nat} {t : TypeId} {k : IntKind} {d : Nat} {vs : List V} (hu : P.underlying t = some (.int k)) (h : Typed P B (d + 1) t vs) : ∃ n, vs = [.val (.int k n)] ∧ (Lit.int k n).wf = true := by
  simpa only [Typed, hu] using h
theorem typed_bool {P : Program} {B : Nat} {t : TypeId} {d : Nat} {vs : List V} (hu : P.underlying t = some .bool) (h : Typed P B (d + 1) t vs) : ∃ b, vs = [.val (.bool b)] := by
  simpa only [Typed, hu] using h
theorem typed_string {P : Program} {B : Nat} {t : TypeId} {d : Nat} {vs : List V} (hu : P.underlying t = some .string) (h : Typed P B (d + 1) t vs) : ∃ s, vs = [.val (.string s)] ∧ s.size ≤ B := by
  simpa only [Typed, hu] using h
theorem typed_slice {P : Program} {B : Nat} {t e : TypeId} {d : Nat} {vs : List V} (hu : P.underlying t = some (.slice e)) (h : Typed P B (d + 1) t vs) : ∃ rows, vs = [.sl (P.cellsOf e) rows] ∧ rows.length ≤ B ∧ ∀ r ∈ rows, Typed P B d e r := by
  simpa only [Typed, hu] using h
theorem typed_struct {P : Program} {B : Nat} {t : TypeId} {fs : Array Field} {d : Nat} {vs : List V} (hu : P.underlying t = some (.struct fs)) (h : Typed P B (d + 1) t vs) : catFields (Typed P B d) fs.toList vs := by
  simpa only [Typed, hu] using h
theorem typed_array {P : Program} {B : Nat} {t e : TypeId} {n d : Nat} {vs : List V} (hu : P.underlying t = some (.array n e)) (h : Typed P B (d + 1) t vs) : catN (Typed P B d e) n vs := by
  simpa only [Typed, hu] using h
theorem arg_struct {P : Program} {B : Nat} {t : TypeId} {fs : Array Field} {v : V} (hu : P.underlying t = some (.struct fs)) (h : TypedArg P B t v) : ∃ cs, v = .agg cs ∧ Typed P B 14 t cs := by
  simpa only [TypedArg, hu] using h
theorem arg_array {P : Program} {B : Nat} {t e : TypeId} {n : Nat} {v : V} (hu : P.underlying t = some (.array n e)) (h : TypedArg P B t v) : ∃ cs, v = .agg cs ∧ Typed P B 14 t cs := by
  simpa only [TypedArg, hu] using h
theorem arg_int {P : Program} {B : Nat} {t : TypeId} {k : IntKind} {v : V} (hu : P.underlying t = some (.int k)) (h : TypedArg P B t v) : ∃ n, v = .val (.int k n) ∧ (Lit.int k n).wf = true := by
  have h : Typed P B 14 t [v] := by simpa only [TypedArg, hu] using h
  obtain ⟨n, e, w⟩ := typed_int hu h
  cases e
  exact ⟨n, rfl, w⟩
theorem arg_bool {P : Program} {B : Nat} {t : TypeId} {v : V} (hu : P.underlying t = some .bool) (h : TypedArg P B t v) : ∃ b, v = .val (.bool b) := by
  have h : Typed P B 14 t [v] := by simpa only [TypedArg, hu] using h
  obtain ⟨n, e⟩ := typed_bool hu h
  cases e
  exact ⟨n, rfl⟩
theorem arg_string {P : Program} {B : Nat} {t : TypeId} {v : V} (hu : P.underlying t = some .string) (h : TypedArg P B t v) : ∃ s, v = .val (.string s) ∧ s.size ≤ B := by
  have h : Typed P B 14 t [v] := by simpa only [TypedArg, hu] using h
  obtain ⟨n, e, w⟩ := typed_string hu h
  cases e
  exact ⟨n, rfl, w⟩
theorem arg_slice {P : Program} {B : Nat} {t e : TypeId} {v : V} (hu : P.underlying t = some (.slice e)) (h : TypedArg P B t v) : ∃ rows, v = .sl (P.cellsOf e) rows ∧ rows.length ≤ B ∧ ∀ r ∈ rows, Typed P B 13 e r := by
  have h : Typed P B 14 t [v] := by simpa only [TypedArg, hu] using h
  obtain ⟨n, e, w⟩ := typed_slice hu h
  cases e
  exact ⟨n, rfl, w⟩

section
variable {H : Type} {enc : TypeId × Value → H} {P : Program} {w : World}

theorem arg_terms {B : Nat} {t : TypeId} {v : Value} {d : DataW H} {ps : List MemPlace} {base : Nat} {τ : Nat → Gh} (hB : SzOk B d) (hr : readable P 14 t = true) (ho : oneB P t = true) (hw : Value.okWide P w .any base t v)
    (h : DataW.Trod enc P w 0 (fun _ => true) true t v d ps) : ∃ u, TypedArg P B t u ∧ u.rep w (Old w) τ v ∧ u.sz ≤ bulk d := by
  obtain ⟨fuel, h⟩ := h
  unfold TypedArg
  have one : v.cells.toList = [v] → v.cells.toList.length = P.cellsOf t → ∃ u, Typed P B 14 t [u] ∧ u.rep w (Old w) τ v ∧ u.sz ≤ bulk d := by
    intro h1 h2
    obtain ⟨vs, k1, k2, k3⟩ := trod_terms B 14 fuel t v.cells.toList (d, ps) hB hr h2 h
    rw [h1] at k2
    match vs, k2, k3 with
    | [u], k2, k3 =>
      simp only [repIL] at k2
      simp only [szL, Nat.add_zero] at k3
      exact ⟨u, k1, rep_of_repI k2.1.1, k3⟩
    | [], k2, _ => simp [repIL] at k2
    | _ :: _ :: _, k2, _ => simp [repIL] at k2
  have whole : (∃ cs, v = .agg cs ∧ cs.size = P.cellsOf t ∧ Row.okWide P w .any base t cs) → ∃ u, (∃ cs, u = V.agg cs ∧ Typed P B 14 t cs) ∧ u.rep w (Old w) τ v ∧ u.sz ≤ bulk d := by
    rintro ⟨cs, rfl, h2, _⟩
    obtain ⟨vs, k1, k2, k3⟩ := trod_terms B 14 fuel t cs.toList (d, ps) hB hr (by simpa using h2) (by simpa [Value.cells] using h)
    exact ⟨.agg vs, ⟨vs, rfl, k1⟩, by simp only [V.rep]; exact ⟨cs, rfl, repL_of_repIL k2⟩, by simp only [V.sz]; exact k3⟩
  cases hu : P.underlying t with
  | none => simp [readable, hu] at hr
  | some ty =>
    unfold oneB at ho
    unfold Value.okWide at hw
    rw [hu] at ho hw
    cases ty with
    | struct fs => exact whole hw
    | array n e => exact whole hw
    | bool =>
      simp only [Cell.okWide, hu, Cell.ok] at hw
      simp only [beq_iff_eq] at ho
      split at hw <;> first | exact hw.elim | exact one rfl (by rw [ho]; rfl) | simp_all
    | int k =>
      simp only [Cell.okWide, hu, Cell.ok] at hw
      simp only [beq_iff_eq] at ho
      split at hw <;> first | exact hw.elim | exact one rfl (by rw [ho]; rfl) | simp_all
    | string =>
      simp only [Cell.okWide, hu, Cell.ok] at hw
      simp only [beq_iff_eq] at ho
      split at hw <;> first | exact hw.elim | exact one rfl (by rw [ho]; rfl) | simp_all
    | slice e =>
      simp only [Cell.okWide, hu, Cell.ok] at hw
      simp only [beq_iff_eq] at ho
      split at hw <;> first | exact hw.elim | exact one rfl (by rw [ho]; rfl) | simp_all
    | _ => simp [readable, hu] at hr

theorem args_terms {B : Nat} {τ : Nat → Gh} {base : Nat} : ∀ {ts : List TypeId} {vs : List Value} {ds : List (DataW H)} {ps : List MemPlace}, DataW.TrodAll enc P w 0 (fun _ => true) true ts vs ds ps →
    (∀ (j : Nat) (t : TypeId) (v : Value), ts[j]? = some t → vs[j]? = some v → Value.okWide P w .any base t v) → (ts.all fun t => readable P 14 t && oneB P t) = true → (∀ d ∈ ds, SzOk B d) →
    ds.length = ts.length ∧ ∃ us, TypedArgs P B ts us ∧ repL w (Old w) τ us vs ∧ szL us ≤ bulkAll ds
  | [], vs, ds, ps, h, _, _, _ => by
    obtain ⟨rfl, rfl, rfl⟩ := ChangeShapes.trodAll_nil h
    exact ⟨rfl, [], rfl, by simp only [repL], Nat.zero_le _⟩
  | t :: ts, vs, ds, ps, h, hw, hr, hB => by
    obtain ⟨v, vs1, d, ds1, a, b, rfl, rfl, rfl, h1, h2⟩ := ChangeShapes.trodAll_cons h
    simp only [List.all_cons, Bool.and_eq_true] at hr
    obtain ⟨k1, us, k2, k3, k4⟩ := args_terms h2 (fun j t' v' ht hv => hw (j + 1) t' v' (by simpa using ht) (by simpa using hv)) hr.2 (fun d hd => hB d (by simp [hd]))
    obtain ⟨u, j1, j2, j3⟩ := arg_terms (B := B) (τ := τ) (hB d (by simp)) hr.1.1 hr.1.2 (hw 0 t v rfl rfl) h1
    exact ⟨by simp [k1], u :: us, ⟨u, us, rfl, j1, k2⟩, by simp only [repL]; exact ⟨j2, k3⟩, by simp only [szL, bulkAll]; omega⟩

theorem trodAll_below {w w' : World} (hl : laidOutB P = true) (hb : RowKit.Below w.heap.size w w') : ∀ {ts : List TypeId} {vs : List Value} {ds : List (DataW H)} {ps : List MemPlace}, DataW.TrodAll enc P w 0 (fun _ => true) true ts vs ds ps →
    (ts.all fun t => P.readableRec t && decide (t < P.types.size)) = true → (∀ x ∈ ps, x.block < w.heap.size) → DataW.TrodAll enc P w' 0 (fun b => decide (b < w.heap.size)) true ts vs ds ps
  | [], vs, ds, ps, h, _, _ => by
    obtain ⟨rfl, rfl, rfl⟩ := ChangeShapes.trodAll_nil h
    simp [DataW.TrodAll]
  | t :: ts, vs, ds, ps, h, hr, hp => by
    obtain ⟨v, vs1, d, ds1, a, b, rfl, rfl, rfl, h1, h2⟩ := ChangeShapes.trodAll_cons h
    simp only [List.all_cons, Bool.and_eq_true, decide_eq_true_eq] at hr
    exact ⟨a, b, RowKit.Below.trod hl hr.1.1 hr.1.2 h1 hb (fun x hx => hp x (by simp [hx])), trodAll_below hl hb h2 hr.2 (fun x hx => hp x (by simp [hx])), rfl⟩

theorem Mem.none (w : World) : Mem w.heap.size (fun _ => False) (Old w) (fun _ => ⟨none, none, 0, 0⟩) (objsAt []) w :=
  ⟨fun _ h => h, fun _ _ h => by simp [objsAt] at h, fun _ _ _ h => by simp [objsAt] at h, fun _ _ _ _ _ h => by simp [objsAt] at h⟩

/-- A law's row, from its contract. -/
theorem row_of0 (B : Nat) (Z : Option Nat) {f : FuncId} {fn : Func} {s : ChangeSpec} {apart handsOn fresh : Bool} {tb : TypeId}
    (hl : laidOutB P = true) (hvars : s.vars = []) (hpar : (fn.params.toList.all fun t => readable P 14 t && oneB P t) = true) (hpar2 : (fn.params.toList.all fun t => P.readableRec t && decide (t < P.types.size)) = true)
    (hres : fn.resultTypes = #[tb]) (htb : P.underlying tb = some .bool)
    (hs : ∀ ds : List (DataW H), ds.length = fn.params.toList.length → s.fn H ds = { results := [.lit (.bool true)], args := ds })
    (hc : ∀ us, TypedArgs P B fn.params.toList us → (∀ z, Z = some z → szL us ≤ z) → Contract P f us [] (.val (.bool true)) []) :
    ∀ (W : World) (base : Nat) (args : Array Value) (ds gs : List (DataW H)) (before : List MemPlace),
      (∀ (j : Nat) t v, fn.params[j]? = some t → args[j]? = some v → Value.okWide P W .any base t v) →
      DataW.Whole enc P fn.params.toList s.vars apart W args.toList ds gs before → (∀ d ∈ ds, SzOk B d) → (∀ z, Z = some z → bulkAll ds ≤ z) →
      Calls P f args W fun e W' => ∃ v, e = .returned v ∧ s.post enc P fn apart fresh handsOn false W args v W' := by
  intro W base args ds gs before hval hW hB hZ
  have hW' := hW
  obtain ⟨p, q, hA, hV, rfl, hfz, hnd⟩ := hW
  obtain ⟨hlen, us, hT, hrep, hz⟩ := args_terms (B := B) (τ := fun _ => ⟨none, none, 0, 0⟩) hA (fun j t v ht hv => hval j t v (by simpa using ht) (by simpa using hv)) hpar hB
  rw [hvars] at hV
  obtain ⟨rfl, rfl⟩ : gs = [] ∧ q = [] := by
    cases gs with
    | nil => exact ⟨rfl, hV⟩
    | cons g gs => exact hV.elim
  have hcall := (hc us hT fun z h => Nat.le_trans hz (hZ z h)).calls W (Old W) (fun _ => False) (fun _ => ⟨none, none, 0, 0⟩) args (Mem.none W) (fun _ h => h.elim) hrep
  refine Calls.mono hcall ?_
  rintro e W' ⟨v, G', τ', rfl, hext, _, hv, _⟩
  simp only [V.rep, V.repI] at hv
  subst hv
  have hb : RowKit.Below W.heap.size W W' := ⟨hext.os, hext.tape, hext.output, hext.size, fun k hk => hext.block k hk (fun h => h)⟩
  have hlt : ∀ x ∈ p, x.block < W.heap.size := fun x hx => hW'.lt x (by simpa using hx)
  have e1 : s.fn H (ds ++ []) = { results := [.lit (.bool true)], args := ds } := by rw [List.append_nil]; exact hs ds hlen
  refine ⟨_, rfl, ds, [], p ++ [], [], p, [], hW', ?_, ?_, ?_, ?_, fun h => by cases h⟩
  · rw [e1, hres]
    exact ⟨[], [], RowKit.shut_bool htb true, rfl, rfl⟩
  · rw [e1]
    exact trodAll_below hl hb hA hpar2 hlt
  · rw [hvars, e1]
    exact rfl
  · exact hb.frame _


/-- A law's row, from its contract. -/
theorem row_of {f : FuncId} {fn : Func} {s : ChangeSpec} {apart handsOn fresh : Bool} {tb : TypeId}
    (hl : laidOutB P = true) (hvars : s.vars = []) (hpar : (fn.params.toList.all fun t => readable P 14 t && oneB P t) = true) (hpar2 : (fn.params.toList.all fun t => P.readableRec t && decide (t < P.types.size)) = true)
    (hres : fn.resultTypes = #[tb]) (htb : P.underlying tb = some .bool)
    (hs : ∀ ds : List (DataW H), ds.length = fn.params.toList.length → s.fn H ds = { results := [.lit (.bool true)], args := ds })
    (hc : ∀ us, TypedArgs P maxLen fn.params.toList us → Contract P f us [] (.val (.bool true)) []) :
    ∀ (W : World) (base : Nat) (args : Array Value) (ds gs : List (DataW H)) (before : List MemPlace),
      (∀ (j : Nat) t v, fn.params[j]? = some t → args[j]? = some v → Value.okWide P W .any base t v) →
      DataW.Whole enc P fn.params.toList s.vars apart W args.toList ds gs before →
      Calls P f args W fun e W' => ∃ v, e = .returned v ∧ s.post enc P fn apart fresh handsOn false W args v W' :=
  fun W base args ds gs before hval hW => row_of0 maxLen none hl hvars hpar hpar2 hres htb hs (fun us h _ => hc us h) W base args ds gs before hval hW (fun _ _ => .inl (Nat.le_refl _)) (fun z h => by cases h)

theorem bulkAll_left {H : Type} : ∀ (ds gs : List (DataW H)), bulkAll ds ≤ bulkAll (ds ++ gs)
  | [], _ => Nat.zero_le _
  | d :: ds, gs => by simp only [List.cons_append, bulkAll]; have := bulkAll_left ds gs; omega
/-- A law's row, from its contract, where what comes in is small. -/
theorem row_upto {B : Nat} {f : FuncId} {fn : Func} {s : ChangeSpec} {apart handsOn fresh : Bool} {tb : TypeId}
    (hl : laidOutB P = true) (hvars : s.vars = []) (hpar : (fn.params.toList.all fun t => readable P 14 t && oneB P t) = true) (hpar2 : (fn.params.toList.all fun t => P.readableRec t && decide (t < P.types.size)) = true)
    (hres : fn.resultTypes = #[tb]) (htb : P.underlying tb = some .bool)
    (hs : ∀ ds : List (DataW H), ds.length = fn.params.toList.length → s.fn H ds = { results := [.lit (.bool true)], args := ds })
    (hc : ∀ us, TypedArgs P B fn.params.toList us → Contract P f us [] (.val (.bool true)) []) :
    ∀ (W : World) (base : Nat) (args : Array Value) (ds gs : List (DataW H)) (before : List MemPlace),
      (∀ (j : Nat) t v, fn.params[j]? = some t → args[j]? = some v → Value.okWide P W .any base t v) →
      DataW.Whole enc P fn.params.toList s.vars apart W args.toList ds gs before → bulkAll (ds ++ gs) ≤ B →
      Calls P f args W fun e W' => ∃ v, e = .returned v ∧ s.post enc P fn apart fresh handsOn false W args v W' :=
  fun W base args ds gs before hval hW hB => row_of0 B none hl hvars hpar hpar2 hres htb hs (fun us h _ => hc us h) W base args ds gs before hval hW (fun d hd => .inr (Nat.le_trans (bulkAll_mem (by simp [hd])) hB)) (fun z h => by cases h)

/-- As row_upto; the arguments' sizes, added up, are small, too. -/
theorem row_upto2 {B : Nat} {f : FuncId} {fn : Func} {s : ChangeSpec} {apart handsOn fresh : Bool} {tb : TypeId}
    (hl : laidOutB P = true) (hvars : s.vars = []) (hpar : (fn.params.toList.all fun t => readable P 14 t && oneB P t) = true) (hpar2 : (fn.params.toList.all fun t => P.readableRec t && decide (t < P.types.size)) = true)
    (hres : fn.resultTypes = #[tb]) (htb : P.underlying tb = some .bool)
    (hs : ∀ ds : List (DataW H), ds.length = fn.params.toList.length → s.fn H ds = { results := [.lit (.bool true)], args := ds })
    (hc : ∀ us, TypedArgs P B fn.params.toList us → szL us ≤ B → Contract P f us [] (.val (.bool true)) []) :
    ∀ (W : World) (base : Nat) (args : Array Value) (ds gs : List (DataW H)) (before : List MemPlace),
      (∀ (j : Nat) t v, fn.params[j]? = some t → args[j]? = some v → Value.okWide P W .any base t v) →
      DataW.Whole enc P fn.params.toList s.vars apart W args.toList ds gs before → bulkAll (ds ++ gs) ≤ B →
      Calls P f args W fun e W' => ∃ v, e = .returned v ∧ s.post enc P fn apart fresh handsOn false W args v W' :=
  fun W base args ds gs before hval hW hB => row_of0 B (some B) hl hvars hpar hpar2 hres htb hs (fun us h hz => hc us h (hz B rfl)) W base args ds gs before hval hW (fun d hd => .inr (Nat.le_trans (bulkAll_mem (by simp [hd])) hB)) (fun z h => by cases h; exact Nat.le_trans (bulkAll_left ds gs) hB)

end
end Go.Proofs.Ytieffigehkjifaa.E

/- Contracts of library functions: what all of them use. -/
namespace Go.Proofs.Ytieffigehkjifaa.E
open Go
set_option linter.unusedSimpArgs false

/-- What is said of an object need not be said. -/
theorem Contract.drop0 {P : Program} {f : FuncId} {args : List V} {objs : List E.Obj} {r : V} {o : Option E.Obj} {os : List (Option E.Obj)} (h : Contract P f args objs r (o :: os)) : Contract P f args objs r (none :: os) := by
  refine ⟨h.goes, fun w G X τ vals hm hX ha => Calls.mono (h.calls w G X τ vals hm hX ha) ?_⟩
  rintro e w' ⟨v, G', τ', rfl, h1, h2, h3, h4⟩
  have sub : ∀ i p, objsAt' (none :: os) i = some p → objsAt' (o :: os) i = some p := by
    intro i p hp
    cases i with
    | zero => simp [objsAt'] at hp
    | succ i => simpa [objsAt'] using hp
  exact ⟨v, G', τ', rfl, h1, h2, h3, h4.gold, fun i p hp => h4.ok i p (sub i p hp), fun i p b hp => h4.own i p b (sub i p hp), fun i j p q b hp hq => h4.inj i j p q b (sub i p hp) (sub j q hq)⟩

/-- A slice that is owned, by its block: however much room there is. -/
theorem Contract.own {P : Program} {f : FuncId} {args : List V} {objs : List E.Obj} {n : Nat} {rows : List (List V)} {r : V} {os : List (Option E.Obj)}
    (h : ∀ c, rows.length ≤ c → Contract P f (.vw 0 n 0 rows.length :: args) (.blk n rows c :: objs) r os) : Contract P f (.own 0 :: args) (.arr n rows :: objs) r os := by
  refine ⟨(h _ (Nat.le_refl _)).goes, fun w G X τ vals hm hX ha => ?_⟩
  have hok := hm.ok 0 _ rfl
  simp only [Obj.ok] at hok
  have hc := h (τ 0).cap hok.2.1
  have sub : ∀ i p, objsAt (.blk n rows (τ 0).cap :: objs) i = some p → (i = 0 ∧ p = .blk n rows (τ 0).cap) ∨ (i ≠ 0 ∧ objsAt (.arr n rows :: objs) i = some p) := by
    intro i p hp
    cases i with
    | zero => left; simp [objsAt] at hp; exact ⟨rfl, hp.symm⟩
    | succ i => right; exact ⟨by omega, by simpa [objsAt] using hp⟩
  have tot : ∀ i p, objsAt (.blk n rows (τ 0).cap :: objs) i = some p → ∃ q, objsAt (.arr n rows :: objs) i = some q := by
    intro i p hp
    rcases sub i p hp with ⟨rfl, _⟩ | ⟨_, h⟩
    · exact ⟨_, rfl⟩
    · exact ⟨_, h⟩
  refine Calls.mono (hc.calls w G X τ vals ⟨hm.gold, fun i p hp => ?_, fun i p b hp => ?_, fun i j p q b hp hq => ?_⟩ (fun b hb => ?_) ?_) ?_
  · rcases sub i p hp with ⟨rfl, rfl⟩ | ⟨_, h⟩
    · simp only [Obj.ok]; exact ⟨trivial, hok.2⟩
    · exact hm.ok i p h
  · obtain ⟨q, hq⟩ := tot i p hp
    exact hm.own i q b hq
  · obtain ⟨p', hp'⟩ := tot i p hp
    obtain ⟨q', hq'⟩ := tot j q hq
    exact hm.inj i j p' q' b hp' hq'
  · obtain ⟨i, o, h1, h2⟩ := hX b hb
    cases i with
    | zero => exact ⟨0, _, rfl, h2⟩
    | succ i => exact ⟨i + 1, o, by simpa [objsAt] using h1, h2⟩
  · cases hv : vals.toList with
    | nil => rw [hv] at ha; simp only [repL] at ha
    | cons x xs =>
      rw [hv] at ha
      simp only [repL] at ha ⊢
      refine ⟨?_, ha.2⟩
      have h1 := ha.1
      simp only [V.rep, Gh.hdr, hok.1] at h1
      simp only [V.rep]
      refine ⟨_, h1, Nat.zero_le _, hok.2.1, .inl ?_⟩
      rcases hok.2.2 with ⟨_, e2, _⟩ | ⟨b, _, _, _, _, e2, _⟩
      · rw [e2]; rfl
      · rw [e2]; simp [add_plain]
  · rintro e w' ⟨v, G', τ', rfl, h1, h2, h3, h4⟩
    exact ⟨v, G', τ', rfl, h1, fun i hi => h2 i (by simpa using hi), h3, h4⟩

theorem i64_small {n : Int} (h : -9223372036854775808 ≤ n ∧ n ≤ 9223372036854775807) : IntKind.i64.wrap n = n := Go.IntWalk.i64_in _ h

theorem over_app {X Y S : List (List V)} {a : Nat} (h : a = X.length) : over (X ++ Y) a S = X ++ S ++ Y.drop S.length := by
  subst h
  unfold over
  rw [List.take_left', List.drop_append, List.drop_of_length_le (by omega)]
  · simp
  · rfl

theorem ins1 {rows : List (List V)} {row z : List V} {k a m : Nat} (ha : a = k) (hk : k ≤ rows.length) (hm : 0 < m) :
    over (rows.take k ++ List.replicate (rows.length + 1 - k) z) a (List.take m [row]) = rows.take k ++ row :: List.replicate (rows.length - k) z := by
  have e2 : List.take m [row] = [row] := List.take_of_length_le (by simp; omega)
  rw [e2, over_app (by simp; omega)]
  simp only [List.length_cons, List.length_nil, List.append_assoc, List.cons_append, List.nil_append, List.drop_replicate]
  congr 3
  omega

theorem ins2 {rows : List (List V)} {row z : List V} {k a b m : Nat} (ha : a = k + 1) (hb : b = k) (hk : k ≤ rows.length) (hm : rows.length - k ≤ m) :
    over (rows.take k ++ row :: List.replicate (rows.length - k) z) a (List.take m (List.drop b rows)) = rows.take k ++ row :: rows.drop k := by
  subst ha hb
  rw [List.take_of_length_le (i := m) (l := List.drop b rows) (by simp; omega)]
  have e : rows.take b ++ row :: List.replicate (rows.length - b) z = (rows.take b ++ [row]) ++ List.replicate (rows.length - b) z := by simp
  rw [e, over_app (by simp; omega)]
  simp

theorem ins3 {rows : List (List V)} {k a b m : Nat} (ha : a = k + 1) (hb : b = k) (hk : k < rows.length) (hm : rows.length - k ≤ m) :
    over rows a (List.take m (List.drop b rows)) = rows.take (k + 1) ++ rows.drop k := by
  subst ha hb
  rw [List.take_of_length_le (i := m) (l := List.drop b rows) (by simp; omega)]
  unfold over
  rw [List.drop_of_length_le (i := b + 1 + (List.drop b rows).length) (by simp; omega)]
  simp

theorem ins4 {rows : List (List V)} {row : List V} {k a m : Nat} (ha : a = k) (hk : k < rows.length) (hm : 0 < m) :
    over (rows.take (k + 1) ++ rows.drop k) a (List.take m [row]) = rows.take k ++ row :: rows.drop k := by
  subst ha
  have e2 : List.take m [row] = [row] := List.take_of_length_le (by simp; omega)
  rw [e2]
  unfold over
  have h1 : (rows.take (a + 1) ++ rows.drop a).take a = rows.take a := by rw [List.take_append_of_le_length (by simp; omega), List.take_take]; congr 1; omega
  have h2 : (rows.take (a + 1) ++ rows.drop a).drop (a + [row].length) = rows.drop a := by
    rw [List.drop_append, List.drop_of_length_le (by simp; omega)]
    simp only [List.length_cons, List.length_nil, List.length_take, List.nil_append]
    rw [show a + (0 + 1) - min (a + 1) rows.length = 0 by omega]; rfl
  rw [h1, h2]
  simp

/-- A slice without rows is nil, or it is not. -/
theorem Contract.slNil {P : Program} {f : FuncId} {args : List V} {objs : List E.Obj} {n : Nat} {r : V} {os : List (Option E.Obj)} (h1 : ∀ c, Contract P f (.val (.slice none 0 c) :: args) objs r os) (h2 : ∀ A c, Contract P f (.val (.slice (some A) 0 c) :: args) objs r os) : Contract P f (.sl n [] :: args) objs r os := by
  refine ⟨(h1 0).goes, fun w G X τ vals hm hX ha => ?_⟩
  cases hv : vals.toList with
  | nil => rw [hv] at ha; simp only [repL] at ha
  | cons x xs =>
    have ha' := ha
    rw [hv] at ha
    simp only [repL] at ha
    have h := ha.1
    simp only [V.rep, V.repI] at h
    obtain ⟨a, cap, hx, _, _⟩ := h
    cases a with
    | some A =>
      refine (h2 A cap).calls w G X τ vals hm hX ?_
      rw [hv]
      simp only [repL]
      exact ⟨by simp only [V.rep, V.repI]; exact hx, ha.2⟩
    | none =>
      refine (h1 cap).calls w G X τ vals hm hX ?_
      rw [hv]
      simp only [repL]
      exact ⟨by simp only [V.rep, V.repI]; exact hx, ha.2⟩

/-- A slice that is nil is one without rows. -/
theorem Contract.ofNil {P : Program} {f : FuncId} {args : List V} {objs : List E.Obj} {n c : Nat} {r : V} {os : List (Option E.Obj)} (h : Contract P f (.sl n [] :: args) objs r os) : Contract P f (.val (.slice none 0 c) :: args) objs r os := by
  refine ⟨h.goes, fun w G X τ vals hm hX ha => h.calls w G X τ vals hm hX ?_⟩
  cases hv : vals.toList with
  | nil => rw [hv] at ha; simp only [repL] at ha
  | cons x xs =>
    rw [hv] at ha
    simp only [repL] at ha ⊢
    refine ⟨?_, ha.2⟩
    have h := ha.1
    simp only [V.rep, V.repI] at h ⊢
    exact ⟨none, c, h, Nat.zero_le _, .inl trivial⟩

/-- What is made and owned may be read only from then on. -/
theorem Contract.froze {P : Program} {f : FuncId} {args : List V} {n : Nat} {rows : List (List V)} (h : Contract P f args [] (.own 0) [some (.arr n rows)]) : Contract P f args [] (.sl n rows) [] := by
  refine ⟨h.goes, fun w G X τ vals hm hX ha => Calls.mono (h.calls w G X τ vals hm hX ha) ?_⟩
  rintro e w' ⟨v, G', τ', rfl, h1, h2, h3, h4⟩
  have hno : ∀ b, ¬ X b := fun b hb => by obtain ⟨i, o, h, _⟩ := hX b hb; simp [objsAt] at h
  have hok := h4.ok 0 _ rfl
  simp only [Obj.ok, rowsOk] at hok
  simp only [V.rep, Gh.hdr] at h3
  have hmo : ∀ b, G' b → (G' b ∨ (τ' 0).blk = some b) ∧ w'.heap[b]? = w'.heap[b]? := fun b hb => ⟨.inl hb, rfl⟩
  refine ⟨v, fun b => G' b ∨ (τ' 0).blk = some b, τ', rfl, ⟨h1.os, h1.tape, h1.output, h1.size, h1.block, fun b hb => ⟨.inl (h1.keep b hb).1, (h1.keep b hb).2⟩, ?_⟩, fun i hi => by simp at hi, ?_, ⟨?_, ?_, ?_, ?_⟩⟩
  · rintro b (hb | hb)
    · exact h1.grow b hb
    · rcases h4.own 0 _ b rfl hb with h | h
      · exact .inr (.inr h)
      · exact .inr (.inl h)
  · simp only [V.rep, V.repI]
    rw [h3, hok.1]
    refine ⟨_, _, rfl, hok.2.1, ?_⟩
    rcases hok.2.2 with ⟨_, _, hc⟩ | ⟨b, xs, t, fz, hb, ha', _, _, _, _, hr⟩
    · left
      have := hok.2.1
      rw [hc] at this
      exact List.length_eq_zero_iff.1 (by omega)
    · exact .inr ⟨b, 0, ha', .inr hb, repRows_mono hmo n b rfl 0 rows hr⟩
  · rintro b (hb | hb)
    · exact h4.gold b hb
    · rcases hok.2.2 with ⟨hn, _⟩ | ⟨b', xs, t, fz, hb', _, hh, _⟩
      · rw [hn] at hb; cases hb
      · rw [hb'] at hb; cases hb
        exact (Array.getElem?_eq_some_iff.1 hh).1
  · intro i o hi; simp [objsAt'] at hi
  · intro i o b hi; simp [objsAt'] at hi
  · intro i j o o' b hi; simp [objsAt'] at hi

/-! ### what is said less exactly -/

/-- Whatever is said by the one is said by the other. -/
def subV (a b : V) : Prop := ∀ (w : World) (G : Nat → Prop) (x : Value), a.repI w G x → b.repI w G x
def subR : List V → List V → Prop
  | [], [] => True
  | a :: as, b :: bs => subV a b ∧ subR as bs
  | _, _ => False
def subRs : List (List V) → List (List V) → Prop
  | [], [] => True
  | a :: as, b :: bs => subR a b ∧ subRs as bs
  | _, _ => False
theorem subV.rfl {a : V} : subV a a := fun _ _ _ h => h
theorem subR.rfl : ∀ {a : List V}, subR a a
  | [] => trivial
  | _ :: _ => ⟨subV.rfl, subR.rfl⟩
theorem subV.nil {n c : Nat} : subV (.val (.slice none 0 c)) (.sl n []) := by
  intro w G x h
  simp only [V.repI] at h ⊢
  exact ⟨none, c, h, Nat.zero_le _, .inl trivial⟩
theorem subR.last {cs : List V} {a b : V} (h : subV a b) : subR (cs ++ [a]) (cs ++ [b]) := by
  induction cs with
  | nil => exact ⟨h, trivial⟩
  | cons c cs ih => exact ⟨subV.rfl, ih⟩
theorem subR.len : ∀ {a b : List V}, subR a b → a.length = b.length
  | [], [], _ => Eq.refl _
  | _ :: _, _ :: _, h => by simp [subR.len h.2]
  | [], _ :: _, h => h.elim
  | _ :: _, [], h => h.elim
theorem subRs.len : ∀ {a b : List (List V)}, subRs a b → a.length = b.length
  | [], [], _ => Eq.refl _
  | _ :: _, _ :: _, h => by simp [subRs.len h.2]
  | [], _ :: _, h => h.elim
  | _ :: _, [], h => h.elim
theorem subR.cells {w : World} {G : Nat → Prop} {b : Nat} : ∀ {cs ds : List V}, subR cs ds → ∀ {o : Nat}, repCells w G b o cs → repCells w G b o ds
  | [], [], _, _, h => h
  | c :: cs, d :: ds, hs, o, h => by
    simp only [repCells] at h ⊢
    obtain ⟨⟨x, h1, h2, h3⟩, h4⟩ := h
    exact ⟨⟨x, h1, h2, hs.1 w G x h3⟩, hs.2.cells h4⟩
  | [], _ :: _, h, _, _ => h.elim
  | _ :: _, [], h, _, _ => h.elim
theorem subRs.rows {w : World} {G : Nat → Prop} {n b : Nat} : ∀ {rs ss : List (List V)}, subRs rs ss → ∀ {o : Nat}, repRows w G n b o rs → repRows w G n b o ss
  | [], [], _, _, h => h
  | c :: cs, d :: ds, hs, o, h => by
    simp only [repRows] at h ⊢
    exact ⟨by rw [← hs.1.len]; exact h.1, hs.1.cells h.2.1, hs.2.rows h.2.2⟩
  | [], _ :: _, h, _, _ => h.elim
  | _ :: _, [], h, _, _ => h.elim
theorem subRs.sl {n : Nat} {rs ss : List (List V)} (h : subRs rs ss) : subV (.sl n rs) (.sl n ss) := by
  intro w G x hx
  simp only [V.repI] at hx ⊢
  obtain ⟨a, cap, h1, h2, h3⟩ := hx
  refine ⟨a, cap, by rw [← h.len]; exact h1, by rw [← h.len]; exact h2, ?_⟩
  rcases h3 with h3 | ⟨b, o, h4, h5, h6⟩
  · subst h3
    cases ss with
    | nil => exact .inl _root_.rfl
    | cons _ _ => exact h.elim
  · exact .inr ⟨b, o, h4, h5, h.rows h6⟩
def subA (a b : V) : Prop := ∀ (w : World) (G : Nat → Prop) (τ : Nat → Gh) (x : Value), a.rep w G τ x → b.rep w G τ x
theorem subA.rfl {a : V} : subA a a := fun _ _ _ _ h => h
theorem subA.nil {n c : Nat} : subA (.val (.slice none 0 c)) (.sl n []) := by
  intro w G τ x h
  simp only [V.rep] at h ⊢
  exact subV.nil w G x h
theorem subRs.arg {n : Nat} {rs ss : List (List V)} (h : subRs rs ss) : subA (.sl n rs) (.sl n ss) := by
  intro w G τ x hx
  simp only [V.rep] at hx ⊢
  exact h.sl w G x hx
def subAs : List V → List V → Prop
  | [], [] => True
  | a :: as, b :: bs => subA a b ∧ subAs as bs
  | _, _ => False
theorem subAs.rfl : ∀ {a : List V}, subAs a a
  | [] => trivial
  | _ :: _ => ⟨subA.rfl, subAs.rfl⟩
theorem subAs.repL {w : World} {G : Nat → Prop} {τ : Nat → Gh} : ∀ {as bs : List V} {xs : List Value}, subAs as bs → E.repL w G τ as xs → E.repL w G τ bs xs
  | [], [], _, _, h => h
  | a :: as, b :: bs, [], _, h => by simp only [E.repL] at h
  | a :: as, b :: bs, x :: xs, hs, h => by
    simp only [E.repL] at h ⊢
    exact ⟨hs.1 w G τ x h.1, hs.2.repL h.2⟩
  | [], _ :: _, _, h, _ => h.elim
  | _ :: _, [], _, h, _ => h.elim
/-- A contract for arguments of which less is known is one for those of which more is. -/
theorem Contract.subs {P : Program} {f : FuncId} {args args' : List V} {objs : List E.Obj} {r : V} {os : List (Option E.Obj)} (h : Contract P f args objs r os) (hs : subAs args' args) : Contract P f args' objs r os :=
  ⟨h.goes, fun w G X τ vals hm hX ha => h.calls w G X τ vals hm hX (hs.repL ha)⟩

def idxI {α : Type} (p : α → Bool) (l : List α) : Int := match l.findIdx? p with
  | some j => (j : Int)
  | none => -1

theorem del1 {rows : List (List V)} {i b m : Nat} (hb : b = i) (hi : i ≤ m) : over rows b (List.take (rows.length - m) (List.drop m rows)) = rows.take i ++ rows.drop m ++ rows.drop (i + (rows.length - m)) := by
  subst hb
  rw [List.take_of_length_le (by simp)]
  unfold over
  simp
theorem del2 {rows : List (List V)} {z : List V} {i j : Nat} (hi : i ≤ j) (hj : j ≤ rows.length) :
    over (rows.take i ++ rows.drop j ++ rows.drop (i + (rows.length - j))) (i + (rows.length - j)) (List.replicate (rows.length - (i + (rows.length - j))) z) = rows.take i ++ rows.drop j ++ List.replicate (j - i) z := by
  have e1 : rows.length - (i + (rows.length - j)) = j - i := by omega
  have e2 : List.drop (i + (rows.length - j) + (j - i)) rows = [] := List.drop_of_length_le (by omega)
  rw [over_app (by simp; omega), e1]
  simp only [List.length_replicate, List.drop_drop, e2, List.append_nil]
theorem del3 {rows : List (List V)} {z : List V} {i j : Nat} (hi : i ≤ j) (hj : j ≤ rows.length) :
    List.take (i + (rows.length - j)) (rows.take i ++ rows.drop j ++ List.replicate (j - i) z) = rows.take i ++ rows.drop j := by
  rw [List.take_left' (by simp; omega)]

/-- A loop that goes through a list. -/
theorem LoopC.fold {P : Program} {k n : Nat} {c : Code} {α σ : Type} (l : List α) (step : σ → α → σ) (inv : Nat → σ → Prop) (S : σ → Nat → SL) {e : Ex} (he : e ≠ .normal)
    (hround : ∀ (i : Nat) (s : σ) (x : α), l[i]? = some x → i < l.length → inv i s → CodeC P k n c (S s i) .normal (S (step s x) (i + 1)) ∧ inv (i + 1) (step s x))
    (hend : ∀ s, inv l.length s → CodeC P k n c (S s l.length) e (S s l.length)) (s : σ) (h0 : inv 0 s) : LoopC P k n c (S s 0) e (S (l.foldl step s) l.length) := by
  have key : ∀ (m i : Nat) (s : σ), i + m = l.length → inv i s → LoopC P k n c (S s i) e (S ((l.drop i).foldl step s) l.length) := by
    intro m
    induction m with
    | zero =>
      intro i s hi h
      have : i = l.length := by omega
      subst this
      rw [List.drop_length]
      exact LoopC.last (hend s h) he
    | succ m ih =>
      intro i s hi h
      have hlt : i < l.length := by omega
      obtain ⟨r, h'⟩ := hround i s l[i] (by simp [hlt]) hlt h
      rw [List.drop_eq_getElem_cons hlt, List.foldl_cons]
      exact LoopC.next r (ih (i + 1) _ (by omega) h')
  have := key l.length 0 s (by omega) h0
  simpa only [List.drop_zero] using this

/-- What holds all along. -/
theorem foldl_inv {α σ : Type} (step : σ → α → σ) (inv : Nat → σ → Prop) : ∀ (l : List α) (i : Nat) (s : σ), inv i s → (∀ i s x, x ∈ l → inv i s → inv (i + 1) (step s x)) → inv (i + l.length) (l.foldl step s)
  | [], i, s, h, _ => h
  | x :: l, i, s, h, hs => by
    rw [List.foldl_cons, List.length_cons, show i + (l.length + 1) = (i + 1) + l.length by omega]
    exact foldl_inv step inv l (i + 1) _ (hs i s x (by simp) h) fun i s y hy => hs i s y (by simp [hy])

theorem u64_small {n : Int} (h : 0 ≤ n ∧ n ≤ 9223372036854775807) : IntKind.u64.wrap n = n := by
  simp only [IntKind.wrap]
  simp [IntKind.signed, IntKind.bits]
  omega

theorem clear1 {α : Type} {f : α → List V} {R : List α} {L i a m : Nat} {z : List V} (hR : R.length = L) (hi : i ≤ L) (ha : a = i) (hm : m = L - i) : over (R.map f) a (List.replicate m z) = (R.take i).map f ++ List.replicate (L - i) z := by
  subst ha hm
  unfold over
  rw [List.drop_of_length_le (by simp; omega)]
  simp [List.map_take]
theorem clear2 {α : Type} {f : α → List V} {R K : List α} {L i m : Nat} {z : List V} (hR : R.length = L) (hi : i ≤ L) (hK : R.take i = K) (hm : m = i) : List.take m ((R.take i).map f ++ List.replicate (L - i) z) = K.map f := by
  subst hm
  rw [List.take_left' (by simp; omega), hK]
theorem setRow {α : Type} (f : α → List V) (R : List α) (i : Nat) (x : α) : (R.map f).set i (f x) = (R.set i x).map f := by simp [List.map_set]

/-- A loop that goes through a list and may stop at an element. -/
theorem LoopC.search {P : Program} {k n : Nat} {c : Code} {α : Type} (l : List α) (bad : Nat → α → Bool) (S T : Nat → SL) {e1 e2 : Ex} (he1 : e1 ≠ .normal) (he2 : e2 ≠ .normal)
    (hgo : ∀ (i : Nat) (x : α), l[i]? = some x → i < l.length → bad i x = false → CodeC P k n c (S i) .normal (S (i + 1)))
    (hstop : ∀ (i : Nat) (x : α), l[i]? = some x → i < l.length → bad i x = true → CodeC P k n c (S i) e1 (T i))
    (hend : CodeC P k n c (S l.length) e2 (S l.length)) :
    (∃ i x, l[i]? = some x ∧ bad i x = true ∧ (∀ j y, j < i → l[j]? = some y → bad j y = false) ∧ LoopC P k n c (S 0) e1 (T i)) ∨ ((∀ i x, l[i]? = some x → bad i x = false) ∧ LoopC P k n c (S 0) e2 (S l.length)) := by
  have key : ∀ (m i : Nat), i + m = l.length → (∀ j y, j < i → l[j]? = some y → bad j y = false) →
      (∃ i' x, l[i']? = some x ∧ bad i' x = true ∧ (∀ j y, j < i' → l[j]? = some y → bad j y = false) ∧ LoopC P k n c (S i) e1 (T i')) ∨ ((∀ i x, l[i]? = some x → bad i x = false) ∧ LoopC P k n c (S i) e2 (S l.length)) := by
    intro m
    induction m with
    | zero =>
      intro i hi h
      have : i = l.length := by omega
      subst this
      refine .inr ⟨fun j y hy => h j y (List.getElem?_eq_some_iff.1 hy).1 hy, LoopC.last hend he2⟩
    | succ m ih =>
      intro i hi h
      have hlt : i < l.length := by omega
      have hx : l[i]? = some l[i] := List.getElem?_eq_getElem hlt
      cases hb : bad i l[i] with
      | true => exact .inl ⟨i, l[i], hx, hb, h, LoopC.last (hstop i l[i] hx hlt hb) he1⟩
      | false =>
        have h' : ∀ j y, j < i + 1 → l[j]? = some y → bad j y = false := by
          intro j y hj hy
          by_cases e : j = i
          · subst e
            rw [hx] at hy
            cases hy
            exact hb
          · exact h j y (by omega) hy
        rcases ih (i + 1) (by omega) h' with ⟨i', x, k1, k2, k3, k4⟩ | ⟨k1, k2⟩
        · exact .inl ⟨i', x, k1, k2, k3, LoopC.next (hgo i l[i] hx hlt hb) k4⟩
        · exact .inr ⟨k1, LoopC.next (hgo i l[i] hx hlt hb) k2⟩
  exact key l.length 0 (by omega) (fun j y hj => by omega)

theorem find_first {α : Type} {p : α → Bool} {l : List α} {i : Nat} {x : α} (h : l[i]? = some x) (hp : p x = true) (hf : ∀ (j : Nat) (y : α), j < i → l[j]? = some y → p y = false) : l.find? p = some x := by
  induction l generalizing i with
  | nil => simp at h
  | cons y l ih =>
    rw [List.find?_cons]
    cases i with
    | zero =>
      simp at h
      subst h
      rw [hp]
    | succ i =>
      rw [hf 0 y (by omega) (by simp)]
      exact ih (by simpa using h) fun j z hj hz => hf (j + 1) z (by omega) (by simpa using hz)
theorem find_none {α : Type} {p : α → Bool} {l : List α} (h : ∀ (i : Nat) (x : α), l[i]? = some x → p x = false) : l.find? p = none := by
  rw [List.find?_eq_none]
  intro x hx
  obtain ⟨i, hi⟩ := List.getElem?_of_mem hx
  simp [h i x hi]

theorem tf (b : Bool) : b = true ∨ b = false := by cases b <;> simp
theorem Contract.cast {P : Program} {f : FuncId} {args : List V} {objs : List E.Obj} {r r' : V} {os os' : List (Option E.Obj)} (hr : r = r') (ho : os = os') (h : Contract P f args objs r' os') : Contract P f args objs r os := by subst hr; subst ho; exact h
theorem CodeC.cast {P : Program} {k n : Nat} {c : Code} {s0 s s' : SL} {e : Ex} (hs : s = s') (h : CodeC P k n c s0 e s') : CodeC P k n c s0 e s := by subst hs; exact h

end Go.Proofs.Ytieffigehkjifaa.E

