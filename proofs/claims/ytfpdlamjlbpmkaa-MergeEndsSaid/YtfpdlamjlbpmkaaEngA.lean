/- The engine, part A: value terms, what they stand for in memory, and that this keeps while what they read is kept. -/
import Derived.Orders
import Derived.KernelRfl
import Derived.Below
import Derived.Laws.Sem
namespace Go.Proofs.Ytfpdlamjlbpmkaa.E
open Go

/-- Value terms: what a slot holds, at the level of lists. -/
inductive V where
  | val (x : Value)
  | agg (cs : List V)
  | nil
  | sl (n : Nat) (rows : List (List V))
  | own (id : Nat)
  | ptr (id n row off : Nat)
  | iptr (n : Nat) (rows : List (List V)) (row off : Nat)
  | vw (id n a b : Nat)
  | clo (fn : Fn) (first caps : List V)
  | tup (vs : List V)
  | undef

mutual
/-- What is read only: scalars, and slices whose cells lie in blocks that stay. -/
def V.repI (w : World) (G : Nat → Prop) : V → Value → Prop
  | .val x, v => v = x
  | .nil, v => v = .slice none 0 0
  | .sl n rows, v => ∃ a cap, v = .slice a rows.length cap ∧ rows.length ≤ cap ∧ (rows = [] ∨ ∃ b o, a = some ⟨b, o, none⟩ ∧ G b ∧ repRows w G n b o rows)
  | .undef, _ => True
  | .agg _, _ => False
  | .own _, _ => False
  | .ptr _ _ _ _, _ => False
  | .iptr _ _ _ _, _ => False
  | .vw _ _ _ _, _ => False
  | .clo _ _ _, _ => False
  | .tup _, _ => False
def repRows (w : World) (G : Nat → Prop) (sz b : Nat) : Nat → List (List V) → Prop
  | _, [] => True
  | o, r :: rs => r.length = sz ∧ repCells w G b o r ∧ repRows w G sz b (o + sz) rs
def repCells (w : World) (G : Nat → Prop) (b : Nat) : Nat → List V → Prop
  | _, [] => True
  | o, c :: cs => (∃ x, w.cell? ⟨b, o, none⟩ = some x ∧ x.oneCell' = true ∧ c.repI w G x) ∧ repCells w G b (o + 1) cs
end

/-- What is known of an object: its block, its slice's header. -/
structure Gh where
  blk : Option Nat
  adr : Option Addr
  len : Nat
  cap : Nat

def Gh.hdr (g : Gh) : Value := .slice g.adr g.len g.cap

/-- A part of a slice that is owned: from row a to row b. -/
def Gh.part (g : Gh) (n a b : Nat) (v : Value) : Prop := ∃ ad, v = .slice ad (b - a) (g.cap - a) ∧ a ≤ b ∧ b ≤ g.cap ∧ (ad = g.adr.map (·.add (a * n)) ∨ (a = g.cap ∧ 0 < a))

mutual
def V.rep (w : World) (G : Nat → Prop) (τ : Nat → Gh) : V → Value → Prop
  | .agg cs, v => ∃ xs, v = .agg xs ∧ repL w G τ cs xs.toList
  | .own id, v => v = (τ id).hdr
  | .ptr id n row off, v => ∃ b, (τ id).blk = some b ∧ v = .pointer (some ⟨b, row * n + off, none⟩)
  | .iptr n rows row off, v => ∃ b o, G b ∧ repRows w G n b o rows ∧ row < rows.length ∧ v = .pointer (some ⟨b, o + row * n + off, none⟩)
  | .vw id n a b, v => (τ id).part n a b v
  | .clo fn first caps, v => ∃ xs ys, v = .func fn xs ys ∧ repL w G τ first xs.toList ∧ repL w G τ caps ys.toList
  | .tup vs, v => ∃ xs, v = .tuple xs ∧ repL w G τ vs xs.toList
  | .val x, v => (V.val x).repI w G v
  | .nil, v => V.nil.repI w G v
  | .sl n rows, v => (V.sl n rows).repI w G v
  | .undef, _ => True
def repL (w : World) (G : Nat → Prop) (τ : Nat → Gh) : List V → List Value → Prop
  | [], [] => True
  | c :: cs, x :: xs => c.rep w G τ x ∧ repL w G τ cs xs
  | [], _ :: _ => False
  | _ :: _, [] => False
end

/-- An object: a variable's cells, or the rows of a slice that is owned. -/
inductive Obj where
  | box (cells : List V)
  | arr (n : Nat) (rows : List (List V))
  | blk (n : Nat) (rows : List (List V)) (c : Nat)

def Obj.rowsB : Obj → Bool
  | .box _ => false
  | _ => true

def Free (fz : Nat × Nat) (n : Nat) : Prop := ∀ i, i < n → ¬ (fz.1 ≤ i ∧ i < fz.2)

theorem Free.le {fz : Nat × Nat} {n m : Nat} (h : Free fz n) (hm : m ≤ n) : Free fz m := fun i hi => h i (Nat.lt_of_lt_of_le hi hm)

/-- The rows that a block begins with. -/
def rowsOk (w : World) (G : Nat → Prop) (g : Gh) (n : Nat) (rows : List (List V)) : Prop :=
  rows.length ≤ g.cap ∧ ((g.blk = none ∧ g.adr = none ∧ g.cap = 0) ∨
        ∃ b xs t fz, g.blk = some b ∧ g.adr = some ⟨b, 0, none⟩ ∧ w.heap[b]? = some (.cells xs t fz) ∧ ¬ G b ∧ Free fz (xs.size + 1) ∧ xs.size = g.cap * n ∧ repRows w G n b 0 rows)

def Obj.ok (w : World) (G : Nat → Prop) (τ : Nat → Gh) (id : Nat) : Obj → Prop
  | .box cells => ∃ b xs t fz, (τ id).blk = some b ∧ w.heap[b]? = some (.cells xs t fz) ∧ ¬ G b ∧ Free fz xs.size ∧ repL w G τ cells xs.toList
  | .arr n rows => (τ id).len = rows.length ∧ rowsOk w G (τ id) n rows
  | .blk n rows c => (τ id).cap = c ∧ rowsOk w G (τ id) n rows

/-! ## Keeping -/

mutual
theorem repI_mono {w w' : World} {G G' : Nat → Prop} (h : ∀ b, G b → G' b ∧ w'.heap[b]? = w.heap[b]?) : ∀ (v : V) (x : Value), v.repI w G x → v.repI w' G' x
  | .val _, _, hv => by simpa only [V.repI] using hv
  | .nil, _, hv => by simpa only [V.repI] using hv
  | .undef, _, _ => by simp only [V.repI]
  | .sl n rows, x, hv => by
    simp only [V.repI] at hv ⊢
    obtain ⟨a, cap, e1, e2, e3⟩ := hv
    refine ⟨a, cap, e1, e2, ?_⟩
    rcases e3 with e3 | ⟨b, o, e4, hg, hr⟩
    · exact .inl e3
    · exact .inr ⟨b, o, e4, (h b hg).1, repRows_mono h n b (h b hg).2 o rows hr⟩
  | .agg _, _, hv => by simp only [V.repI] at hv
  | .own _, _, hv => by simp only [V.repI] at hv
  | .ptr _ _ _ _, _, hv => by simp only [V.repI] at hv
  | .iptr _ _ _ _, _, hv => by simp only [V.repI] at hv
  | .vw _ _ _ _, _, hv => by simp only [V.repI] at hv
  | .clo _ _ _, _, hv => by simp only [V.repI] at hv
  | .tup _, _, hv => by simp only [V.repI] at hv
theorem repRows_mono {w w' : World} {G G' : Nat → Prop} (h : ∀ b, G b → G' b ∧ w'.heap[b]? = w.heap[b]?) (sz b : Nat) (hb : w'.heap[b]? = w.heap[b]?) : ∀ (o : Nat) (rs : List (List V)), repRows w G sz b o rs → repRows w' G' sz b o rs
  | _, [], _ => by simp only [repRows]
  | o, r :: rs, hr => by
    simp only [repRows] at hr ⊢
    exact ⟨hr.1, repCells_mono h b hb o r hr.2.1, repRows_mono h sz b hb (o + sz) rs hr.2.2⟩
theorem repCells_mono {w w' : World} {G G' : Nat → Prop} (h : ∀ b, G b → G' b ∧ w'.heap[b]? = w.heap[b]?) (b : Nat) (hb : w'.heap[b]? = w.heap[b]?) : ∀ (o : Nat) (cs : List V), repCells w G b o cs → repCells w' G' b o cs
  | _, [], _ => by simp only [repCells]
  | o, c :: cs, hr => by
    simp only [repCells] at hr ⊢
    obtain ⟨⟨x, hx, h1, hc⟩, hr⟩ := hr
    exact ⟨⟨x, by simpa only [World.cell?, hb] using hx, h1, repI_mono h c x hc⟩, repCells_mono h b hb (o + 1) cs hr⟩
end

end Go.Proofs.Ytfpdlamjlbpmkaa.E
