/- The engine, part A: value terms, what they stand for in memory, and that this keeps while what they read is kept. -/
import Derived.Orders
import Derived.KernelRfl
import Derived.Below
import Derived.Laws.Sem
import Derived.MapKept
import Derived.Laws.Tables
import Derived.Laws.CopyRow
import Derived.Laws.Cells
import Derived.Laws.NewFold
import Derived.ChangeKeysEq
import Derived.IntWalk
namespace Go.Proofs.YtinfjnnffmlpmaaGreatDoor.E
open Go

/-- Value terms: what a slot holds, at the level of lists. -/
inductive V where
  | val (x : Value)
  | agg (cs : List V)
  | nil
  | sl (n : Nat) (rows : List (List V))
  | own (id : Nat)
  | ptr (id n row off : Nat)
  | iptr (n : Nat) (rows : List (List V)) (row off : Nat)
  | vw (id n a b : Nat)
  | mref (id : Nat)
  | clo (fn : Fn) (first caps : List V)
  | tup (vs : List V)
  | undef

mutual
/-- What is read only: scalars, and slices whose cells lie in blocks that stay. -/
def V.repI (w : World) (G : Nat → Prop) : V → Value → Prop
  | .val x, v => v = x
  | .nil, v => v = .slice none 0 0
  | .sl n rows, v => ∃ a cap, v = .slice a rows.length cap ∧ rows.length ≤ cap ∧ (rows = [] ∨ ∃ b o, a = some ⟨b, o, none⟩ ∧ G b ∧ repRows w G n b o rows)
  | .undef, _ => True
  | .agg _, _ => False
  | .own _, _ => False
  | .ptr _ _ _ _, _ => False
  | .iptr _ _ _ _, _ => False
  | .vw _ _ _ _, _ => False
  | .mref _, _ => False
  | .clo _ _ _, _ => False
  | .tup _, _ => False
def repRows (w : World) (G : Nat → Prop) (sz b : Nat) : Nat → List (List V) → Prop
  | _, [] => True
  | o, r :: rs => r.length = sz ∧ repCells w G b o r ∧ repRows w G sz b (o + sz) rs
def repCells (w : World) (G : Nat → Prop) (b : Nat) : Nat → List V → Prop
  | _, [] => True
  | o, c :: cs => (∃ x, w.cell? ⟨b, o, none⟩ = some x ∧ x.oneCell' = true ∧ c.repI w G x) ∧ repCells w G b (o + 1) cs
end

/-- What is known of an object: its block, its slice's header. -/
structure Gh where
  blk : Option Nat
  adr : Option Addr
  len : Nat
  cap : Nat

def Gh.hdr (g : Gh) : Value := .slice g.adr g.len g.cap

/-- A part of a slice that is owned: from row a to row b. -/
def Gh.part (g : Gh) (n a b : Nat) (v : Value) : Prop := ∃ ad, v = .slice ad (b - a) (g.cap - a) ∧ a ≤ b ∧ b ≤ g.cap ∧ (ad = g.adr.map (·.add (a * n)) ∨ (a = g.cap ∧ 0 < a))

/-- Its block is there, if it has room. -/
def Gh.fit (g : Gh) : Prop := g.cap = 0 ∨ ∃ b, g.blk = some b ∧ g.adr = some ⟨b, 0, none⟩

mutual
def V.rep (w : World) (G : Nat → Prop) (τ : Nat → Gh) : V → Value → Prop
  | .agg cs, v => ∃ xs, v = .agg xs ∧ repL w G τ cs xs.toList
  | .own id, v => v = (τ id).hdr
  | .ptr id n row off, v => ∃ b, (τ id).blk = some b ∧ v = .pointer (some ⟨b, row * n + off, none⟩)
  | .iptr n rows row off, v => ∃ b o, G b ∧ repRows w G n b o rows ∧ row < rows.length ∧ v = .pointer (some ⟨b, o + row * n + off, none⟩)
  | .vw id n a b, v => (τ id).fit ∧ (τ id).part n a b v
  | .mref id, v => v = .map (τ id).blk
  | .clo fn first caps, v => ∃ xs ys, v = .func fn xs ys ∧ repL w G τ first xs.toList ∧ repL w G τ caps ys.toList
  | .tup vs, v => ∃ xs, v = .tuple xs ∧ repL w G τ vs xs.toList
  | .val x, v => (V.val x).repI w G v
  | .nil, v => V.nil.repI w G v
  | .sl n rows, v => (V.sl n rows).repI w G v
  | .undef, _ => True
def repL (w : World) (G : Nat → Prop) (τ : Nat → Gh) : List V → List Value → Prop
  | [], [] => True
  | c :: cs, x :: xs => c.rep w G τ x ∧ repL w G τ cs xs
  | [], _ :: _ => False
  | _ :: _, [] => False
end

/-- What a nested object holds at a place: what stands for itself, or has a name; a slice that it owns; a variable that it owns and that begins with a slice that it owns. -/
inductive Inn where
  | hole (v : V)
  | sl (n : Nat) (rows : List (List V))
  | box (n : Nat) (rows : List (List V)) (rest : List V)

/-- A nested object: a slice's places, a map from texts. -/
inductive Nest where
  | arr (rows : List Inn)
  | mp (nl : Bool) (es : List (ByteArray × Inn))

/-- An object: a variable's cells, or the rows of a slice that is owned. -/
inductive Obj where
  | box (cells : List V)
  | arr (n : Nat) (rows : List (List V))
  | blk (n : Nat) (rows : List (List V)) (c : Nat)
  | mp (k : IntKind) (es : List (Int × Bool))
  | nest (k : Nest) (hs : List Nat)

def Obj.plain : Obj → Bool
  | .nest _ _ => false
  | _ => true

def Obj.rowsB : Obj → Bool
  | .box _ => false
  | .nest _ hs => hs.isEmpty
  | _ => true

/-- The entries of a map from integers to bools. -/
def mapIs (k : IntKind) (es : List (Int × Bool)) (m : List MapEntry) : Prop := m.map (fun e => (e.key, e.val)) = es.map (fun p => (Value.int k p.1, Value.bool p.2))

def Free (fz : Nat × Nat) (n : Nat) : Prop := ∀ i, i < n → ¬ (fz.1 ≤ i ∧ i < fz.2)

theorem Free.le {fz : Nat × Nat} {n m : Nat} (h : Free fz n) (hm : m ≤ n) : Free fz m := fun i hi => h i (Nat.lt_of_lt_of_le hi hm)

/-- The rows that a block begins with. -/
def rowsOk (w : World) (G : Nat → Prop) (g : Gh) (n : Nat) (rows : List (List V)) : Prop :=
  rows.length ≤ g.cap ∧ ((g.blk = none ∧ g.adr = none ∧ g.cap = 0) ∨
        ∃ b xs t fz, g.blk = some b ∧ g.adr = some ⟨b, 0, none⟩ ∧ w.heap[b]? = some (.cells xs t fz) ∧ ¬ G b ∧ Free fz (xs.size + 1) ∧ g.cap * n ≤ xs.size ∧ repRows w G n b 0 rows)

def Obj.ok (w : World) (G : Nat → Prop) (τ : Nat → Gh) (id : Nat) : Obj → Prop
  | .box cells => ∃ b xs t fz, (τ id).blk = some b ∧ w.heap[b]? = some (.cells xs t fz) ∧ ¬ G b ∧ Free fz xs.size ∧ repL w G τ cells xs.toList
  | .arr n rows => (τ id).len = rows.length ∧ rowsOk w G (τ id) n rows
  | .blk n rows c => (τ id).cap = c ∧ rowsOk w G (τ id) n rows
  | .mp k es => ∃ b m clock, (τ id).blk = some b ∧ w.heap[b]? = some (.map m clock) ∧ ¬ G b ∧ mapIs k es m.toList
  | .nest (.arr rows) _ => (τ id).len = rows.length ∧ rowsOk w G (τ id) 1 (List.replicate rows.length [.undef])
  | .nest (.mp nl _) _ => (nl = true ∧ (τ id).blk = none) ∨ (nl = false ∧ ∃ b m clock, (τ id).blk = some b ∧ w.heap[b]? = some (.map m clock) ∧ ¬ G b ∧ MapKept.Stamped m clock)

/-! ## Keeping -/

mutual
theorem repI_mono {w w' : World} {G G' : Nat → Prop} (h : ∀ b, G b → G' b ∧ w'.heap[b]? = w.heap[b]?) : ∀ (v : V) (x : Value), v.repI w G x → v.repI w' G' x
  | .val _, _, hv => by simpa only [V.repI] using hv
  | .nil, _, hv => by simpa only [V.repI] using hv
  | .undef, _, _ => by simp only [V.repI]
  | .sl n rows, x, hv => by
    simp only [V.repI] at hv ⊢
    obtain ⟨a, cap, e1, e2, e3⟩ := hv
    refine ⟨a, cap, e1, e2, ?_⟩
    rcases e3 with e3 | ⟨b, o, e4, hg, hr⟩
    · exact .inl e3
    · exact .inr ⟨b, o, e4, (h b hg).1, repRows_mono h n b (h b hg).2 o rows hr⟩
  | .agg _, _, hv => by simp only [V.repI] at hv
  | .own _, _, hv => by simp only [V.repI] at hv
  | .ptr _ _ _ _, _, hv => by simp only [V.repI] at hv
  | .iptr _ _ _ _, _, hv => by simp only [V.repI] at hv
  | .vw _ _ _ _, _, hv => by simp only [V.repI] at hv
  | .mref _, _, hv => by simp only [V.repI] at hv
  | .clo _ _ _, _, hv => by simp only [V.repI] at hv
  | .tup _, _, hv => by simp only [V.repI] at hv
theorem repRows_mono {w w' : World} {G G' : Nat → Prop} (h : ∀ b, G b → G' b ∧ w'.heap[b]? = w.heap[b]?) (sz b : Nat) (hb : w'.heap[b]? = w.heap[b]?) : ∀ (o : Nat) (rs : List (List V)), repRows w G sz b o rs → repRows w' G' sz b o rs
  | _, [], _ => by simp only [repRows]
  | o, r :: rs, hr => by
    simp only [repRows] at hr ⊢
    exact ⟨hr.1, repCells_mono h b hb o r hr.2.1, repRows_mono h sz b hb (o + sz) rs hr.2.2⟩
theorem repCells_mono {w w' : World} {G G' : Nat → Prop} (h : ∀ b, G b → G' b ∧ w'.heap[b]? = w.heap[b]?) (b : Nat) (hb : w'.heap[b]? = w.heap[b]?) : ∀ (o : Nat) (cs : List V), repCells w G b o cs → repCells w' G' b o cs
  | _, [], _ => by simp only [repCells]
  | o, c :: cs, hr => by
    simp only [repCells] at hr ⊢
    obtain ⟨⟨x, hx, h1, hc⟩, hr⟩ := hr
    exact ⟨⟨x, by simpa only [World.cell?, hb] using hx, h1, repI_mono h c x hc⟩, repCells_mono h b hb (o + 1) cs hr⟩
end

end Go.Proofs.YtinfjnnffmlpmaaGreatDoor.E

/- The engine, part B: what a run of the engine is. -/
namespace Go.Proofs.YtinfjnnffmlpmaaGreatDoor.E
open Go

/-- A tree that asks for objects on its way. -/
inductive T (α : Type) where
  | ret (a : α)
  | ask (id : Nat) (k : Obj → T α)
  | fail

def T.bind {α β : Type} : T α → (α → T β) → T β
  | .ret a, f => f a
  | .ask id k, f => .ask id fun o => (k o).bind f
  | .fail, _ => .fail

def T.run {α : Type} (st : Nat → Option Obj) : T α → Option (α × List Nat)
  | .ret a => some (a, [])
  | .ask id k => match st id with
    | none => none
    | some o => match (k o).run st with
      | none => none
      | some (a, rs) => some (a, id :: rs)
  | .fail => none

def T.of {α : Type} : Option α → T α
  | some a => .ret a
  | none => .fail

mutual
/-- The names that occur in a term. -/
def V.ids : V → List Nat
  | .own id => [id]
  | .ptr id _ _ _ => [id]
  | .vw id _ _ _ => [id]
  | .mref id => [id]
  | .agg cs => idsL cs
  | .tup cs => idsL cs
  | .clo _ f c => idsL f ++ idsL c
  | .val _ => []
  | .nil => []
  | .sl _ _ => []
  | .iptr _ _ _ _ => []
  | .undef => []
def idsL : List V → List Nat
  | [] => []
  | c :: cs => c.ids ++ idsL cs
end

def Inn.ids : Inn → List Nat
  | .hole v => v.ids
  | .sl _ _ => []
  | .box _ _ rest => idsL rest

/-- What an operation does: its value, what objects become, what was to hold, which names are new. -/
structure Eff where
  v : V
  ws : List (Nat × Option Obj)
  obs : List Prop
  new : List Nat

def Eff.val (v : V) : Eff := ⟨v, [], [], []⟩

inductive Ans where
  | br (t : Bool)
  | row (cells : List V)
  | idx (n : Nat)
  | str (s : ByteArray)
  | call (pass give : List Nat) (r : V) (objs : List (Option Obj))
  | ext (pass give : List Nat) (r : V) (objs : List (Option Obj))
  | app (F : List V → Option V)
  | be (v : V)
  | beO (rows : List (List V))
  | beM (es : List (Int × Bool))
  | inn (c : Inn)
  | shut (id row s : Nat) (rows : List Inn)
  | froz
  | cst (id off : Nat) (c : V)
  | shutM (id i : Nat) (key : ByteArray) (s : Nat) (es : List (ByteArray × Inn))
  | forgM (id i : Nat) (key : ByteArray) (es : List (ByteArray × Inn)) (hs : List Nat)
  | beN (id : Nat) (es : List (ByteArray × Inn))
  | cellc (k : IntKind) (y : Int) (r : Value)

/-! ## Scalars -/

def ofCell (x : Value) : V := match x with
  | .slice none 0 0 => .nil
  | x => .val x

def ofVal1 (x : Value) : V := match x with
  | .agg xs => .agg (xs.toList.map ofCell)
  | x => ofCell x

def ofVal (x : Value) : V := match x with
  | .tuple xs => .tup (xs.toList.map ofVal1)
  | x => ofVal1 x

def cellVal : V → Option Value
  | .val x => some x
  | .nil => some (.slice none 0 0)
  | _ => none

def allSome {α β : Type} (f : α → Option β) : List α → Option (List β)
  | [] => some []
  | a :: l => match f a with
    | none => none
    | some b => match allSome f l with
      | none => none
      | some bs => some (b :: bs)

def V.toVal1 : V → Option Value
  | .agg cs => match allSome cellVal cs with
    | none => none
    | some xs => some (.agg xs.toArray)
  | v => cellVal v

def V.toVal : V → Option Value
  | .tup vs => match allSome V.toVal1 vs with
    | none => none
    | some xs => some (.tuple xs.toArray)
  | v => v.toVal1

/-- What a tree of operations comes to if it asks for no memory. -/
def still {α : Type} (P : Program) : Sem α → Option α
  | .pure a => some a
  | .program k => still P (k P)
  | .mark _ k => still P k
  | _ => none

def genOp (P : Program) (rd : Operand → V) (o : Oper) : T Eff :=
  match allSome (fun x => (rd x).toVal) o.op.operands.toList with
  | none => .fail
  | some _ => match still P (execOp (fun x => ((rd x).toVal).getD Go.undef) o) with
    | some (.value v) => .ret (Eff.val (ofVal v))
    | _ => .fail

/-! ## Cells -/

def V.one : V → Bool
  | .agg _ => false
  | .undef => false
  | .tup _ => false
  | .val x => match x with
    | .agg _ => false
    | .tuple _ => false
    | _ => true
  | _ => true

def V.cells : V → Option (List V)
  | .agg cs => bif cs.all V.one then some cs else none
  | v => bif v.one then some [v] else none

def szOf (P : Program) (t : TypeId) : Option Nat := match P.info? t with
  | some i => some i.size
  | none => none

def zeroOf (P : Program) (t : TypeId) : Option (List V) := match P.info? t with
  | some i => match i.zero with
    | some z => bif z.cells.toList.all Value.oneCell' then some (z.cells.toList.map ofCell) else none
    | none => none
  | none => none

def isAggB (P : Program) (t : TypeId) : Option Bool := match P.underlying t with
  | some (.struct _) => some true
  | some (.array _ _) => some true
  | some _ => some false
  | none => none

def takeCells (P : Program) (t : TypeId) (cells : List V) (off : Nat) : Option V :=
  match isAggB P t, szOf P t with
  | some true, some n => bif Nat.ble (off + n) cells.length then some (.agg ((cells.drop off).take n)) else none
  | some false, some _ => cells[off]?
  | _, _ => none

def splice (cells : List V) (off : Nat) (new : List V) : Option (List V) :=
  bif Nat.ble (off + new.length) cells.length then some (cells.take off ++ new ++ cells.drop (off + new.length)) else none

/-- Which cells of a type are slices, and how many cells their elements have. -/
def kinds (P : Program) : Nat → TypeId → Option (List (Option Nat))
  | 0, _ => none
  | d + 1, t => match P.underlying t with
    | some (.slice e) => match szOf P e with
      | some n => some [some n]
      | none => none
    | some (.struct fs) => match allSome (fun (f : Field) => kinds P d f.type) fs.toList with
      | some l => some l.flatten
      | none => none
    | some (.array k e) => match kinds P d e with
      | some l => some (List.replicate k l).flatten
      | none => none
    | some _ => some [none]
    | none => none

def fixCells : List (Option Nat) → List V → List V
  | some n :: ks, .nil :: cs => .sl n [] :: fixCells ks cs
  | _ :: ks, c :: cs => c :: fixCells ks cs
  | [], cs => cs
  | _ :: _, [] => []

/-- A nil slice that is handed on is a slice without rows. -/
def fixV (P : Program) (t : TypeId) (v : V) : V := match v with
  | .agg cs => match kinds P 40 t with
    | some ks => .agg (fixCells ks cs)
    | none => .agg cs
  | .nil => match P.underlying t with
    | some (.slice e) => match szOf P e with
      | some n => .sl n []
      | none => .nil
    | _ => .nil
  | v => v

def fixRow (P : Program) (t : TypeId) (cs : List V) : List V := match kinds P 40 t with
  | some ks => fixCells ks cs
  | none => cs

/-- Cells that lie in a slice's row stand for themselves: a slice that is owned is given up. -/
def settle : List V → T (List V × List Nat)
  | [] => .ret ([], [])
  | c :: cs => match c with
    | .own id => .ask id fun o => match o with
      | .arr n rows => (settle cs).bind fun r => .ret (.sl n rows :: r.1, id :: r.2)
      | _ => .fail
    | .val x => (settle cs).bind fun r => .ret (.val x :: r.1, r.2)
    | .nil => (settle cs).bind fun r => .ret (.nil :: r.1, r.2)
    | .sl n rows => (settle cs).bind fun r => .ret (.sl n rows :: r.1, r.2)
    | _ => .fail

def kills (ids : List Nat) : List (Nat × Option Obj) := ids.map fun i => (i, none)

def evAlloc (P : Program) (site : Nat) (t : TypeId) : T Eff := match zeroOf P t with
  | some cs => .ret ⟨.ptr site 0 0 0, [(site, some (.box cs))], [], [site]⟩
  | none => .fail

def evBox (site : Nat) (v : V) : T Eff := match v.cells with
  | some cs => .ret ⟨.ptr site 0 0 0, [(site, some (.box cs))], [], [site]⟩
  | none => .fail

/-- A new variable; a nil in it is an owned slice without rows, if the answers begin so. -/
def evBoxA (site : Nat) (ans : List Ans) (v : V) : T Eff := match v.cells, ans with
  | some [.nil], .idx n :: _ => .ret ⟨.ptr site 0 0 0, [(site + 1, some (.arr n [])), (site, some (.box [.own (site + 1)]))], [], [site + 1, site]⟩
  | _, _ => evBox site v

def fillV (place : Nat → Option (Nat × Nat)) (cells : List V) : List (Nat × V) → Option (List V)
  | [] => some cells
  | (i, v) :: rest => match place i, v.cells with
    | some (off, size), some cs => bif cs.length == size then (match splice cells off cs with
      | some cells' => fillV place cells' rest
      | none => none) else none
    | _, _ => none

def placesOf (P : Program) (t : TypeId) : Option (Nat → Option (Nat × Nat)) := match P.underlying t with
  | some (.struct fields) => match allSome (fun (f : Field) => match szOf P f.type with
      | some n => some (f.offset, n)
      | none => none) fields.toList with
    | some l => some fun i => l[i]?
    | none => none
  | some (.array _ e) => match szOf P e with
    | some n => some fun i => some (i * n, n)
    | none => none
  | _ => none

def evBuild (P : Program) (rd : Operand → V) (t : TypeId) (parts : Array (Nat × Operand)) : T Eff :=
  match zeroOf P t, placesOf P t with
  | some z, some place => match fillV place z (parts.toList.map fun p => (p.1, rd p.2)) with
    | some cs => .ret (Eff.val (.agg cs))
    | none => .fail
  | _, _ => .fail

/-- The rows of a slice that is written out: each place once, in order. -/
def rowsOf (P : Program) (t : TypeId) (n : Nat) : Nat → List (Nat × V) → T (List (List V) × List Nat)
  | _, [] => .ret ([], [])
  | k, (i, v) :: rest => bif i == k then (match v.cells with
    | some cs => bif cs.length == n then (settle (fixRow P t cs)).bind fun r => (rowsOf P t n (k + 1) rest).bind fun rs => .ret (r.1 :: rs.1, r.2 ++ rs.2) else .fail
    | none => .fail) else .fail

def elemOfSlice (P : Program) (t : TypeId) : Option (TypeId × Nat) := match P.underlying t with
  | some (.slice e) => match szOf P e with
    | some n => some (e, n)
    | none => none
  | _ => none

def evBuildSlice (P : Program) (rd : Operand → V) (site : Nat) (t : TypeId) (len : Nat) (parts : Array (Nat × Operand)) : T Eff :=
  match elemOfSlice P t with
  | some (e, n) => match zeroOf P e with
    | some z => bif Nat.ble 1 n && (z.length == n && (parts.size == len && Nat.ble (len * n) (2 ^ 24))) then
      (rowsOf P e n 0 (parts.toList.map fun p => (p.1, rd p.2))).bind fun r => .ret ⟨.own site, kills r.2 ++ [(site, some (.arr n r.1))], [], [site]⟩
      else .fail
    | none => .fail
  | none => .fail

/-! ## Loads, stores, addresses -/

def rowOf (ans : List Ans) (rows : List (List V)) (row : Nat) : T (List V × List Prop) := match ans with
  | .row cells :: _ => .ret (cells, [rows[row]? = some cells])
  | _ => match rows[row]? with
    | some cells => .ret (cells, [])
    | none => .fail

/-- A place of a nested object is read: what it owns there gets a name. -/
def loadInn (site id : Nat) (ans : List Ans) (rows : List Inn) (hs : List Nat) (row : Nat) : T Eff := match ans with
  | .inn (.hole v) :: _ => .ret ⟨v, [], [rows[row]? = some (.hole v)], []⟩
  | .inn (.sl n rs) :: _ => .ret ⟨.own site, [(id, some (.nest (.arr (rows.set row (.hole (.own site)))) (site :: hs))), (site, some (.arr n rs))], [rows[row]? = some (.sl n rs)], [site]⟩
  | _ => .fail

/-- A type of one cell. -/
def oneCellT (P : Program) (t : TypeId) : Bool := match isAggB P t, szOf P t with
  | some false, some 1 => true
  | _, _ => false

/-- What a cell holds all the while. -/
def cstAns (ans : List Ans) (id row off : Nat) : Option V := match ans with
  | .cst i o c :: _ => bif row == 0 && (i == id && o == off) then some c else none
  | _ => none

def evLoad (P : Program) (site : Nat) (ans : List Ans) (t : TypeId) (a : V) : T Eff := match a with
  | .ptr id n row off => match cstAns ans id row off with
    | some c => bif oneCellT P t then .ret (Eff.val c) else .fail
    | none => .ask id fun o => match o with
    | .box cells => bif row == 0 then (match takeCells P t cells off with
      | some v => .ret (Eff.val v)
      | none => .fail) else .fail
    | .arr m rows => bif m == n then ((rowOf ans rows row).bind fun r => match takeCells P t r.1 off with
      | some v => .ret ⟨v, [], r.2, []⟩
      | none => .fail) else .fail
    | .blk _ _ _ => .fail
    | .mp _ _ => .fail
    | .nest (.arr rows) hs => bif n == 1 && (off == 0 && oneCellT P t) then loadInn site id ans rows hs row else .fail
    | .nest (.mp _ _) _ => .fail
  | .iptr _ rows row off => (rowOf ans rows row).bind fun r => match takeCells P t r.1 off with
      | some v => .ret ⟨v, [], r.2, []⟩
      | none => .fail
  | _ => .fail

/-- What is stored: nil as a slice without rows, if the answers begin so. -/
def nilFix (ans : List Ans) (v : V) : V := match v, ans with
  | .nil, .idx n :: .idx _ :: _ => .sl n []
  | v, _ => v

def evStore (P : Program) (ans : List Ans) (t : TypeId) (a v : V) : T Eff := match a, v.cells, szOf P t with
  | .ptr id m row off, some cs, some n => bif cs.length == n then .ask id fun o => match o with
      | .box cells => bif row == 0 then (match splice cells off cs with
        | some cells' => .ret ⟨.val Go.undef, [(id, some (.box cells'))], [], []⟩
        | none => .fail) else .fail
      | .arr k rows => bif k == m then ((rowOf ans rows row).bind fun r => (settle (fixRow P t cs)).bind fun s => match splice r.1 off s.1 with
        | some cells' => bif s.2.contains id then .fail else .ret ⟨.val Go.undef, kills s.2 ++ [(id, some (.arr k (rows.set row cells')))], r.2, []⟩
        | none => .fail) else .fail
      | .blk _ _ _ => .fail
      | .mp _ _ => .fail
      | .nest (.arr rows) hs => bif m == 1 && (off == 0 && oneCellT P t) then (match cs with
        | [c] => .ret ⟨.val Go.undef, [(id, some (.nest (.arr (rows.set row (.hole c))) (c.ids ++ hs)))], [row < rows.length], []⟩
        | _ => .fail) else .fail
      | .nest (.mp _ _) _ => .fail
    else .fail
  | _, _, _ => .fail

def evFieldAddr (P : Program) (t : TypeId) (a : V) (f : Nat) : T Eff := match P.underlying t with
  | some (.struct fields) => match fields[f]? with
    | some fd => match szOf P fd.type with
      | some n => bif n == 0 then .fail else (match a with
        | .ptr id m row off => .ret (Eff.val (.ptr id m row (off + fd.offset)))
        | .iptr m rows row off => .ret (Eff.val (.iptr m rows row (off + fd.offset)))
        | _ => .fail)
      | none => .fail
    | none => .fail
  | _ => .fail

def evField (P : Program) (t : TypeId) (x : V) (f : Nat) : T Eff := match P.underlying t with
  | some (.struct fields) => match fields[f]? with
    | some fd => match x with
      | .agg cs => match takeCells P fd.type cs fd.offset with
        | some v => .ret (Eff.val v)
        | none => .fail
      | _ => .fail
    | none => .fail
  | _ => .fail

/-- An index: as it stands, or, where it is no numeral, the one that the answer names. -/
def litOf (ans : List Ans) (i : Int) : T (Nat × List Prop) := match ans with
  | .idx n :: _ => .ret (n, [i = (n : Int)])
  | _ => match i with
    | .ofNat n => .ret (n, [])
    | _ => .fail

def evIndexAddr (P : Program) (ans : List Ans) (t : TypeId) (x i : V) : T Eff := match P.underlying t with
  | some (.array len e) => match szOf P e, i with
    | some n, .val (.int _ i) => (litOf ans i).bind fun r => bif Nat.blt r.1 len then (match x with
      | .ptr id m row off => .ret ⟨.ptr id m row (off + r.1 * n), [], r.2, []⟩
      | .iptr m rows row off => .ret ⟨.iptr m rows row (off + r.1 * n), [], r.2, []⟩
      | _ => .fail) else .fail
    | _, _ => .fail
  | some (.slice e) => match szOf P e, i with
    | some n, .val (.int _ i) => bif n == 0 then .fail else (match x with
      | .sl m rows => bif m == n then .ret ⟨.iptr n rows i.toNat 0, [], [0 ≤ i, i < (rows.length : Int)], []⟩ else .fail
      | .own id => .ask id fun o => match o with
        | .arr m rows => bif m == n then .ret ⟨.ptr id n i.toNat 0, [], [0 ≤ i, i < (rows.length : Int)], []⟩ else .fail
        | _ => .fail
      | .vw id m a b => bif m == n then .ret ⟨.ptr id n (a + i.toNat) 0, [], [0 ≤ i, i < ((b - a : Nat) : Int)], []⟩ else .fail
      | _ => .fail)
    | _, _ => .fail
  | _ => .fail

def evIndex (P : Program) (ans : List Ans) (t : TypeId) (x i : V) : T Eff := match P.underlying t, i with
  | some (.array len e), .val (.int _ i) => match szOf P e, x with
    | some n, .agg cs => (litOf ans i).bind fun r => bif Nat.blt r.1 len then (match takeCells P e cs (r.1 * n) with
      | some v => .ret ⟨v, [], r.2, []⟩
      | none => .fail) else .fail
    | _, _ => .fail
  | some .string, .val (.int _ i) => match x with
    | .val (.string s) => .ret ⟨.val (.int .u8 (s.data.getD i.toNat 0).toNat), [], [0 ≤ i, i < (s.size : Int)], []⟩
    | _ => .fail
  | _, _ => .fail

/-! ## Slices -/

def bytesOf (P : Program) (t : TypeId) : Nat := match P.info? t with
  | some i => i.bytes
  | none => 0

/-- The rows of a slice, whoever owns it, of n cells each. -/
def rowsAt (n : Nat) (v : V) : T (List (List V)) := match v with
  | .nil => .ret []
  | .val (.slice _ 0 _) => .ret []
  | .sl m rows => bif m == n then .ret rows else .fail
  | .own id => .ask id fun o => match o with
    | .arr m rows => bif m == n then .ret rows else .fail
    | _ => .fail
  | _ => .fail

def evLen (P : Program) (rd : Operand → V) (o : Oper) (x : V) : T Eff := match x with
  | .nil => .ret (Eff.val (.val (.int .i64 0)))
  | .sl _ rows => .ret (Eff.val (.val (.int .i64 rows.length)))
  | .vw _ _ a b => .ret (Eff.val (.val (.int .i64 ((b - a : Nat) : Int))))
  | .own id => .ask id fun o => match o with
    | .arr _ rows => .ret (Eff.val (.val (.int .i64 rows.length)))
    | _ => .fail
  | _ => genOp P rd o

def elemOf (P : Program) (t : TypeId) : TypeId := match P.underlying t with
  | some (.slice e) => e
  | _ => 0

def optInt (d : Int) : Option V → Option Int
  | none => some d
  | some (.val (.int _ i)) => some i
  | some _ => none

def evSlice (P : Program) (t : TypeId) (x : V) (lo hi : Option V) : T Eff := match x with
  | .sl n rows => match elemOfSlice P t, optInt 0 lo, optInt rows.length hi with
    | some (_, m), some l, some h => bif m == n then .ret ⟨.sl n ((rows.take h.toNat).drop l.toNat), [], [0 ≤ l, l ≤ h, h ≤ (rows.length : Int)], []⟩ else .fail
    | _, _, _ => .fail
  | .own id => .ask id fun o => match o with
    | .arr n rows => match elemOfSlice P t, optInt 0 lo, optInt rows.length hi with
      | some (_, m), some l, some h => bif m == n then .ret ⟨.sl n ((rows.take h.toNat).drop l.toNat), [(id, none)], [0 ≤ l, l ≤ h, h ≤ (rows.length : Int)], []⟩ else .fail
      | _, _, _ => .fail
    | _ => .fail
  | .nil => match elemOfSlice P t, optInt 0 lo, optInt (([] : List (List V)).length) hi with
    | some (_, _), some l, some h => .ret ⟨.nil, [], [0 ≤ l, l ≤ h, h ≤ (([] : List (List V)).length : Int)], []⟩
    | _, _, _ => .fail
  | _ => match P.underlying t, x, optInt 0 lo with
    | some .string, .val (.string s), some l => match optInt s.size hi with
      | some h => .ret ⟨.val (.string (s.extract l.toNat h.toNat)), [], [0 ≤ l, l ≤ h, h ≤ (s.size : Int)], []⟩
      | none => .fail
    | _, _, _ => .fail

def intRow (k : IntKind) (n : Int) : List V := [.val (.int k n)]

def strRows (s : ByteArray) : List (List V) := s.data.toList.map fun b => intRow .u8 b.toNat

/-- Rows put behind a slice. -/
def appendTo (P : Program) (site : Nat) (e : TypeId) (n : Nat) (base : V) (new : List (List V)) : T Eff := match base with
    | .nil => .ret ⟨.own site, [(site, some (.arr n new))], [new.length * bytesOf P e ≤ 2 ^ 47], [site]⟩
    | .own id => .ask id fun o => match o with
      | .arr m rows => bif m == n then .ret ⟨.own site, [(id, none), (site, some (.arr n (rows ++ new)))], [(rows.length + new.length) * bytesOf P e ≤ 2 ^ 47], [site]⟩ else .fail
      | _ => .fail
    | _ => .fail

def evAppend (P : Program) (site : Nat) (t u : TypeId) (base x : V) : T Eff := match elemOfSlice P t, P.underlying u, zeroOf P (elemOf P t) with
  | some (e, n), some d, some z => bif Nat.ble 1 n && (z.length == n && Nat.ble 1 (bytesOf P e)) then ((match d, x with
      | .string, .val (.string s) => bif n == 1 then T.ret (strRows s) else .fail
      | .slice _, x => rowsAt n x
      | _, _ => .fail).bind fun new => appendTo P site e n base new) else .fail
  | _, _, _ => .fail

/-- A new slice of slices. -/
def evMakeNest (P : Program) (site : Nat) (t : TypeId) (l c : V) : T Eff := match elemOfSlice P t, l, c with
  | some (e, n), .val (.int .i64 l), .val (.int .i64 c) => match zeroOf P e with
    | some [z] => bif n == 1 && Nat.ble 1 (bytesOf P e) then .ret ⟨.vw site 1 0 l.toNat, [(site, some (.nest (.arr (List.replicate l.toNat (.hole z))) []))], [l = c, 0 ≤ l, l.toNat * bytesOf P e ≤ 2 ^ 47], [site]⟩ else .fail
    | _ => .fail
  | _, _, _ => .fail

/-- A new slice of slices without rows. -/
def evMakeNestS (P : Program) (site k : Nat) (t : TypeId) (l c : V) : T Eff := match elemOfSlice P t, l, c with
  | some (e, n), .val (.int .i64 l), .val (.int .i64 c) => match zeroOf P e with
    | some [.nil] => bif n == 1 && Nat.ble 1 (bytesOf P e) then .ret ⟨.vw site 1 0 l.toNat, [(site, some (.nest (.arr (List.replicate l.toNat (.sl k []))) []))], [l = c, 0 ≤ l, l.toNat * bytesOf P e ≤ 2 ^ 47], [site]⟩ else .fail
    | _ => .fail
  | _, _, _ => .fail

/-- A new slice, as a part of itself. -/
def evMakeVw (P : Program) (site : Nat) (t : TypeId) (l c : V) : T Eff := match elemOfSlice P t, l, c with
  | some (e, n), .val (.int .i64 l), .val (.int .i64 c) => match zeroOf P e with
    | some z => bif Nat.ble 1 n && (z.length == n && Nat.ble 1 (bytesOf P e)) then .ret ⟨.vw site n 0 l.toNat, [(site, some (.arr n (List.replicate l.toNat z)))], [l = c, 0 ≤ l, l.toNat * bytesOf P e ≤ 2 ^ 47], [site]⟩ else .fail
    | none => .fail
  | _, _, _ => .fail

def evMakeSlice (P : Program) (site : Nat) (t : TypeId) (l c : V) : T Eff := match elemOfSlice P t, l, c with
  | some (e, n), .val (.int .i64 l), .val (.int .i64 c) => match zeroOf P e with
    | some z => bif Nat.ble 1 n && (z.length == n && Nat.ble 1 (bytesOf P e)) then .ret ⟨.own site, [(site, some (.arr n (List.replicate l.toNat z)))], [l = c, 0 ≤ l, l.toNat * bytesOf P e ≤ 2 ^ 47], [site]⟩ else .fail
    | none => .fail
  | _, _, _ => .fail

/-! ## Parts of slices that are owned -/

/-- An object's rows, and how far its parts may reach. -/
def Obj.parts : Obj → Option (Nat × List (List V) × Nat)
  | .arr n rows => some (n, rows, rows.length)
  | .blk n rows c => some (n, rows, c)
  | .box _ => none
  | .mp _ _ => none
  | .nest _ _ => none

def Obj.fill (rows : List (List V)) : Obj → Obj
  | .arr n _ => .arr n rows
  | .blk n _ c => .blk n rows c
  | .box cs => .box cs
  | .mp k es => .mp k es
  | .nest k hs => .nest k hs

def flagged : List Ans → Bool
  | .idx _ :: _ => true
  | _ => false

/-- A part of a part. -/
def evPart (P : Program) (t : TypeId) (id n a b : Nat) (lo hi mx : Option V) : T Eff := .ask id fun o => match o.parts, elemOfSlice P t, optInt 0 lo, optInt ((b - a : Nat) : Int) hi with
  | some (m, _, lim), some (_, k), some l, some h => bif m == n && k == n then (match mx with
    | none => .ret ⟨.vw id n (a + l.toNat) (a + h.toNat), [], [0 ≤ l, l ≤ h, a + h.toNat ≤ lim], []⟩
    | some _ => match hi, optInt 0 mx with
      | some _, some x => .ret ⟨.undef, [], [0 ≤ l, l ≤ h, h ≤ x, a + x.toNat ≤ lim], []⟩
      | _, _ => .fail) else .fail
  | _, _, _, _ => .fail

/-- A part of a slice that stays owned. -/
def evPartOwn (P : Program) (t : TypeId) (id : Nat) (lo hi mx : Option V) : T Eff := .ask id fun o => match o with
  | .arr m rows => match elemOfSlice P t, optInt 0 lo, optInt (rows.length : Int) hi with
    | some (_, k), some l, some h => bif m == k then (match mx with
      | none => .ret ⟨.vw id m l.toNat h.toNat, [], [0 ≤ l, l ≤ h, h.toNat ≤ rows.length], []⟩
      | some _ => match hi, optInt 0 mx with
        | some _, some x => .ret ⟨.undef, [], [0 ≤ l, l ≤ h, h ≤ x, x.toNat ≤ rows.length], []⟩
        | _, _ => .fail) else .fail
    | _, _, _ => .fail
  | _ => .fail

/-- A beginning, without room behind it: it is owned instead of the whole. -/
def evCut3 (P : Program) (site : Nat) (t : TypeId) (id : Nat) (lo hi mx : Option V) : T Eff := .ask id fun o => match o with
  | .arr m rows => match elemOfSlice P t, lo, hi, mx with
    | some (_, k), none, some (.val (.int _ h)), some (.val (.int _ x)) => bif m == k then .ret ⟨.own site, [(id, none), (site, some (.arr m (rows.take h.toNat)))], [0 ≤ h, h = x, h.toNat ≤ rows.length], [site]⟩ else .fail
    | _, _, _, _ => .fail
  | _ => .fail

/-- A part that begins where the block begins is a slice that is owned. -/
def evSeal (site : Nat) (id n b : Nat) : T Eff := .ask id fun o => match o.parts with
  | some (m, rows, _) => bif m == n then .ret ⟨.own site, [(id, none), (site, some (.arr n (rows.take b)))], [b ≤ rows.length], [site]⟩ else .fail
  | none => .fail

def evMove (site : Nat) (ans : List Ans) (v : V) : T Eff := bif flagged ans then (match v with
  | .vw id n a b => bif a == 0 then evSeal site id n b else .fail
  | .nil => match ans with
    | .idx n :: .idx _ :: .idx _ :: _ => .ret ⟨.vw site n 0 0, [(site, some (.blk n [] 0))], [], [site]⟩
    | .idx n :: .idx _ :: _ => .ret (Eff.val (.sl n []))
    | .idx n :: _ => .ret ⟨.own site, [(site, some (.arr n []))], [], [site]⟩
    | _ => .fail
  | .own id => .ask id fun o => match o, ans with
    | .arr n rows, .idx 1 :: _ => .ret ⟨.sl n rows, kills [id], [], []⟩
    | .arr n rows, _ => .ret ⟨.own site, [(id, none), (site, some (.arr n rows))], [], [site]⟩
    | _, _ => .fail
  | _ => .fail) else .ret (Eff.val v)

def evCap (v : V) : T Eff := match v with
  | .vw id _ a _ => .ask id fun o => match o with
    | .blk _ _ c => .ret (Eff.val (.val (.int .i64 ((c - a : Nat) : Int))))
    | _ => .fail
  | .nil => .ret (Eff.val (.val (.int .i64 0)))
  | _ => .fail

/-- The rows that a part, or another slice, has to give, to something that has room for so many. -/
def srcRows (id n : Nat) (rows : List (List V)) (room : Nat) (v : V) : T (List (List V) × List Prop) := match v with
  | .vw id2 n2 a2 b2 => bif id2 == id then (bif n2 == n then .ret ((rows.drop a2).take (min room (b2 - a2)), [a2 + min room (b2 - a2) ≤ rows.length]) else .fail) else .ask id2 fun o => match o.parts with
    | some (m, rows2, _) => bif n2 == n && m == n then .ret ((rows2.drop a2).take (min room (b2 - a2)), [a2 + min room (b2 - a2) ≤ rows2.length]) else .fail
    | none => .fail
  | .sl n2 rows2 => bif n2 == n then .ret (rows2.take room, []) else .fail
  | .nil => .ret ([], [])
  | .own id2 => bif id2 == id then .fail else .ask id2 fun o => match o with
    | .arr m rows2 => bif m == n then .ret (rows2.take room, []) else .fail
    | _ => .fail
  | _ => .fail

/-- Rows put over others. -/
def over (rows : List (List V)) (a : Nat) (new : List (List V)) : List (List V) := rows.take a ++ new ++ rows.drop (a + new.length)

def evCopy (P : Program) (t : TypeId) (dst src : V) : T Eff := match dst, elemOfSlice P t with
  | .vw id n a b, some (_, k) => .ask id fun o => match o.parts with
    | some (m, rows, lim) => bif m == n && k == n then (srcRows id n rows (b - a) src).bind fun s =>
        .ret ⟨.val (.int .i64 (s.1.length : Int)), [(id, some (o.fill (over rows a s.1)))], [a ≤ rows.length, b ≤ lim] ++ s.2, []⟩ else .fail
    | none => .fail
  | _, _ => .fail

def evClear (P : Program) (t : TypeId) (v : V) : T Eff := match v, elemOfSlice P t, zeroOf P (elemOf P t) with
  | .vw id n a b, some (_, k), some z => .ask id fun o => match o.parts with
    | some (m, rows, lim) => bif m == n && (k == n && z.length == n) then .ret ⟨.undef, [(id, some (o.fill (over rows a (List.replicate (b - a) z))))], [a ≤ rows.length, b ≤ lim], []⟩ else .fail
    | none => .fail
  | _, _, _ => .fail

/-- Rows put behind a part, where there is room. -/
def evAppendIn (P : Program) (t u : TypeId) (id n a b : Nat) (x : V) : T Eff := match elemOfSlice P t, elemOfSlice P u with
  | some (_, k), some (_, k') => .ask id fun o => match o.parts with
    | some (m, rows, lim) => bif m == n && (k == n && k' == n) then (match x with
      | .vw id2 n2 a2 b2 => bif id2 == id && n2 == n then .ret ⟨.vw id n a (b + (b2 - a2)), [(id, some (o.fill (over rows b ((rows.drop a2).take (b2 - a2)))))], [b ≤ rows.length, b2 ≤ rows.length, b + (b2 - a2) ≤ lim], []⟩ else .fail
      | _ => .fail) else .fail
    | none => .fail
  | _, _ => .fail

/-- A part of a slice that is owned, put behind another one. -/
def evAppendVw (P : Program) (site : Nat) (t u : TypeId) (base : V) (id2 n2 a2 b2 : Nat) : T Eff := match elemOfSlice P t, P.underlying u, zeroOf P (elemOf P t) with
  | some (e, n), some (.slice _), some z => bif Nat.ble 1 n && (z.length == n && (Nat.ble 1 (bytesOf P e) && n2 == n)) then (.ask id2 fun o => match o.parts with
    | some (m, rows2, _) => bif m == n then (appendTo P site e n base ((rows2.drop a2).take (b2 - a2))).bind fun e => .ret ⟨e.v, e.ws, (b2 ≤ rows2.length) :: e.obs, e.new⟩ else .fail
    | none => .fail) else .fail
  | _, _, _ => .fail

/-- A part, and so many zeros behind it, where there is no room. -/
def evGrow (P : Program) (site : Nat) (t : TypeId) (id n a b : Nat) (x : Int) : T Eff := match elemOfSlice P t with
  | some (e, k) => match zeroOf P e with
    | some z => .ask id fun o => match o with
      | .blk m rows c => bif m == n && (k == n && (z.length == n && (Nat.ble 1 n && Nat.ble 1 (bytesOf P e)))) then .ret ⟨.own site, [(site, some (.arr n ((rows.take b).drop a ++ List.replicate x.toNat z)))], [b ≤ rows.length, 0 ≤ x, c < b + x.toNat, (b - a + x.toNat) * bytesOf P e ≤ 2 ^ 47], [site]⟩ else .fail
      | _ => .fail
    | none => .fail
  | none => .fail

def isIntT (P : Program) (t : TypeId) : Bool := match P.underlying t with
  | some (.int _) => true
  | _ => false

/-! ## Maps from integers to bools -/

def evMakeMap (P : Program) (site : Nat) (t : TypeId) (r : Option V) : T Eff := match P.underlying t, r with
  | some (.map k e), none => match P.underlying k, P.underlying e with
    | some (.int kk), some .bool => .ret ⟨.mref site, [(site, some (.mp kk []))], [], [site]⟩
    | some .string, some (.pointer _) => .ret ⟨.mref site, [(site, some (.nest (.mp false []) []))], [], [site]⟩
    | _, _ => .fail
  | _, _ => .fail

/-- What stands at a key. -/
def mget (es : List (Int × Bool)) (x : Int) : Bool := match es.find? (fun p => x == p.1) with
  | some p => p.2
  | none => false
def mset (es : List (Int × Bool)) (x : Int) (v : Bool) : List (Int × Bool) := match es.findIdx? (fun p => x == p.1) with
  | some i => es.modify i fun p => (p.1, v)
  | none => es ++ [(x, v)]

def zeroIsFalse (P : Program) (e : TypeId) : Bool := match P.info? e with
  | some i => match i.zero with
    | some (.bool b) => !b
    | _ => false
  | none => false

/-- Where a text stands in a map. -/
def fidx (es : List (ByteArray × Inn)) (s : ByteArray) : Option Nat := es.findIdx? fun p => s == p.1

def zeroIsNil (P : Program) (e : TypeId) : Bool := match P.info? e with
  | some i => match i.zero with
    | some (.pointer none) => true
    | _ => false
  | none => false

/-- A place of a map from texts is read: a variable that the map owns gets a name, and the slice in it another one. -/
def lookInn (site id : Nat) (ans : List Ans) (nl : Bool) (es : List (ByteArray × Inn)) (hs : List Nat) (s : ByteArray) : T Eff := match ans with
  | .idx i :: .inn (.box n rows rest) :: _ => .ret ⟨.ptr site 0 0 0, [(id, some (.nest (.mp nl (es.set i (s, .hole (.ptr site 0 0 0)))) (site :: hs))), (site + 1, some (.arr n rows)), (site, some (.box (.own (site + 1) :: rest)))], [fidx es s = some i, es[i]? = some (s, .box n rows rest)], [site + 1, site]⟩
  | .idx i :: .inn (.hole v) :: _ => .ret ⟨v, [], [fidx es s = some i, es[i]? = some (s, .hole v)], []⟩
  | .row [] :: _ => .ret ⟨.val (.pointer none), [], [fidx es s = none], []⟩
  | _ => .fail

/-- A text's place goes. -/
def evDelete (P : Program) (ans : List Ans) (t : TypeId) (x i : V) : T Eff := match P.underlying t, x, i with
  | some (.map k _), .mref id, .val (.string s) => match P.underlying k with
    | some .string => .ask id fun o => match o with
      | .nest (.mp nl es) hs => match ans with
        | .idx i :: _ => .ret ⟨.undef, [(id, some (.nest (.mp nl (es.eraseIdx i)) hs))], [fidx es s = some i], []⟩
        | .row [] :: _ => .ret ⟨.undef, [], [fidx es s = none], []⟩
        | _ => .fail
      | _ => .fail
    | _ => .fail
  | _, _, _ => .fail

def evLookup (P : Program) (site : Nat) (ans : List Ans) (t : TypeId) (x i : V) (ok : Bool) : T Eff := match P.underlying t, x, i, ok with
  | some (.map k e), .mref id, .val (.string s), false => match P.underlying k with
    | some .string => bif zeroIsNil P e then .ask id fun o => match o with
      | .nest (.mp nl es) hs => lookInn site id ans nl es hs s
      | _ => .fail else .fail
    | _ => .fail
  | some (.map k e), .mref id, .val (.int kk n), false => .ask id fun o => match o, P.underlying k, P.underlying e with
    | .mp k1 es, some (.int k2), some .bool => bif decide (kk = k1) && (decide (kk = k2) && zeroIsFalse P e) then .ret (Eff.val (.val (.bool (mget es n)))) else .fail
    | _, _, _ => .fail
  | _, _, _, _ => .fail

def evMapUpdate (P : Program) (t : TypeId) (x i v : V) : T Eff := match P.underlying t, x, i, v with
  | some (.map k _), .mref id, .val (.string s), .ptr p n r f => match P.underlying k with
    | some .string => .ask id fun o => match o with
      | .nest (.mp nl es) hs => .ret ⟨.val Go.undef, [(id, some (.nest (.mp nl (es ++ [(s, .hole (.ptr p n r f))])) (p :: hs)))], [nl = false, fidx es s = none], []⟩
      | _ => .fail
    | _ => .fail
  | some (.map k e), .mref id, .val (.int kk n), .val (.bool b) => .ask id fun o => match o, P.underlying k, P.underlying e with
    | .mp k1 es, some (.int k2), some .bool => bif decide (kk = k1) && decide (kk = k2) then .ret ⟨.val Go.undef, [(id, some (.mp k1 (mset es n b)))], [], []⟩ else .fail
    | _, _, _ => .fail
  | _, _, _, _ => .fail

def isU8 (P : Program) (t : TypeId) : Bool := match elemOfSlice P t with
  | some (e, 1) => match P.underlying e with
    | some (.int .u8) => true
    | _ => false
  | _ => false
def isStr (P : Program) (t : TypeId) : Bool := match P.underlying t with
  | some .string => true
  | _ => false

/-- Bytes as a text: the answer names it. Bytes that are a constant; a text as bytes: read only. -/
def evConvert (P : Program) (rd : Operand → V) (o : Oper) (ans : List Ans) (src dst : TypeId) (x : V) : T Eff := match ans with
  | .str s :: _ => match elemOfSlice P src, P.underlying dst with
    | some (e, 1), some .string => match P.underlying e with
      | some (.int .u8) => (rowsAt 1 x).bind fun rows => .ret ⟨.val (.string s), [], [rows = strRows s], []⟩
      | _ => .fail
    | _, _ => .fail
  | _ => match x with
    | .own id => bif src == dst && isU8 P src then .ask id fun o => match o with
      | .arr n rows => bif n == 1 then .ret ⟨.sl 1 rows, [(id, none)], [rows ≠ []], []⟩ else .fail
      | _ => .fail else .fail
    | .val (.string s) => bif isStr P src && isU8 P dst then .ret (Eff.val (.sl 1 (strRows s))) else genOp P rd o
    | _ => genOp P rd o

/-! ## What is computed, in other words -/

def recastW : List (Nat × Option Obj) → List (List V) → Option (List (Nat × Option Obj) × List Prop)
  | [(i, some (.arr n r0))], r => some ([(i, some (.arr n r))], [r0 = r])
  | [(i, some (.blk n r0 c))], r => some ([(i, some (.blk n r c))], [r0 = r])
  | x :: y :: l, r => match recastW (y :: l) r with
    | some (l', ps) => some (x :: l', ps)
    | none => none
  | _, _ => none

/-- An object, as it is behind the writes. -/
def lastW : List (Nat × Option Obj) → Nat → Option (Option Obj)
  | [], _ => none
  | (i, o) :: l, id => match lastW l id with
    | some r => some r
    | none => bif id == i then some o else none

def lookW (ws : List (Nat × Option Obj)) (id : Nat) (k : Obj → T Eff) : T Eff := match lastW ws id with
  | some (some o) => k o
  | some none => .fail
  | none => .ask id k

def Inn.ro : Inn → Bool
  | .sl _ _ => true
  | .hole .nil => true
  | .hole (.val _) => true
  | .hole (.sl _ _) => true
  | _ => false

def Inn.row : Inn → List V
  | .sl n rows => [.sl n rows]
  | .hole v => [v]
  | .box _ _ _ => [.undef]

def recast1 (a : Ans) (e : Eff) : T Eff := match a with
  | .be v => match e.v, v with
    | .val (.int k x), .val (.int k' y) => bif decide (k = k') then .ret { e with v := v, obs := e.obs ++ [x = y] } else .fail
    | .val (.string x), .val (.string y) => .ret { e with v := v, obs := e.obs ++ [x = y] }
    | .sl n x, .sl n' y => bif n == n' then .ret { e with v := v, obs := e.obs ++ [x = y] } else .fail
    | .vw id n a b, .vw id' n' a' b' => bif id == id' && n == n' then .ret { e with v := v, obs := e.obs ++ [a = a', b = b'] } else .fail
    | _, _ => .fail
  | .beM es => match e.ws with
    | [(i, some (.mp k es0))] => .ret { e with ws := [(i, some (.mp k es))], obs := e.obs ++ [es0 = es] }
    | _ => .fail
  | .beO rows => match recastW e.ws rows with
    | some (ws, ps) => .ret { e with ws := ws, obs := e.obs ++ ps }
    | none => .fail
  | _ => .ret e

def recast : List Ans → Eff → T Eff
  | [], e => .ret e
  | a :: l, e => (recast1 a e).bind (recast l)

/-- What has a name goes back into its place; a nested object is read only from now on. -/
def ghost1 (a : Ans) (e : Eff) : T Eff := match a with
  | .shut id row s rows' => lookW e.ws id fun o => match o with
    | .nest (.arr rows) _ => lookW e.ws s fun o2 => match o2 with
      | .arr n rs => bif id == s then .fail else .ret { e with ws := e.ws ++ [(s, none), (id, some (.nest (.arr rows') []))], obs := e.obs ++ [rows[row]? = some (.hole (.own s)), rows.set row (.sl n rs) = rows', ∀ c ∈ rows', c.ids = []] }
      | _ => .fail
    | _ => .fail
  | .shutM id i key s es' => lookW e.ws id fun o => match o with
    | .nest (.mp nl es) _ => lookW e.ws s fun o2 => match o2 with
      | .box (.own a :: rest) => lookW e.ws a fun o3 => match o3 with
        | .arr n rs => bif id == s || (id == a || s == a) then .fail else .ret { e with ws := e.ws ++ [(s, none), (a, none), (id, some (.nest (.mp nl es') []))], obs := e.obs ++ [es[i]? = some (key, .hole (.ptr s 0 0 0)), es.set i (key, .box n rs rest) = es', ∀ p ∈ es', p.2.ids = []] }
        | _ => .fail
      | _ => .fail
    | _ => .fail
  | .forgM id i key es' hs' => lookW e.ws id fun o => match o with
    | .nest (.mp nl es) _ => .ret { e with ws := e.ws ++ [(id, some (.nest (.mp nl es') hs'))], obs := e.obs ++ [(es[i]?).map (·.1) = some key, es.set i (key, .hole .undef) = es', ∀ p ∈ es', ∀ j ∈ p.2.ids, j ∈ hs'] }
    | _ => .fail
  | .beN id es' => lookW e.ws id fun o => match o with
    | .nest (.mp nl es) hs => .ret { e with ws := e.ws ++ [(id, some (.nest (.mp nl es') hs))], obs := e.obs ++ [es = es'] }
    | _ => .fail
  | .froz => match e.v with
    | .vw id 1 0 b => lookW e.ws id fun o => match o with
      | .nest (.arr rows) _ => .ret { e with v := .sl 1 (rows.map Inn.row), ws := e.ws ++ [(id, none)], obs := e.obs ++ [b = rows.length, ∀ c ∈ rows, c.ro = true] }
      | _ => .fail
    | _ => .fail
  | _ => .ret e

def ghost : List Ans → Eff → T Eff
  | [], e => .ret e
  | a :: l, e => (ghost1 a e).bind (ghost l)

/-! ## Calls -/

/-- Where a name stands in a list. -/
def idx : List Nat → Nat → Option Nat
  | [], _ => none
  | a :: l, i => bif a == i then some 0 else (match idx l i with
    | some j => some (j + 1)
    | none => none)

mutual
def pass (ids : List Nat) (lend : Bool) : V → T V
  | .own id => match idx ids id with
    | some j => .ret (.own j)
    | none => bif lend then .ask id (fun o => match o with
      | .arr n rows => .ret (.sl n rows)
      | _ => .fail) else .fail
  | .ptr id n r o => match idx ids id with
    | some j => .ret (.ptr j n r o)
    | none => .fail
  | .vw id n a b => match idx ids id with
    | some j => .ret (.vw j n a b)
    | none => .fail
  | .mref id => match idx ids id with
    | some j => .ret (.mref j)
    | none => .fail
  | .agg cs => (passL ids lend cs).bind fun cs => .ret (.agg cs)
  | .clo fn f c => (passL ids lend f).bind fun f => (passL ids lend c).bind fun c => .ret (.clo fn f c)
  | .tup _ => .fail
  | .val x => .ret (.val x)
  | .nil => .ret .nil
  | .sl n rows => .ret (.sl n rows)
  | .iptr n rows r o => .ret (.iptr n rows r o)
  | .undef => .ret .undef
def passL (ids : List Nat) (lend : Bool) : List V → T (List V)
  | [] => .ret []
  | c :: cs => (pass ids lend c).bind fun c => (passL ids lend cs).bind fun cs => .ret (c :: cs)
end

def passObjs (all : List Nat) : List Nat → T (List Obj)
  | [] => .ret []
  | id :: ids => .ask id fun o => match o with
    | .box cells => (passL all false cells).bind fun cs => (passObjs all ids).bind fun os => .ret (.box cs :: os)
    | .arr n rows => (passObjs all ids).bind fun os => .ret (.arr n rows :: os)
    | .blk n rows c => (passObjs all ids).bind fun os => .ret (.blk n rows c :: os)
    | .mp k es => (passObjs all ids).bind fun os => .ret (.mp k es :: os)
    | .nest k [] => (passObjs all ids).bind fun os => .ret (.nest k [] :: os)
    | .nest _ (_ :: _) => .fail

mutual
def back (ids : List Nat) : V → Option V
  | .own j => match ids[j]? with
    | some id => some (.own id)
    | none => none
  | .ptr j n r o => match ids[j]? with
    | some id => some (.ptr id n r o)
    | none => none
  | .vw j n a b => match ids[j]? with
    | some id => some (.vw id n a b)
    | none => none
  | .mref j => match ids[j]? with
    | some id => some (.mref id)
    | none => none
  | .agg cs => match backL ids cs with
    | some cs => some (.agg cs)
    | none => none
  | .tup cs => match backL ids cs with
    | some cs => some (.tup cs)
    | none => none
  | .clo fn f c => match backL ids f, backL ids c with
    | some f, some c => some (.clo fn f c)
    | _, _ => none
  | .val x => some (.val x)
  | .nil => some .nil
  | .sl n rows => some (.sl n rows)
  | .iptr n rows r o => some (.iptr n rows r o)
  | .undef => some .undef
def backL (ids : List Nat) : List V → Option (List V)
  | [] => some []
  | c :: cs => match back ids c, backL ids cs with
    | some c, some cs => some (c :: cs)
    | _, _ => none
end

def backObj (ids : List Nat) : Option Obj → Option (Option Obj)
  | none => some none
  | some (.arr n rows) => some (some (.arr n rows))
  | some (.blk n rows c) => some (some (.blk n rows c))
  | some (.mp k es) => some (some (.mp k es))
  | some (.nest k []) => some (some (.nest k []))
  | some (.nest _ (_ :: _)) => none
  | some (.box cells) => match backL ids cells with
    | some cs => some (some (.box cs))
    | none => none

mutual
/-- Nothing in it reads memory that stays. -/
def V.flat : V → Bool
  | .sl _ _ => false
  | .iptr _ _ _ _ => false
  | .agg cs => flatL cs
  | .tup cs => flatL cs
  | .clo _ f c => flatL f && flatL c
  | .own _ => true
  | .ptr _ _ _ _ => true
  | .vw _ _ _ _ => true
  | .mref _ => true
  | .val _ => true
  | .nil => true
  | .undef => true
def flatL : List V → Bool
  | [] => true
  | c :: cs => c.flat && flatL cs
end

def FlatRows (rows : List (List V)) : Prop := ∀ r ∈ rows, flatL r = true

def Inn.flat : Inn → Prop
  | .hole v => v.flat = true
  | .sl _ rows => FlatRows rows
  | .box _ rows rest => FlatRows rows ∧ flatL rest = true

def innFlat (rows : List Inn) : Prop := ∀ c ∈ rows, c.flat

def flatObj : Option Obj → List Prop
  | none => []
  | some (.arr _ rows) => [FlatRows rows]
  | some (.blk _ rows _) => [FlatRows rows]
  | some (.mp _ _) => []
  | some (.nest (.arr rows) _) => [innFlat rows]
  | some (.nest (.mp _ es) _) => [innFlat (es.map (·.2))]
  | some (.box cells) => [flatL cells = true]

def idsObj : Obj → List Nat
  | .box cells => idsL cells
  | .arr _ _ => []
  | .blk _ _ _ => []
  | .mp _ _ => []
  | .nest _ hs => hs

/-- What stands at a place of a nested object, and whose blocks these are. -/
def Inn.at (w : World) (G : Nat → Prop) (τ : Nat → Gh) (bs : List Nat) : Inn → Value → Prop
  | .hole v, x => bs = [] ∧ v.rep w G τ x ∧ x.oneCell' = true
  | .sl n rows, x => ∃ g : Gh, x = g.hdr ∧ g.len = rows.length ∧ rowsOk w G g n rows ∧ bs = g.blk.toList
  | .box n rows rest, x => ∃ b g xs t fz ys, x = .pointer (some ⟨b, 0, none⟩) ∧ w.heap[b]? = some (.cells xs t fz) ∧ ¬ G b ∧ Free fz xs.size ∧ xs.toList = g.hdr :: ys ∧
      repL w G τ rest ys ∧ g.len = rows.length ∧ rowsOk w G g n rows ∧ bs = b :: g.blk.toList

def innL (w : World) (G : Nat → Prop) (τ : Nat → Gh) : List Nat → List Inn → List Value → Prop
  | bs, [], [] => bs = []
  | bs, c :: cs, x :: xs => ∃ b1 b2, bs = b1 ++ b2 ∧ c.at w G τ b1 x ∧ innL w G τ b2 cs xs
  | _, [], _ :: _ => False
  | _, _ :: _, [] => False

/-- The names in it are among some. -/
def innIds (hs : List Nat) (rows : List Inn) : Prop := ∀ c ∈ rows, ∀ i ∈ c.ids, i ∈ hs

/-- A nested object's places. -/
def Obj.inner (w : World) (G : Nat → Prop) (τ : Nat → Gh) (id : Nat) (bs : List Nat) : Obj → Prop
  | .nest (.arr rows) hs => innIds hs rows ∧ ((rows = [] ∧ bs = []) ∨ ∃ b xs t fz, (τ id).blk = some b ∧ w.heap[b]? = some (.cells xs t fz) ∧ innL w G τ bs rows (xs.toList.take rows.length))
  | .nest (.mp nl es) hs => innIds hs (es.map (·.2)) ∧ ((nl = true ∧ es = [] ∧ bs = []) ∨ (nl = false ∧ ∃ b m clock, (τ id).blk = some b ∧ w.heap[b]? = some (.map m clock) ∧ m.toList.map (·.key) = es.map (fun p => Value.string p.1) ∧ innL w G τ bs (es.map (·.2)) (m.toList.map (·.val))))
  | _ => bs = []

/-- Behind a call: blocks that are not named are as they were; what is read stays. -/
structure Ext (base : Nat) (X G : Nat → Prop) (w : World) (G' : Nat → Prop) (w' : World) : Prop where
  os : w'.os = w.os
  tape : w'.tape = w.tape
  output : w'.output = w.output
  size : w.heap.size ≤ w'.heap.size
  block : ∀ b, b < base → ¬ X b → w'.heap[b]? = w.heap[b]?
  keep : ∀ b, G b → G' b ∧ w'.heap[b]? = w.heap[b]?
  grow : ∀ b, G' b → G b ∨ X b ∨ base ≤ b

/-- The further blocks of nested objects: all are there, none twice, none of them in what is read only. -/
structure SubAt (base : Nat) (X G : Nat → Prop) (τ : Nat → Gh) (st : Nat → Option Obj) (w : World) (σ : Nat → List Nat) : Prop where
  inner : ∀ id o, st id = some o → o.plain = false → o.inner w G τ id (σ id) ∧ (σ id).Nodup
  own : ∀ id o b, st id = some o → o.plain = false → b ∈ σ id → (base ≤ b ∨ X b) ∧ ¬ G b ∧ b < w.heap.size
  apart : ∀ id o b, st id = some o → o.plain = false → b ∈ σ id → ∀ j p, st j = some p → (τ j).blk ≠ some b
  inj : ∀ i j o p b, st i = some o → st j = some p → o.plain = false → p.plain = false → b ∈ σ i → b ∈ σ j → i = j

/-- Objects one by one: all are there, none twice, none of them in what is read only. -/
structure Mem (base : Nat) (X G : Nat → Prop) (τ : Nat → Gh) (st : Nat → Option Obj) (w : World) : Prop where
  gold : ∀ b, G b → b < w.heap.size
  ok : ∀ id o, st id = some o → o.ok w G τ id
  own : ∀ id o b, st id = some o → (τ id).blk = some b → base ≤ b ∨ X b
  inj : ∀ i j o o' b, st i = some o → st j = some o' → (τ i).blk = some b → (τ j).blk = some b → i = j
  sub : ∃ σ, SubAt base X G τ st w σ

def objsAt (objs : List Obj) (i : Nat) : Option Obj := objs[i]?
def objsAt' (objs : List (Option Obj)) (i : Nat) : Option Obj := match objs[i]? with
  | some o => o
  | none => none

/-- THE CONTRACT: called with such arguments, and such objects behind the pointers among them, function f gives such a result, and the objects are such then (further ones are new). -/
structure Contract (P : Program) (f : FuncId) (args : List V) (objs : List Obj) (r : V) (objs' : List (Option Obj)) : Prop where
  goes : ∃ fn, P.funcs[f]? = some fn ∧ fn.name ≠ "runtime.NumGoroutine" ∧ fn.body.isSome = true
  calls : ∀ (w : World) (G X : Nat → Prop) (τ : Nat → Gh) (vals : Array Value),
    Mem w.heap.size X G τ (objsAt objs) w → (∀ b, X b → b < w.heap.size) → repL w G τ args vals.toList →
    Calls P f vals w fun e w' => ∃ v G' τ', e = .returned v ∧ Ext w.heap.size X G w G' w' ∧ (∀ i, i < objs.length → τ' i = τ i) ∧
      r.rep w' G' τ' v ∧ Mem w.heap.size X G' τ' (objsAt' objs') w'

/-- A function without a body, for which the model stands in: called with such arguments it gives such a result. -/
structure ExtC (P : Program) (g : FuncId) (args : List V) (objs : List Obj) (r : V) (objs' : List (Option Obj)) : Prop where
  calls : ∀ (w : World) (G X : Nat → Prop) (τ : Nat → Gh) (vals : Array Value),
    Mem w.heap.size X G τ (objsAt objs) w → (∀ b, X b → b < w.heap.size) → repL w G τ args vals.toList →
    ∃ v w' G' τ', (callFunc g vals).run P w = .ok (.value v) w' ∧ Ext w.heap.size X G w G' w' ∧ (∀ i, i < objs.length → τ' i = τ i) ∧
      r.rep w' G' τ' v ∧ Mem w.heap.size X G' τ' (objsAt' objs') w'

end Go.Proofs.YtinfjnnffmlpmaaGreatDoor.E

/- The engine, part C: a run over operations, regions, code, a function. -/
namespace Go.Proofs.YtinfjnnffmlpmaaGreatDoor.E
open Go

/-- A frame, at the level of terms: its slots, its objects, the names that are in use. -/
structure S where
  n : Nat
  env : Nat → V
  st : Nat → Option Obj
  ids : List Nat

def mkEnv : List (Nat × V) → Nat → V
  | [], _ => .undef
  | (k, v) :: l, t => bif t == k then v else mkEnv l t

def mkSt : List (Nat × Obj) → Nat → Option Obj
  | [], _ => none
  | (k, o) :: l, i => bif i == k then some o else mkSt l i

def rdO (env : Nat → V) : Operand → V
  | .tmp t => env t
  | .const v => ofVal v
  | .global _ => .undef
  | .func f => .clo (.func f) [] []

def putEnv (env : Nat → V) (dst : Option Nat) (v : V) : Nat → V := match dst with
  | none => env
  | some d => fun t => bif t == d then v else env t

def putSt (st : Nat → Option Obj) : List (Nat × Option Obj) → Nat → Option Obj
  | [] => st
  | (i, o) :: l => putSt (fun j => bif j == i then o else st j) l

def newIds (site : Nat) : Nat → List Nat
  | 0 => []
  | k + 1 => newIds site k ++ [site + 1 + k]

def zipWs : List Nat → List (Option Obj) → List (Nat × Option Obj)
  | i :: is, o :: os => (i, o) :: zipWs is os
  | _, _ => []

def backObjs (ids : List Nat) : List (Option Obj) → Option (List (Option Obj))
  | [] => some []
  | o :: os => match backObj ids o, backObjs ids os with
    | some o, some os => some (o :: os)
    | _, _ => none

def flatObjs : List (Option Obj) → List Prop
  | [] => []
  | o :: os => flatObj o ++ flatObjs os

def disjoint (a b : List Nat) : Bool := a.all fun i => !b.contains i
def subset (a b : List Nat) : Bool := a.all fun i => b.contains i
def nodupB : List Nat → Bool
  | [] => true
  | a :: l => !l.contains a && nodupB l

def evCallX (P : Program) (site : Nat) (x : Bool) (ps give : List Nat) (r : V) (objs' : List (Option Obj)) (g : FuncId) (full : List V) : T Eff :=
    let lent := (idsL full).filter fun i => !ps.contains i
    (passL ps true full).bind fun as => (passObjs ps ps).bind fun objs =>
      let new := newIds site (objs'.length - ps.length)
      let ids := ps ++ new
      match back ids r, backObjs ids objs' with
      | some r', some os => bif nodupB ps && disjoint give ps && Nat.ble ps.length objs'.length && subset give lent then
          .ret ⟨r', zipWs ids os ++ kills give,
            (match x with | true => ExtC P g as objs r objs' | false => Contract P g as objs r objs') :: (bif subset lent give then [] else (r.flat = true) :: flatObjs objs'), new⟩
        else .fail
      | _, _ => .fail

def evCall0 (P : Program) (site : Nat) (ans : List Ans) (f : V) (args : List V) : T Eff := match f, ans with
  | .clo (.func g) first caps, .call ps give r objs' :: _ => evCallX P site false ps give r objs' g (first ++ (args ++ caps))
  | .clo (.func g) first caps, .ext ps give r objs' :: _ => evCallX P site true ps give r objs' g (first ++ (args ++ caps))
  | _, _ => .fail

def evCall (P : Program) (site : Nat) (ans : List Ans) (f : V) (args : List V) : T Eff := match f, ans with
  | .clo (.func _) first caps, .app F :: _ => (passL [] true (first ++ (args ++ caps))).bind fun as => match F as with
    | some r => evCall0 P site [.call [] [] r []] f args
    | none => .fail
  | _, _ => evCall0 P site ans f args

def fixAll (P : Program) : List TypeId → List V → List V
  | t :: ts, v :: vs => fixV P t v :: fixAll P ts vs
  | _, vs => vs

def nilCmp : V → V → Option Bool
  | .ptr _ _ _ _, .val (.pointer none) => some false
  | .iptr _ _ _ _, .val (.pointer none) => some false
  | .val (.pointer none), .ptr _ _ _ _ => some false
  | .val (.pointer none), .iptr _ _ _ _ => some false
  | _, _ => none

/-- Shifted to the left. -/
def shlI (k : IntKind) (a b : Int) : Int := k.wrap (a * 2 ^ (min b.toNat k.bits))

/-- Whether a slice with rows is nil: no. -/
def sliceNil (P : Program) (fl : Bool) (op : BinOp) (t : TypeId) (x y : V) : Option (T Eff) := match x, y with
  | .val (.int k a), .val (.int k' b) => bif fl then (match op with
    | .shl => some (.ret ⟨.val (.int k (shlI k a b)), [], [0 ≤ b], []⟩)
    | .quo => bif decide (k = k') then some (.ret ⟨.val (.int k (k.wrap (a.tdiv b))), [], [b ≠ 0], []⟩) else none
    | .rem => bif decide (k = k') then some (.ret ⟨.val (.int k (a.tmod b)), [], [b ≠ 0], []⟩) else none
    | _ => none) else none
  | .val (.string a), .val (.string b) => bif fl then (match op with
    | .add => some (.ret ⟨.val (.string (a ++ b)), [], [a.size + b.size ≤ 9223372036854775807], []⟩)
    | _ => none) else none
  | .sl _ rows, .nil => match op, P.underlying t with
    | .eql, some (.slice _) => some (.ret ⟨.val (.bool false), [], [rows ≠ []], []⟩)
    | .neq, some (.slice _) => some (.ret ⟨.val (.bool true), [], [rows ≠ []], []⟩)
    | _, _ => none
  | .own id, .nil => match op, P.underlying t with
    | .eql, some (.slice _) => some (.ask id fun o => match o with
      | .arr _ rows => .ret ⟨.val (.bool false), [], [rows ≠ []], []⟩
      | _ => .fail)
    | .neq, some (.slice _) => some (.ask id fun o => match o with
      | .arr _ rows => .ret ⟨.val (.bool true), [], [rows ≠ []], []⟩
      | _ => .fail)
    | _, _ => none
  | _, _ => none

def eqFields (g : Field → Option Bool) : List Field → Option Bool
  | [] => some true
  | f :: fs => bif f.name == "_" then eqFields g fs else (match g f, eqFields g fs with
    | some b, some r => some (b && r)
    | _, _ => none)

def eqElems (g : Nat → Option Bool) : Nat → Nat → Option Bool
  | _, 0 => some true
  | i, n + 1 => match g i, eqElems g (i + 1) n with
    | some b, some r => some (b && r)
    | _, _ => none

/-- Whether two are equal, part by part. -/
def eqV (P : Program) : Nat → TypeId → V → V → Option Bool
  | 0, _, _, _ => none
  | d + 1, t, u, v => match P.underlying t with
    | some .bool => match u, v with
      | .val (.bool a), .val (.bool b) => some (a == b)
      | _, _ => none
    | some (.int _) => match u, v with
      | .val (.int k a), .val (.int k' b) => bif decide (k = k') then some (decide (a = b)) else none
      | _, _ => none
    | some .string => match u, v with
      | .val (.string a), .val (.string b) => some (a == b)
      | _, _ => none
    | some (.struct fs) => match u, v with
      | .agg cs, .agg ds => bif P.stoodInHeld t then none else eqFields (fun f => match takeCells P f.type cs f.offset, takeCells P f.type ds f.offset with
        | some a, some b => eqV P d f.type a b
        | _, _ => none) fs.toList
      | _, _ => none
    | some (.array n e) => match u, v, szOf P e with
      | .agg cs, .agg ds, some m => eqElems (fun i => match takeCells P e cs (i * m), takeCells P e ds (i * m) with
        | some a, some b => eqV P d e a b
        | _, _ => none) 0 n
      | _, _, _ => none
    | _ => none

/-- Comparing structs and arrays. -/
def aggCmp (P : Program) (op : BinOp) (t : TypeId) (u v : V) : Option (Option Bool) := match u, v with
  | .agg cs, .agg ds => bif P.eqGuardType P.depth t then some none else (match op, eqV P 10000 t (.agg cs) (.agg ds) with
    | .eql, some b => some (some b)
    | .neq, some b => some (some (!b))
    | _, _ => some none)
  | _, _ => none

/-- Function g tells whether two slices meet. -/
def IsOverlaps (P : Program) (g : FuncId) (n : Nat) : Prop := ∃ fn t r e, P.funcs[g]? = some fn ∧ (fn.name == "runtime.NumGoroutine") = false ∧ fn.body.isNone = true ∧ Extern.findNext fn = none ∧
  Extern.find fn = some (Extern.SlicesOverlaps.overlaps #[t, t] #[r]) ∧ P.underlying t = some (.slice e) ∧ szOf P e = some n ∧ 1 ≤ n

/-- Function g reads an integer's cell, writes it, and turns nothing else. -/
structure CellC (P : Program) (g : FuncId) (k : IntKind) (x y : Int) (vs : List Value) (r : Value) : Prop where
  goes : ∃ fn, P.funcs[g]? = some fn ∧ fn.name ≠ "runtime.NumGoroutine" ∧ fn.body.isSome = true
  runs : ∀ (w : World) (a : Addr), w.cell? a = some (.int k x) → w.frozen? a = false → Calls P g (Value.pointer (some a) :: vs).toArray w fun e w' => e = .returned r ∧ w' = w.setCell a (.int k y)

/-- Such a call. -/
def evCell (P : Program) (k : IntKind) (y : Int) (r : Value) (f : Operand) (args : List V) : Option (T Eff) := match f, args with
  | .func g, .ptr id _ row off :: more => match allSome cellVal more with
    | some vs => some (.ask id fun o => match o with
      | .box cells => match cells[off]? with
        | some (.val (.int k' x)) => bif row == 0 && decide (k' = k) then .ret ⟨.val r, [(id, some (.box (cells.set off (.val (.int k y)))))], [CellC P g k x y vs r], []⟩ else .fail
        | _ => .fail
      | _ => .fail)
    | none => none
  | _, _ => none

/-- Whether a slice that is owned meets a part of another one: it does not. -/
def evOverlaps (P : Program) (ans : List Ans) (f : Operand) (args : List V) : Option (T Eff) := match ans with
  | .cellc k y r :: _ => evCell P k y r f args
  | _ => match f, args with
  | .func g, [.own i, .vw j n a b] => bif flagged ans && i != j then some (.ask i fun o => match o with
    | .arr m rows => .ask j fun o2 => match o2.parts with
      | some (k, _, _) => bif m == n && k == n then .ret ⟨.val (.bool false), [], [IsOverlaps P g n, 0 < rows.length, a < b], []⟩ else .fail
      | none => .fail
    | _ => .fail) else none
  | _, _ => none

def evSliceOp (P : Program) (site : Nat) (ans : List Ans) (t : TypeId) (x : V) (lo hi mx : Option V) : T Eff := match x with
  | .vw id n a b => evPart P t id n a b lo hi mx
  | .own id => bif flagged ans then (match ans with
    | .idx 2 :: _ => evCut3 P site t id lo hi mx
    | _ => evPartOwn P t id lo hi mx) else (match mx with
    | none => evSlice P t (.own id) lo hi
    | some _ => .fail)
  | v => match mx with
    | none => evSlice P t v lo hi
    | some _ => .fail

/-- What is handed in: as it is, when the answers begin with a flag. -/
def fixQ (P : Program) (ans : List Ans) (ts : List TypeId) (vs : List V) : List V := bif flagged ans then vs else fixAll P ts vs
def cutQ (ans : List Ans) : List Ans := bif flagged ans then ans.tail else ans

def evAppendOp (P : Program) (site : Nat) (t u : TypeId) (b x : V) : T Eff := match b with
  | .vw id n p q => bif isIntT P u then (match x with
    | .val (.int .i64 k) => evGrow P site t id n p q k
    | _ => .fail) else evAppendIn P t u id n p q x
  | v => match x with
    | .vw id2 n2 a2 b2 => evAppendVw P site t u v id2 n2 a2 b2
    | x => evAppend P site t u v x

def evalOp (P : Program) (rd : Operand → V) (site : Nat) (ans : List Ans) (o : Oper) : T Eff := match o.op with
  | .move x => evMove site ans (rd x)
  | .assign x => evMove site ans (rd x)
  | .alloc t => evAlloc P site t
  | .box _ x => evBoxA site ans (rd x)
  | .build t ps => evBuild P rd t ps
  | .buildSlice t n ps => evBuildSlice P rd site t n ps
  | .load t a => evLoad P site ans t (rd a)
  | .store t a x => evStore P ans t (rd a) (nilFix ans (rd x))
  | .nilCheck x => match rd x with
    | .ptr i n r k => .ret (Eff.val (.ptr i n r k))
    | .iptr n rows r k => .ret (Eff.val (.iptr n rows r k))
    | _ => .fail
  | .binOp op t x y _ => match sliceNil P (flagged ans) op t (rd x) (rd y) with
    | some t => t
    | none => match nilCmp (rd x) (rd y) with
      | some b => match op, P.underlying t with
        | .eql, some (.pointer _) => .ret (Eff.val (.val (.bool b)))
        | .neq, some (.pointer _) => .ret (Eff.val (.val (.bool (!b))))
        | _, _ => .fail
      | none => match aggCmp P op t (rd x) (rd y) with
        | some (some b) => .ret (Eff.val (.val (.bool b)))
        | some none => .fail
        | none => genOp P rd o
  | .unOp _ _ _ => genOp P rd o
  | .convert s d x => evConvert P rd o ans s d (rd x)
  | .pick _ _ _ => genOp P rd o
  | .extract x i => match rd x with
    | .tup vs => match vs[i]? with
      | some v => .ret (Eff.val v)
      | none => .fail
    | _ => .fail
  | .field t x f => evField P t (rd x) f
  | .index t x i => evIndex P ans t (rd x) (rd i)
  | .fieldAddr t x f => evFieldAddr P t (rd x) f
  | .indexAddr t x i => evIndexAddr P ans t (rd x) (rd i)
  | .slice t x lo hi mx => evSliceOp P site ans t (rd x) (lo.map rd) (hi.map rd) (mx.map rd)
  | .makeSlice t l c => match ans with
    | .idx 0 :: .idx k :: _ => evMakeNestS P site k t (rd l) (rd c)
    | .idx 0 :: _ => evMakeNest P site t (rd l) (rd c)
    | .idx _ :: _ => evMakeVw P site t (rd l) (rd c)
    | _ => evMakeSlice P site t (rd l) (rd c)
  | .makeMap t r => evMakeMap P site t (r.map rd)
  | .lookup t x i ok => evLookup P site ans t (rd x) (rd i) ok
  | .mapUpdate t x i v => evMapUpdate P t (rd x) (rd i) (rd v)
  | .insert t x i v => evMapUpdate P t (rd x) (rd i) (rd v)
  | .makeFunc fn first caps => .ret (Eff.val (.clo fn (first.toList.map rd) (caps.toList.map rd)))
  | .call c => match c.callee with
    | .value f => match evOverlaps P ans f (c.args.toList.map rd) with
      | some t => t
      | none => evCall P site (cutQ ans) (rd f) (fixQ P ans c.argTypes.toList (c.args.toList.map rd))
    | .builtin .len => match c.args.toList, c.argTypes.toList with
      | [x], [t] => match P.underlying t with
        | some (.slice _) => evLen P rd o (rd x)
        | _ => genOp P rd o
      | _, _ => .fail
    | .builtin .append => match c.args.toList, c.argTypes.toList with
      | [b, x], [t, u] => evAppendOp P site t u (rd b) (rd x)
      | _, _ => .fail
    | .builtin .cap => match c.args.toList, c.argTypes.toList with
      | [x], [t] => match P.underlying t with
        | some (.slice _) => evCap (rd x)
        | _ => .fail
      | _, _ => .fail
    | .builtin .copy => match c.args.toList, c.argTypes.toList with
      | [d, x], [t, _] => evCopy P t (rd d) (rd x)
      | _, _ => .fail
    | .builtin .clear => match c.args.toList, c.argTypes.toList with
      | [x], [t] => evClear P t (rd x)
      | _, _ => .fail
    | .builtin .delete => match c.args.toList, c.argTypes.toList with
      | [x, i], [t, _] => evDelete P ans t (rd x) (rd i)
      | _, _ => .fail
    | .builtin .min => genOp P rd o
    | .builtin .max => genOp P rd o
    | _ => .fail
  | _ => .fail

/-- A bool that a way hangs on is the one that the script names. -/
def decided (br : Option Bool) (e : Eff) : T Eff := match br with
  | none => .ret e
  | some t => match e.v with
    | .val (.bool b) => .ret { e with v := .val (.bool t), obs := e.obs ++ [b = t] }
    | _ => .fail

def Script := List (Nat × List Ans × Option Bool)

def ansOf (i : Nat) : List (Nat × List Ans × Option Bool) → List Ans × Option Bool
  | [] => ([], none)
  | (j, a, b) :: l => bif i == j then (a, b) else ansOf i l

def guardOf (ops : Array Oper) (env : Nat → V) (o : Oper) : Option Bool := match o.guard with
  | none => some true
  | some (j, want) => match ops[j]? with
    | none => none
    | some oj => match oj.dst with
      | none => none
      | some d => match env d with
        | .val (.bool b) => some (b == want)
        | .val (.tuple _) => some false
        | _ => none

def looksOf (ops : Array Oper) (o : Oper) : List Nat :=
  (o.op.operands.toList.filterMap fun x => match x with
    | .tmp t => some t
    | _ => none) ++
  (match o.guard with
   | some (g, _) => match ops[g]? with
     | some og => match og.dst with
       | some d => [d]
       | none => []
     | none => []
   | none => [])

/-- What an operation did, and what it looked at. -/
structure Log where
  ran : Bool
  v : V
  ws : List (Nat × Option Obj)
  new : List Nat
  rs : List Nat
  obs : List Prop

def Log.touch (l : Log) : List Nat := l.ws.map (·.1)
def Log.vids (l : Log) : List Nat := l.v.ids ++ (l.touch ++ (l.ws.flatMap fun w => match w.2 with
  | some o => idsObj o
  | none => []))

def site (rid i : Nat) : Nat := (rid * 200 + i + 1) * 1000

/-- Which cells are said to hold something all the while. -/
def claims1 : List Ans → List (Nat × Nat × V)
  | [] => []
  | .cst i o c :: l => (i, o, c) :: claims1 l
  | _ :: l => claims1 l
def claims : List (Nat × List Ans × Option Bool) → List (Nat × Nat × V)
  | [] => []
  | x :: l => claims1 x.2.1 ++ claims l
def cellIs (o : Option Obj) (off : Nat) (c : V) : Prop := match o with
  | some (.box cells) => cells[off]? = some c
  | _ => False
def initObs (cl : List (Nat × Nat × V)) (st : Nat → Option Obj) : List Prop := cl.map fun c => cellIs (st c.1) c.2.1 c.2.2
def keepObs (cl : List (Nat × Nat × V)) : List (Nat × Option Obj) → List Prop
  | [] => []
  | w :: ws => (cl.filter fun c => c.1 == w.1).map (fun c => cellIs w.2 c.2.1 c.2.2) ++ keepObs cl ws

/-- One operation, as it stands. -/
def logOp (P : Program) (rid : Nat) (ops : Array Oper) (sc : List (Nat × List Ans × Option Bool)) (i : Nat) (o : Oper) (env : Nat → V) (st : Nat → Option Obj) : Option Log :=
  match guardOf ops env o with
  | none => none
  | some false => some ⟨false, .val Go.undef, [], [], [], []⟩
  | some true => match ((evalOp P (rdO env) (site rid i) (ansOf i sc).1 o).bind fun e => (recast (ansOf i sc).1 e).bind fun e => (ghost (ansOf i sc).1 e).bind (decided (ansOf i sc).2)).run st with
    | none => none
    | some (e, rs) => some ⟨true, e.v, e.ws, e.new, rs, e.obs ++ keepObs (claims sc) e.ws⟩

def dstOk (n : Nat) (dst : Option Nat) : Bool := match dst with
  | none => true
  | some d => Nat.blt d n

def runOps (P : Program) (rid : Nat) (ops : Array Oper) (sc : List (Nat × List Ans × Option Bool)) : List Nat → S → Option (S × List Log)
  | [], σ => some (σ, [])
  | i :: is, σ => match ops[i]? with
    | none => none
    | some o => match logOp P rid ops sc i o σ.env σ.st with
      | none => none
      | some l => bif dstOk σ.n o.dst && nodupB l.new && disjoint l.new σ.ids && subset l.vids (l.new ++ σ.ids) then
          (match runOps P rid ops sc is ⟨σ.n, putEnv σ.env o.dst l.v, putSt σ.st l.ws, l.new ++ σ.ids⟩ with
          | none => none
          | some (σ', ls) => some (σ', l :: ls))
        else none

/-- Which operations are surely ahead of one: bit by bit. -/
def aheadOf (ops : Array Oper) : List Nat := ops.toList.foldl (fun acc o =>
  acc ++ [o.after.toList.foldl (fun s e => bif Region.binds .any e then s ||| 2 ^ e.on ||| acc.getD e.on 0 else s) 0]) []

def clash (ops : Array Oper) (oi oj : Oper) (li lj : Log) : Bool :=
  (match oi.dst with
   | some d => (looksOf ops oj).contains d || (match oj.dst with
     | some d' => d == d'
     | none => false)
   | none => false) ||
  (match oj.dst with
   | some d => (looksOf ops oi).contains d
   | none => false) ||
  !disjoint li.touch (lj.rs ++ lj.touch) || !disjoint lj.touch li.rs

/-- No two operations that may change places meet. -/
def calmAt (ops : Array Oper) (ah : List Nat) (os : List (Nat × Oper × Log)) : Bool :=
  os.all fun x => os.all fun y =>
    (bif Nat.blt x.1 y.1 && !(ah.getD y.1 0).testBit x.1 then !clash ops x.2.1 y.2.1 x.2.2 y.2.2 else true) &&
    (bif x.1 != y.1 && !(ah.getD y.1 0).testBit x.1 then disjoint x.2.2.new y.2.2.vids else true)

/-- Whatever an operation waits for stands ahead of it. -/
def edgesBack (ops : Array Oper) : Bool := (ops.toList.zipIdx).all fun x => x.1.after.toList.all fun e => !Region.binds .any e || Nat.blt e.on x.2

def obsAll : List Log → List Prop
  | [] => []
  | l :: ls => l.obs ++ obsAll ls

def touchedAll : List Log → List Nat
  | [] => []
  | l :: ls => l.touch ++ touchedAll ls

def S.more (σ : S) (l : List Nat) : S := ⟨σ.n, σ.env, σ.st, l ++ σ.ids⟩

def runRegion (P : Program) (rid : Nat) (ops : Array Oper) (draw : Bool) (sc : List (Nat × List Ans × Option Bool)) (σ : S) : Option (S × List Prop) :=
  match runOps P rid ops sc (List.range ops.size) σ with
  | none => none
  | some (σ', ls) => bif draw then (bif edgesBack ops && calmAt ops (aheadOf ops) ((List.range ops.size).zip (ops.toList.zip ls)) then some (σ'.more (touchedAll ls), initObs (claims sc) σ.st ++ obsAll ls) else none) else some (σ'.more (touchedAll ls), initObs (claims sc) σ.st ++ obsAll ls)

inductive Ex where
  | normal
  | exit (id : Nat)
  | ret

inductive Fr where
  | slot (t id n : Nat)
  | cell (box off id n : Nat)

/-- A frame written out. -/
structure SL where
  env : List (Nat × V)
  st : List (Nat × Obj)
  ids : List Nat

def SL.toS (s : SL) (n : Nat) : S := ⟨n, mkEnv s.env, mkSt s.st, s.ids⟩

/-- What of a frame is kept: which slots, which objects under which names, and where a nil slice becomes one that is owned. -/
structure Norm where
  live : List Nat
  ren : List (Nat × Nat)
  fresh : List Fr

mutual
/-- One of two, as a Bool says. -/
def mergeV (B : Bool) : V → V → V
  | .val (.int k m), .val (.int k' m') => bif decide (k = k') then .val (.int k (bif B then m else m')) else .undef
  | .val (.bool a), .val (.bool a') => .val (.bool (bif B then a else a'))
  | .val (.string a), .val (.string a') => .val (.string (bif B then a else a'))
  | .val (.pointer none), .val (.pointer none) => .val (.pointer none)
  | .agg cs, .agg cs' => match mergeL B cs cs' with
    | some l => .agg l
    | none => .undef
  | .nil, .nil => .nil
  | .sl n rows, .sl n' rows' => bif n == n' then .sl n (bif B then rows else rows') else .undef
  | .nil, .sl n rows => .sl n (bif B then [] else rows)
  | .sl n rows, .nil => .sl n (bif B then rows else [])
  | .own i, .own j => bif i == j then .own i else .undef
  | .ptr i n r o, .ptr i' n' r' o' => bif i == i' && (n == n' && o == o') then .ptr i n (bif B then r else r') o else .undef
  | .clo (.func g) f c, .clo (.func g') f' c' => bif g == g' then (match mergeL B f f', mergeL B c c' with
    | some f, some c => .clo (.func g) f c
    | _, _ => .undef) else .undef
  | _, _ => .undef
def mergeL (B : Bool) : List V → List V → Option (List V)
  | [], [] => some []
  | c :: cs, d :: ds => match mergeL B cs ds with
    | some l => some (mergeV B c d :: l)
    | none => none
  | _, _ => none
end

def mergeO (B : Bool) : Option Obj → Option Obj → Option Obj
  | some (.box cs), some (.box ds) => match mergeL B cs ds with
    | some l => some (.box l)
    | none => none
  | some (.arr n rows), some (.arr n' rows') => bif n == n' then some (.arr n (bif B then rows else rows')) else none
  | _, _ => none

def freshIds (σ σ1 : S) : List Nat := σ1.ids.take (σ1.ids.length - σ.ids.length)

/-- Two frames that began as one. -/
def mergeS (B : Bool) (σ : S) (D : List Nat) (σ1 σ2 : S) : S :=
  let pre := freshIds σ σ1 ++ freshIds σ σ2
  ⟨σ.n, fun t => bif D.contains t then mergeV B (σ1.env t) (σ2.env t) else σ.env t, fun i => bif pre.contains i then mergeO B (σ1.st i) (σ2.st i) else σ.st i, pre ++ σ.ids⟩

def allP : List Prop → Prop
  | [] => True
  | [p] => p
  | p :: l => p ∧ allP l

def orP (B : Bool) (ps qs : List Prop) : List Prop := (match ps with
  | [] => []
  | ps => [B = true → allP ps]) ++ (match qs with
  | [] => []
  | qs => [B = false → allP qs])

inductive Fk where
  | leaf (as : List (Nat × List Ans × Option Bool))
  | node (B : Bool) (l r : Fk)

def dstsOps (ops : Array Oper) : List Nat := ops.toList.filterMap (·.dst)

def runFk (P : Program) (rid : Nat) (ops : Array Oper) (draw : Bool) (au : List (Nat × List Ans × Option Bool)) : Fk → S → Option (S × List Prop)
  | .leaf as, σ => runRegion P rid ops draw (as ++ au) σ
  | .node B l r, σ => match runFk P rid ops draw au l σ, runFk P rid ops draw au r σ with
    | some (σ1, ps), some (σ2, qs) => some (mergeS B σ (dstsOps ops) σ1 σ2, orP B ps qs)
    | _, _ => none

def dstsC : Code → List Nat
  | .region _ ops _ => dstsOps ops
  | .seq a b => dstsC a ++ dstsC b
  | .cond _ a b => dstsC a ++ dstsC b
  | .block _ a => dstsC a
  | .loop a => dstsC a
  | .scope a => dstsC a
  | _ => []

/-- Scripts: what a region's operations are answered; a loop that is passed by what is known of it; a loop that is gone through. -/
inductive It where
  | reg (id : Nat) (as : List (Nat × List Ans × Option Bool))
  | cut (nm : Norm) (e : Ex) (s : SL)
  | unroll (k : Nat)
  | whole (nm : Norm) (e : Ex) (s : SL)
  | tail (id : Nat) (nm : Norm) (e : Ex) (s : SL)
  | regs (id : Nat) (fk : Fk)
  | fork (t : Nat) (sc1 sc2 : List It)
  | both (id : Nat) (B : Bool) (sc1 sc2 : List It)
  | tab (T : List (Nat × (List V → Option V)))

def It.plain : It → Bool
  | .cut _ _ _ => false
  | .whole _ _ _ => false
  | .tail _ _ _ _ => false
  | _ => true

/-- At a script's end: what functions are known to give. -/
def tabOf : List It → List (Nat × (List V → Option V))
  | [] => []
  | [.tab T] => T
  | _ :: l => tabOf l

def tabTail (sc : List It) : List It := [.tab (tabOf sc)]

def doneSc : List It → Bool
  | [] => true
  | [.tab _] => true
  | _ => false

def tabGet (g : Nat) : List (Nat × (List V → Option V)) → Option (List V → Option V)
  | [] => none
  | (f, F) :: l => bif f == g then some F else tabGet g l

def autoAns (T : List (Nat × (List V → Option V))) : Nat → List Oper → List (Nat × List Ans × Option Bool)
  | _, [] => []
  | i, o :: l => match o.op with
    | .call c => match c.callee with
      | .value (.func g) => match tabGet g T with
        | some F => (i, [.app F], none) :: autoAns T (i + 1) l
        | none => autoAns T (i + 1) l
      | _ => autoAns T (i + 1) l
    | _ => autoAns T (i + 1) l

/-- The frame's relation. -/
structure St (base : Nat) (X G : Nat → Prop) (τ : Nat → Gh) (σ : S) (a : Act) (w : World) : Prop where
  mem : Mem base X G τ σ.st w
  base : base ≤ w.heap.size
  size : a.tmps.size = σ.n
  env : ∀ t, (σ.env t).rep w G τ (a.tmps.getD t Go.undef)
  ids : ∀ t, ∀ i ∈ (σ.env t).ids, i ∈ σ.ids
  objs : ∀ i o, σ.st i = some o → i ∈ σ.ids ∧ ∀ j ∈ idsObj o, j ∈ σ.ids
  defers : a.defers = []

def Ex.at (e : Ex) : Exit := match e with
  | .normal => .normal
  | .exit id => .exit id
  | .ret => .ret

/-- THE TRIPLE: a piece of code leads from such a frame to such a frame. (k: so many names are the caller's: they stay.) -/
def CodeC (P : Program) (k n : Nat) (c : Code) (s : SL) (e : Ex) (s' : SL) : Prop :=
  ∀ base X G τ a w, St base X G τ (s.toS n) a w → c.wp P (fun e' a' w' => e' = e.at ∧ ∃ G' τ', St base X G' τ' (s'.toS n) a' w' ∧ Ext base X G w G' w' ∧ ∀ i, i < k → τ' i = τ i) a w

/-- At a loop's head. -/
def loopWp (P : Program) (c : Code) (Q : Exit → Act → World → Prop) (a : Act) (w : World) : Prop :=
  ∀ (b : Frame) (k : List Item) (cs : List Frame), ∃ e a' w', Q e a' w' ∧ Arrives P (lone (b.at a (.code c :: .inLoop c :: k)) cs w) b k cs e a' w'

/-- The triple for a loop, by its body. -/
def LoopC (P : Program) (k n : Nat) (c : Code) (s : SL) (e : Ex) (s' : SL) : Prop :=
  ∀ base X G τ a w, St base X G τ (s.toS n) a w → loopWp P c (fun e' a' w' => e' = e.at ∧ ∃ G' τ', St base X G' τ' (s'.toS n) a' w' ∧ Ext base X G w G' w' ∧ ∀ i, i < k → τ' i = τ i) a w

def renId (ren : List (Nat × Nat)) (i : Nat) : Option Nat := match ren with
  | [] => none
  | (a, b) :: l => bif i == a then some b else renId l i

mutual
def renV (ren : List (Nat × Nat)) : V → Option V
  | .own j => match renId ren j with
    | some id => some (.own id)
    | none => none
  | .ptr j n r o => match renId ren j with
    | some id => some (.ptr id n r o)
    | none => none
  | .vw j n a b => match renId ren j with
    | some id => some (.vw id n a b)
    | none => none
  | .mref j => match renId ren j with
    | some id => some (.mref id)
    | none => none
  | .agg cs => match renL ren cs with
    | some cs => some (.agg cs)
    | none => none
  | .tup cs => match renL ren cs with
    | some cs => some (.tup cs)
    | none => none
  | .clo fn f c => match renL ren f, renL ren c with
    | some f, some c => some (.clo fn f c)
    | _, _ => none
  | .val x => some (.val x)
  | .nil => some .nil
  | .sl n rows => some (.sl n rows)
  | .iptr n rows r o => some (.iptr n rows r o)
  | .undef => some .undef
def renL (ren : List (Nat × Nat)) : List V → Option (List V)
  | [] => some []
  | c :: cs => match renV ren c, renL ren cs with
    | some c, some cs => some (c :: cs)
    | _, _ => none
end

def frSlot : List Fr → Nat → Option (Nat × Nat)
  | .slot t id n :: l, u => bif u == t then some (id, n) else frSlot l u
  | .cell _ _ _ _ :: l, u => frSlot l u
  | [], _ => none

def frCell : List Fr → Nat → Nat → Option (Nat × Nat)
  | .cell b o id n :: l, c, q => bif c == b && q == o then some (id, n) else frCell l c q
  | .slot _ _ _ :: l, c, q => frCell l c q
  | [], _, _ => none

/-- A slot's or a cell's value, renamed; a nil slice that is to be owned: its name. -/
def renAt (ren : List (Nat × Nat)) (fr : Option (Nat × Nat)) (v : V) : Option (V × List (Nat × Obj)) := match fr, v with
  | some (id, n), .nil => some (.own id, [(id, .arr n [])])
  | _, v => match renV ren v with
    | some v' => some (v', [])
    | none => none

def renCells (ren : List (Nat × Nat)) (fr : List Fr) (b : Nat) : Nat → List V → Option (List V × List (Nat × Obj))
  | _, [] => some ([], [])
  | o, c :: cs => match renAt ren (frCell fr b o) c, renCells ren fr b (o + 1) cs with
    | some (c', l), some (cs', l') => some (c' :: cs', l ++ l')
    | _, _ => none

def normEnv (σ : S) (nm : Norm) : List Nat → Option (List (Nat × V) × List (Nat × Obj))
  | [] => some ([], [])
  | t :: ts => match renAt nm.ren (frSlot nm.fresh t) (σ.env t), normEnv σ nm ts with
    | some (v, l), some (e, l') => some ((t, v) :: e, l ++ l')
    | _, _ => none

def normSt (σ : S) (nm : Norm) : List (Nat × Nat) → Option (List (Nat × Obj) × List (Nat × Obj))
  | [] => some ([], [])
  | (a, b) :: r => match σ.st a, normSt σ nm r with
    | some (.arr n rows), some (s, l) => some ((b, .arr n rows) :: s, l)
    | some (.blk n rows c), some (s, l) => some ((b, .blk n rows c) :: s, l)
    | some (.mp k es), some (s, l) => some ((b, .mp k es) :: s, l)
    | some (.nest k []), some (s, l) => some ((b, .nest k []) :: s, l)
    | some (.box cs), some (s, l) => match renCells nm.ren nm.fresh a 0 cs with
      | some (cs', l') => some ((b, .box cs') :: s, l' ++ l)
      | none => none
    | _, _ => none

def normIds (k : Nat) (ren : List (Nat × Nat)) : Bool := ren.all fun p => bif Nat.blt p.2 k then p.1 == p.2 else true

def norm (k : Nat) (σ : S) (nm : Norm) : Option SL := match normEnv σ nm nm.live, normSt σ nm nm.ren with
  | some (env, l1), some (st, l2) =>
    let fr := l1 ++ l2
    let ids := st.map (·.1) ++ fr.map (·.1)
    bif nodupB ids && (normIds k nm.ren && nodupB (nm.ren.map (·.1))) && (fr.all fun p => Nat.ble k p.1) && (env.all fun p => subset p.2.ids ids) && (st.all fun p => subset (idsObj p.2) ids) then some ⟨env, st ++ fr, ids ++ List.range k⟩ else none
  | _, _ => none

abbrev Res := Option (Ex × S × List It × List Prop)

def Ex.same : Ex → Ex → Bool
  | .normal, .normal => true
  | .exit i, .exit j => i == j
  | .ret, .ret => true
  | _, _ => false

def mergeR (B : Bool) (σ : S) (D : List Nat) (rest : List It) (r1 r2 : Res) : Res := match r1, r2 with
  | some (e1, σ1, s1, ps), some (e2, σ2, s2, qs) => bif doneSc s1 && doneSc s2 && e1.same e2 then some (e1, mergeS B σ D σ1 σ2, rest, orP B ps qs) else none
  | _, _ => none

def inBlk (id : Nat) : Res → Res
  | some (.exit id', σ', sc', ps) => bif id' == id then some (.normal, σ', sc', ps) else some (.exit id', σ', sc', ps)
  | r => r

def iter (f : List It → S → Res) : Nat → List It → S → Res
  | 0, _, _ => none
  | m + 1, sc, σ => match f sc σ with
    | none => none
    | some (.normal, σ', sc', ps) => match iter f m sc' σ' with
      | none => none
      | some (e, σ2, sc2, qs) => some (e, σ2, sc2, ps ++ qs)
    | some (e, σ', sc', ps) => some (e, σ', sc', ps)

def isTmp (t : Nat) : Operand → Bool
  | .tmp u => u == t
  | _ => false

/-- With which region a piece of code begins. -/
def firstReg : Code → Nat
  | .region id _ _ => id
  | .seq a b => match a with
    | .skip => firstReg b
    | a => firstReg a
  | .block _ a => firstReg a
  | .loop a => firstReg a
  | .scope a => firstReg a
  | _ => 1000000000

/-- All that is left of a sequence, passed by what is known of it. -/
def tailAt (P : Program) (k : Nat) (b : Code) (sc : List It) (σ : S) : Option Res := match sc with
  | .tail id nm e s :: rest => bif firstReg b == id then some (match norm k σ nm with
    | some s0 => bif subset (List.range k) s.ids then some (e, s.toS σ.n, rest, [CodeC P k σ.n b s0 e s]) else none
    | none => none) else none
  | _ => none

def runC (P : Program) (k : Nat) : Code → List It → S → Res
  | .skip, sc, σ => some (.normal, σ, sc, [])
  | .region id ops draw, sc, σ => match sc with
    | .reg id' as :: rest => bif id' == id then (match runRegion P id ops draw (as ++ autoAns (tabOf sc) 0 ops.toList) σ with
      | some (σ', ps) => some (.normal, σ', rest, ps)
      | none => none) else (match runRegion P id ops draw (autoAns (tabOf sc) 0 ops.toList) σ with
      | some (σ', ps) => some (.normal, σ', sc, ps)
      | none => none)
    | .regs id' fk :: rest => bif id' == id then (match runFk P id ops draw (autoAns (tabOf sc) 0 ops.toList) fk σ with
      | some (σ', ps) => some (.normal, σ', rest, ps)
      | none => none) else (match runRegion P id ops draw (autoAns (tabOf sc) 0 ops.toList) σ with
      | some (σ', ps) => some (.normal, σ', sc, ps)
      | none => none)
    | _ => match runRegion P id ops draw (autoAns (tabOf sc) 0 ops.toList) σ with
      | some (σ', ps) => some (.normal, σ', sc, ps)
      | none => none
  | .seq a b, sc, σ => match runC P k a sc σ with
    | none => none
    | some (.normal, σ', sc', ps) => match tailAt P k b sc' σ' with
      | some none => none
      | some (some (e, σ2, sc2, qs)) => some (e, σ2, sc2, ps ++ qs)
      | none => match runC P k b sc' σ' with
        | none => none
        | some (e, σ2, sc2, qs) => some (e, σ2, sc2, ps ++ qs)
    | some (e, σ', sc', ps) => some (e, σ', sc', ps)
  | .cond c a b, sc, σ => match sc with
    | .whole nm e s :: rest => match norm k σ nm with
      | some s0 => bif subset (List.range k) s.ids then some (e, s.toS σ.n, rest, [CodeC P k σ.n (.cond c a b) s0 e s]) else none
      | none => none
    | .fork t sc1 sc2 :: rest => bif isTmp t c then (match rdO σ.env c with
      | .val (.bool B) => bif sc1.all It.plain && sc2.all It.plain then mergeR B σ (dstsC a ++ dstsC b) rest (runC P k a (sc1 ++ tabTail sc) σ) (runC P k b (sc2 ++ tabTail sc) σ) else none
      | _ => none) else (match rdO σ.env c with
      | .val (.bool true) => runC P k a sc σ
      | .val (.bool false) => runC P k b sc σ
      | _ => none)
    | _ => match rdO σ.env c with
      | .val (.bool true) => runC P k a sc σ
      | .val (.bool false) => runC P k b sc σ
      | _ => none
  | .block id body, sc, σ => match sc with
    | .both id' B sc1 sc2 :: rest => bif id' == id then (bif sc1.all It.plain && sc2.all It.plain then mergeR B σ (dstsC body) rest (inBlk id (runC P k body (sc1 ++ tabTail sc) σ)) (inBlk id (runC P k body (sc2 ++ tabTail sc) σ)) else none) else inBlk id (runC P k body sc σ)
    | _ => inBlk id (runC P k body sc σ)
  | .loop body, sc, σ => match sc with
    | .cut nm e s :: rest => match norm k σ nm with
      | some s0 => bif subset (List.range k) s.ids then some (e, s.toS σ.n, rest, [LoopC P k σ.n body s0 e s]) else none
      | none => none
    | .unroll m :: rest => iter (fun sc σ => runC P k body sc σ) m rest σ
    | _ => none
  | .exit id, sc, σ => some (.exit id, σ, sc, [])
  | .scope body, sc, σ => runC P k body sc σ
  | .ret, sc, σ => some (.ret, σ, sc, [])
  | _, _, _ => none

/-- From a frame that is written out to one that is written out. -/
def runTo (P : Program) (k n : Nat) (c : Code) (sc : List It) (s : SL) (nm : Norm) : Option (Ex × SL × List Prop) := bif subset (List.range k) s.ids then (match runC P k c sc (s.toS n) with
  | some (e, σ, rest, ps) => bif doneSc rest then (match norm k σ nm with
    | some s' => some (e, s', ps)
    | none => none) else none
  | none => none) else none

/-- The pieces of a function's code, by their place: 'false' the first part, 'true' the second. -/
def subC : Code → List Bool → Code
  | c, [] => c
  | .seq a b, x :: r => bif x then subC b r else subC a r
  | .cond _ a b, x :: r => bif x then subC b r else subC a r
  | .block _ a, _ :: r => subC a r
  | .loop a, _ :: r => subC a r
  | .scope a, _ :: r => subC a r
  | c, _ => c

def codeAt (P : Program) (f : FuncId) (path : List Bool) : Code := match P.funcs[f]? with
  | some fn => match fn.body with
    | some c => subC c path
    | none => .skip
  | none => .skip

/-- What a function's result variables hold. -/
def resultOf (P : Program) (σ : S) : ResultVar → Option V
  | .tmp t => some (σ.env t)
  | .cell a t => match σ.env a with
    | .ptr id _ 0 off => match σ.st id with
      | some (.box cells) => takeCells P t cells off
      | _ => none
    | _ => none

def passTop (ids : List Nat) : V → T V
  | .tup vs => (passL ids true vs).bind fun vs => .ret (.tup vs)
  | v => pass ids true v

def finObjs (st : Nat → Option Obj) (names : List Nat) : List Nat → Option (List (Option Obj))
  | [] => some []
  | id :: l => match finObjs st names l with
    | none => none
    | some os => match st id with
      | none => some (none :: os)
      | some (.arr n rows) => some (some (.arr n rows) :: os)
      | some (.blk n rows c) => some (some (.blk n rows c) :: os)
      | some (.mp k es) => some (some (.mp k es) :: os)
      | some (.nest k []) => some (some (.nest k []) :: os)
      | some (.nest _ (_ :: _)) => none
      | some (.box cells) => match (passL names false cells).run st with
        | some (cs, _) => some (some (.box cs) :: os)
        | none => none

/-- A function, from its arguments (and the objects behind them) to its result. 'exports': the objects of its own that it gives away; other slices that it owns stay as they are from now on. -/
def runF (P : Program) (f : FuncId) (args : List V) (objs : List Obj) (sc : List It) (exports : List Nat) : Option (V × List (Option Obj) × List Prop) := match P.funcs[f]? with
  | some fn => match fn.body with
    | some c =>
      let k := objs.length
      bif subset (idsL args) (List.range k) && (objs.all fun o => subset (idsObj o) (List.range k)) && (fn.name != "runtime.NumGoroutine") then
        (match runC P k c sc ⟨max args.length fn.ntmps, fun t => args.getD t .undef, objsAt objs, List.range k⟩ with
        | some (e, σ, rest, ps) => bif doneSc rest && (match e with
            | .exit _ => false
            | _ => true) then (match allSome (resultOf P σ) fn.results.toList with
            | some vs =>
              let names := List.range k ++ exports
              let vs := fixAll P fn.resultTypes.toList vs
              let v : V := match vs with
                | [v] => v
                | vs => .tup vs
              match (passTop names v).run σ.st, finObjs σ.st names names with
              | some (v, _), some os => bif nodupB names then some (v, os, ps) else none
              | _, _ => none
            | none => none) else none
        | none => none)
      else none
    | none => none
  | none => none

end Go.Proofs.YtinfjnnffmlpmaaGreatDoor.E

/- The engine, part D: what operations do is what the run says: scalars, and the words for the rest. -/
namespace Go.Proofs.YtinfjnnffmlpmaaGreatDoor.E
open Go
set_option linter.unusedSimpArgs false

mutual
theorem rep_mono {w w' : World} {G G' : Nat → Prop} {τ τ' : Nat → Gh} (h : ∀ b, G b → G' b ∧ w'.heap[b]? = w.heap[b]?) : ∀ (v : V) (x : Value), (∀ i ∈ v.ids, τ' i = τ i) → v.rep w G τ x → v.rep w' G' τ' x
  | .val v, x, _, hv => by simp only [V.rep] at hv ⊢; exact repI_mono h _ x hv
  | .nil, x, _, hv => by simp only [V.rep] at hv ⊢; exact repI_mono h _ x hv
  | .sl n rows, x, _, hv => by simp only [V.rep] at hv ⊢; exact repI_mono h _ x hv
  | .undef, _, _, _ => by simp only [V.rep]
  | .own id, x, ht, hv => by simp only [V.rep] at hv ⊢; rw [hv, ht id (by simp [V.ids])]
  | .ptr id n r o, x, ht, hv => by simp only [V.rep] at hv ⊢; rw [ht id (by simp [V.ids])]; exact hv
  | .vw id n a b, x, ht, hv => by simp only [V.rep] at hv ⊢; rw [ht id (by simp [V.ids])]; exact hv
  | .mref id, x, ht, hv => by simp only [V.rep] at hv ⊢; rw [ht id (by simp [V.ids])]; exact hv
  | .iptr n rows r o, x, _, hv => by
    simp only [V.rep] at hv ⊢
    obtain ⟨b, k, hg, hr, h1, h2⟩ := hv
    exact ⟨b, k, (h b hg).1, repRows_mono h n b (h b hg).2 k rows hr, h1, h2⟩
  | .agg cs, x, ht, hv => by
    simp only [V.rep] at hv ⊢
    obtain ⟨xs, e, hr⟩ := hv
    exact ⟨xs, e, repL_mono h cs xs.toList (by simpa only [V.ids] using ht) hr⟩
  | .tup cs, x, ht, hv => by
    simp only [V.rep] at hv ⊢
    obtain ⟨xs, e, hr⟩ := hv
    exact ⟨xs, e, repL_mono h cs xs.toList (by simpa only [V.ids] using ht) hr⟩
  | .clo fn f c, x, ht, hv => by
    simp only [V.rep] at hv ⊢
    obtain ⟨xs, ys, e, h1, h2⟩ := hv
    exact ⟨xs, ys, e, repL_mono h f xs.toList (fun i hi => ht i (by simp [V.ids, hi])) h1, repL_mono h c ys.toList (fun i hi => ht i (by simp [V.ids, hi])) h2⟩
theorem repL_mono {w w' : World} {G G' : Nat → Prop} {τ τ' : Nat → Gh} (h : ∀ b, G b → G' b ∧ w'.heap[b]? = w.heap[b]?) : ∀ (cs : List V) (xs : List Value), (∀ i ∈ idsL cs, τ' i = τ i) → repL w G τ cs xs → repL w' G' τ' cs xs
  | [], [], _, _ => by simp only [repL]
  | [], _ :: _, _, hr => by simp only [repL] at hr
  | _ :: _, [], _, hr => by simp only [repL] at hr
  | c :: cs, x :: xs, ht, hr => by
    simp only [repL] at hr ⊢
    exact ⟨rep_mono h c x (fun i hi => ht i (by simp [idsL, hi])) hr.1, repL_mono h cs xs (fun i hi => ht i (by simp [idsL, hi])) hr.2⟩
end

theorem repL_length {w : World} {G : Nat → Prop} {τ : Nat → Gh} : ∀ {cs : List V} {xs : List Value}, repL w G τ cs xs → cs.length = xs.length
  | [], [], _ => rfl
  | [], _ :: _, hr => by simp only [repL] at hr
  | _ :: _, [], hr => by simp only [repL] at hr
  | c :: cs, x :: xs, hr => by simp only [repL] at hr; simp [repL_length hr.2]

theorem repL_get {w : World} {G : Nat → Prop} {τ : Nat → Gh} : ∀ {cs : List V} {xs : List Value}, repL w G τ cs xs → ∀ (i : Nat) (c : V), cs[i]? = some c → ∃ x, xs[i]? = some x ∧ c.rep w G τ x
  | [], [], _, i, c, h => by simp at h
  | [], _ :: _, hr, _, _, _ => by simp only [repL] at hr
  | _ :: _, [], hr, _, _, _ => by simp only [repL] at hr
  | c :: cs, x :: xs, hr, 0, d, h => by simp only [repL] at hr; simp at h; subst h; exact ⟨x, by simp, hr.1⟩
  | c :: cs, x :: xs, hr, i + 1, d, h => by
    simp only [repL] at hr
    obtain ⟨y, h1, h2⟩ := repL_get hr.2 i d (by simpa using h)
    exact ⟨y, by simpa using h1, h2⟩

theorem repL_append {w : World} {G : Nat → Prop} {τ : Nat → Gh} : ∀ {cs : List V} {xs : List Value} {ds : List V} {ys : List Value}, repL w G τ cs xs → repL w G τ ds ys → repL w G τ (cs ++ ds) (xs ++ ys)
  | [], [], _, _, _, h => by simpa using h
  | [], _ :: _, _, _, hr, _ => by simp only [repL] at hr
  | _ :: _, [], _, _, hr, _ => by simp only [repL] at hr
  | c :: cs, x :: xs, _, _, hr, h => by simp only [repL] at hr; simp only [List.cons_append, repL]; exact ⟨hr.1, repL_append hr.2 h⟩

theorem repL_take {w : World} {G : Nat → Prop} {τ : Nat → Gh} : ∀ {cs : List V} {xs : List Value} (n : Nat), repL w G τ cs xs → repL w G τ (cs.take n) (xs.take n)
  | _, _, 0, _ => by simp only [List.take_zero, repL]
  | [], [], _ + 1, _ => by simp only [List.take_nil, repL]
  | [], _ :: _, _ + 1, hr => by simp only [repL] at hr
  | _ :: _, [], _ + 1, hr => by simp only [repL] at hr
  | c :: cs, x :: xs, n + 1, hr => by simp only [repL] at hr; simp only [List.take_succ_cons, repL]; exact ⟨hr.1, repL_take n hr.2⟩

theorem repL_drop {w : World} {G : Nat → Prop} {τ : Nat → Gh} : ∀ {cs : List V} {xs : List Value} (n : Nat), repL w G τ cs xs → repL w G τ (cs.drop n) (xs.drop n)
  | _, _, 0, h => by simpa using h
  | [], [], _ + 1, _ => by simp only [List.drop_nil, repL]
  | [], _ :: _, _ + 1, hr => by simp only [repL] at hr
  | _ :: _, [], _ + 1, hr => by simp only [repL] at hr
  | c :: cs, x :: xs, n + 1, hr => by simp only [repL] at hr; simp only [List.drop_succ_cons]; exact repL_drop n hr.2

/-! ### Scalars -/

theorem rep_ofCell {w : World} {G : Nat → Prop} {τ : Nat → Gh} (x : Value) : (ofCell x).rep w G τ x := by
  unfold ofCell; split <;> simp only [V.rep, V.repI]

theorem repL_ofCell {w : World} {G : Nat → Prop} {τ : Nat → Gh} : ∀ l : List Value, repL w G τ (l.map ofCell) l
  | [] => by simp only [List.map_nil, repL]
  | x :: l => by simp only [List.map_cons, repL]; exact ⟨rep_ofCell x, repL_ofCell l⟩

theorem rep_ofVal1 {w : World} {G : Nat → Prop} {τ : Nat → Gh} (x : Value) : (ofVal1 x).rep w G τ x := by
  unfold ofVal1; split
  · simp only [V.rep]; exact ⟨_, rfl, repL_ofCell _⟩
  · exact rep_ofCell _

theorem repL_ofVal1 {w : World} {G : Nat → Prop} {τ : Nat → Gh} : ∀ l : List Value, repL w G τ (l.map ofVal1) l
  | [] => by simp only [List.map_nil, repL]
  | x :: l => by simp only [List.map_cons, repL]; exact ⟨rep_ofVal1 x, repL_ofVal1 l⟩

theorem rep_ofVal {w : World} {G : Nat → Prop} {τ : Nat → Gh} (x : Value) : (ofVal x).rep w G τ x := by
  unfold ofVal; split
  · simp only [V.rep]; exact ⟨_, rfl, repL_ofVal1 _⟩
  · exact rep_ofVal1 _

theorem rep_cellVal {w : World} {G : Nat → Prop} {τ : Nat → Gh} {v : V} {x y : Value} (h : cellVal v = some y) (hr : v.rep w G τ x) : x = y := by
  cases v <;> simp only [cellVal, Option.some.injEq, reduceCtorEq] at h <;> simp only [V.rep, V.repI] at hr <;> rw [hr, h]

theorem repL_cellVal {w : World} {G : Nat → Prop} {τ : Nat → Gh} : ∀ {cs : List V} {xs ys : List Value}, allSome cellVal cs = some ys → repL w G τ cs xs → xs = ys
  | [], [], ys, h, _ => by simpa [allSome] using h
  | [], _ :: _, _, _, hr => by simp only [repL] at hr
  | _ :: _, [], _, _, hr => by simp only [repL] at hr
  | c :: cs, x :: xs, ys, h, hr => by
    simp only [repL] at hr
    simp only [allSome] at h
    cases h1 : cellVal c with
    | none => simp [h1] at h
    | some b => cases h2 : allSome cellVal cs with
      | none => simp [h1, h2] at h
      | some bs => simp only [h1, h2, Option.some.injEq] at h; subst h; rw [rep_cellVal h1 hr.1, repL_cellVal h2 hr.2]

theorem rep_toVal1 {w : World} {G : Nat → Prop} {τ : Nat → Gh} {v : V} {x y : Value} (h : v.toVal1 = some y) (hr : v.rep w G τ x) : x = y := by
  unfold V.toVal1 at h
  split at h
  · rename_i cs
    simp only [V.rep] at hr
    obtain ⟨xs, rfl, hr⟩ := hr
    split at h
    · simp at h
    · rename_i zs hz
      simp only [Option.some.injEq] at h
      subst h
      rw [← repL_cellVal hz hr]
  · exact rep_cellVal h hr

theorem repL_toVal1 {w : World} {G : Nat → Prop} {τ : Nat → Gh} : ∀ {cs : List V} {xs ys : List Value}, allSome V.toVal1 cs = some ys → repL w G τ cs xs → xs = ys
  | [], [], ys, h, _ => by simpa [allSome] using h
  | [], _ :: _, _, _, hr => by simp only [repL] at hr
  | _ :: _, [], _, _, hr => by simp only [repL] at hr
  | c :: cs, x :: xs, ys, h, hr => by
    simp only [repL] at hr
    simp only [allSome] at h
    cases h1 : c.toVal1 with
    | none => simp [h1] at h
    | some b => cases h2 : allSome V.toVal1 cs with
      | none => simp [h1, h2] at h
      | some bs => simp only [h1, h2, Option.some.injEq] at h; subst h; rw [rep_toVal1 h1 hr.1, repL_toVal1 h2 hr.2]

theorem rep_toVal {w : World} {G : Nat → Prop} {τ : Nat → Gh} {v : V} {x y : Value} (h : v.toVal = some y) (hr : v.rep w G τ x) : x = y := by
  unfold V.toVal at h
  split at h
  · rename_i cs
    simp only [V.rep] at hr
    obtain ⟨xs, rfl, hr⟩ := hr
    split at h
    · simp at h
    · rename_i zs hz
      simp only [Option.some.injEq] at h
      subst h
      rw [← repL_toVal1 hz hr]
  · exact rep_toVal1 h hr

theorem still_run {α : Type} {P : Program} : ∀ {s : Sem α} {a : α}, still P s = some a → ∀ w, s.run P w = .ok a w
  | .pure a, b, h, w => by simp only [still, Option.some.injEq] at h; subst h; rfl
  | .program k, b, h, w => by simp only [still] at h; simp only [Sem.run]; exact still_run h w
  | .mark m k, b, h, w => by simp only [still] at h; simp only [Sem.run]; exact still_run h w
  | .load _ _ _, _, h, _ => by simp [still] at h
  | .store _ _ _ _, _, h, _ => by simp [still] at h
  | .new _ _, _, h, _ => by simp [still] at h
  | .shape _ _, _, h, _ => by simp [still] at h
  | .freeze _ _ _, _, h, _ => by simp [still] at h
  | .frozen _ _, _, h, _ => by simp [still] at h
  | .getObj _ _, _, h, _ => by simp [still] at h
  | .setObj _ _ _, _, h, _ => by simp [still] at h
  | .choose _ _, _, h, _ => by simp [still] at h
  | .sys _ _, _, h, _ => by simp [still] at h
  | .halt _, _, h, _ => by simp [still] at h

theorem allSome_mem {α β : Type} {f : α → Option β} : ∀ {l : List α} {r : List β}, allSome f l = some r → ∀ x ∈ l, ∃ y, f x = some y
  | [], _, _, x, hx => by simp at hx
  | a :: l, r, h, x, hx => by
    simp only [allSome] at h
    cases h1 : f a with
    | none => simp [h1] at h
    | some b => cases h2 : allSome f l with
      | none => simp [h1, h2] at h
      | some bs =>
        rcases List.mem_cons.1 hx with rfl | hx
        · exact ⟨b, h1⟩
        · exact allSome_mem h2 x hx

theorem T.run_bind {α β : Type} (st : Nat → Option Obj) : ∀ (t : T α) (f : α → T β), (t.bind f).run st = match t.run st with
    | none => none
    | some (a, rs) => match (f a).run st with
      | none => none
      | some (b, rs') => some (b, rs ++ rs')
  | .ret a, f => by simp only [T.bind, T.run]; cases (f a).run st <;> simp
  | .fail, f => by simp only [T.bind, T.run]
  | .ask id k, f => by
    simp only [T.bind, T.run]
    cases st id with
    | none => rfl
    | some o =>
      simp only []
      rw [T.run_bind st (k o) f]
      cases (k o).run st with
      | none => rfl
      | some p =>
        obtain ⟨a, rs⟩ := p
        simp only []
        cases (f a).run st with
        | none => rfl
        | some q => simp

theorem T.run_bind_some {α β : Type} {st : Nat → Option Obj} {t : T α} {f : α → T β} {b : β} {rs : List Nat} (h : (t.bind f).run st = some (b, rs)) :
    ∃ a r1 r2, t.run st = some (a, r1) ∧ (f a).run st = some (b, r2) ∧ rs = r1 ++ r2 := by
  rw [T.run_bind] at h
  cases h1 : t.run st with
  | none => simp [h1] at h
  | some p =>
    obtain ⟨a, r1⟩ := p
    cases h2 : (f a).run st with
    | none => simp [h1, h2] at h
    | some q =>
      obtain ⟨b', r2⟩ := q
      simp only [h1, h2, Option.some.injEq, Prod.mk.injEq] at h
      exact ⟨a, r1, r2, rfl, by rw [← h.1]; exact h2, h.2.symm⟩

/-- The answer hangs on what it asked for alone. -/
theorem T.run_congr {α : Type} {st st' : Nat → Option Obj} : ∀ {t : T α} {a : α} {rs : List Nat}, t.run st = some (a, rs) → (∀ i ∈ rs, st' i = st i) → t.run st' = some (a, rs)
  | .ret a, b, rs, h, _ => by simpa only [T.run] using h
  | .fail, _, _, h, _ => by simp [T.run] at h
  | .ask id k, b, rs, h, hs => by
    simp only [T.run] at h ⊢
    cases h1 : st id with
    | none => simp [h1] at h
    | some o =>
      simp only [h1] at h
      cases h2 : (k o).run st with
      | none => simp [h2] at h
      | some p =>
        obtain ⟨c, r2⟩ := p
        simp only [h2, Option.some.injEq, Prod.mk.injEq] at h
        obtain ⟨rfl, rfl⟩ := h
        rw [hs id (by simp), h1]
        simp only []
        rw [T.run_congr h2 (fun i hi => hs i (by simp [hi]))]

/-- What an operation that answers a value (or nothing) does. -/
def OpRes (P : Program) (base : Nat) (X : Nat → Prop) (ids : List Nat) (G : Nat → Prop) (τ : Nat → Gh) (st : Nat → Option Obj) (w : World) (s : Sem Next) (e : Eff) : Prop :=
  ∃ x w' G' τ', (s.run P w = .ok (.value x) w' ∨ (s.run P w = .ok .skip w' ∧ x = Go.undef)) ∧ e.v.rep w' G' τ' x ∧ Mem base X G' τ' (putSt st e.ws) w' ∧ Ext base X G w G' w' ∧ ∀ i ∈ ids, τ' i = τ i

theorem Ext.refl (base : Nat) (X G : Nat → Prop) (w : World) : Ext base X G w G w :=
  ⟨rfl, rfl, rfl, Nat.le_refl _, fun _ _ _ => rfl, fun _ h => ⟨h, rfl⟩, fun _ h => .inl h⟩

theorem Ext.trans {base : Nat} {X G G' G'' : Nat → Prop} {w w' w'' : World} (h : Ext base X G w G' w') (k : Ext base X G' w' G'' w'') : Ext base X G w G'' w'' :=
  ⟨k.os.trans h.os, k.tape.trans h.tape, k.output.trans h.output, Nat.le_trans h.size k.size, fun b hb hx => (k.block b hb hx).trans (h.block b hb hx),
   fun b hb => ⟨(k.keep b (h.keep b hb).1).1, (k.keep b (h.keep b hb).1).2.trans (h.keep b hb).2⟩,
   fun b hb => (k.grow b hb).elim (h.grow b) .inr⟩

/-- A value, and nothing else. -/
theorem OpRes.pure {P : Program} {base : Nat} {X G : Nat → Prop} {ids : List Nat} {τ : Nat → Gh} {st : Nat → Option Obj} {w : World} {s : Sem Next} {v : V} {obs : List Prop} {x : Value}
    (hm : Mem base X G τ st w) (h : s.run P w = .ok (.value x) w) (hr : v.rep w G τ x) : OpRes P base X ids G τ st w s ⟨v, [], obs, []⟩ :=
  ⟨x, w, G, τ, .inl h, hr, hm, Ext.refl _ _ _ _, fun _ _ => rfl⟩

theorem genOp_res {P : Program} {base : Nat} {X G : Nat → Prop} {ids : List Nat} {τ : Nat → Gh} {st : Nat → Option Obj} {w : World} {rd : Operand → V} {ρ : Operand → Value} {o : Oper} {e : Eff} {rs : List Nat}
    (hs : ∀ cs b, o.op ≠ .select cs b) (hrd : ∀ x ∈ o.op.operands, (rd x).rep w G τ (ρ x)) (hm : Mem base X G τ st w) (h : (genOp P rd o).run st = some (e, rs)) :
    OpRes P base X ids G τ st w (execOp ρ o) e := by
  unfold genOp at h
  split at h
  · simp [T.run] at h
  · rename_i l hl
    have heq : execOp ρ o = execOp (fun x => ((rd x).toVal).getD Go.undef) o := by
      refine execOp_congr o hs fun x hx => ?_
      obtain ⟨y, hy⟩ := allSome_mem hl x (by simpa using hx)
      rw [hy]; exact rep_toVal hy (hrd x hx)
    split at h
    · rename_i v hv
      simp only [T.run, Option.some.injEq, Prod.mk.injEq] at h
      obtain ⟨rfl, rfl⟩ := h
      rw [heq]
      exact OpRes.pure hm (still_run hv w) (rep_ofVal v)
    · simp [T.run] at h

end Go.Proofs.YtinfjnnffmlpmaaGreatDoor.E

/- The engine, part E: memory: what keeps, what is new, what is written. -/
namespace Go.Proofs.YtinfjnnffmlpmaaGreatDoor.E
open Go
set_option linter.unusedSimpArgs false

def repIL (w : World) (G : Nat → Prop) : List V → List Value → Prop
  | [], [] => True
  | c :: cs, x :: xs => (c.repI w G x ∧ x.oneCell' = true) ∧ repIL w G cs xs
  | [], _ :: _ => False
  | _ :: _, [] => False

theorem repIL_length {w : World} {G : Nat → Prop} : ∀ {cs : List V} {xs : List Value}, repIL w G cs xs → cs.length = xs.length
  | [], [], _ => rfl
  | [], _ :: _, hr => by simp only [repIL] at hr
  | _ :: _, [], hr => by simp only [repIL] at hr
  | c :: cs, x :: xs, hr => by simp only [repIL] at hr; simp [repIL_length hr.2]

theorem repIL_mono {w w' : World} {G G' : Nat → Prop} (h : ∀ b, G b → G' b ∧ w'.heap[b]? = w.heap[b]?) : ∀ {cs : List V} {xs : List Value}, repIL w G cs xs → repIL w' G' cs xs
  | [], [], _ => by simp only [repIL]
  | [], _ :: _, hr => by simp only [repIL] at hr
  | _ :: _, [], hr => by simp only [repIL] at hr
  | c :: cs, x :: xs, hr => by simp only [repIL] at hr ⊢; exact ⟨⟨repI_mono h c x hr.1.1, hr.1.2⟩, repIL_mono h hr.2⟩

theorem rep_of_repI {w : World} {G : Nat → Prop} {τ : Nat → Gh} {v : V} {x : Value} (h : v.repI w G x) : v.rep w G τ x := by
  cases v <;> first | (simp only [V.rep]; done) | (simp only [V.rep]; exact h) | (simp only [V.repI] at h)

theorem repL_of_repIL {w : World} {G : Nat → Prop} {τ : Nat → Gh} : ∀ {cs : List V} {xs : List Value}, repIL w G cs xs → repL w G τ cs xs
  | [], [], _ => by simp only [repL]
  | [], _ :: _, hr => by simp only [repIL] at hr
  | _ :: _, [], hr => by simp only [repIL] at hr
  | c :: cs, x :: xs, hr => by simp only [repIL] at hr; simp only [repL]; exact ⟨rep_of_repI hr.1.1, repL_of_repIL hr.2⟩

theorem repL_fixCells {w : World} {G : Nat → Prop} {τ : Nat → Gh} : ∀ {ks : List (Option Nat)} {cs : List V} {xs : List Value}, repL w G τ cs xs → repL w G τ (fixCells ks cs) xs
  | [], cs, xs, h => by simpa [fixCells] using h
  | k :: ks, [], xs, h => by cases k <;> simpa [fixCells] using h
  | k :: ks, c :: cs, [], h => by simp only [repL] at h
  | k :: ks, c :: cs, x :: xs, h => by
    simp only [repL] at h
    unfold fixCells
    split
    · rename_i n ks' cs' e1 e2
      simp only [List.cons.injEq] at e1 e2
      obtain ⟨_, rfl⟩ := e1
      obtain ⟨rfl, rfl⟩ := e2
      simp only [repL]
      refine ⟨?_, repL_fixCells h.2⟩
      have h1 := h.1
      simp only [V.rep, V.repI] at h1 ⊢
      exact ⟨none, 0, h1, Nat.le_refl _, .inl trivial⟩
    · rename_i e1 e2
      simp only [List.cons.injEq] at e1 e2
      obtain ⟨_, rfl⟩ := e1
      obtain ⟨rfl, rfl⟩ := e2
      simp only [repL]
      exact ⟨h.1, repL_fixCells h.2⟩
    · rename_i e1; simp at e1
    · rename_i e1; simp at e1

theorem repL_fixRow {P : Program} {t : TypeId} {w : World} {G : Nat → Prop} {τ : Nat → Gh} {cs : List V} {xs : List Value} (h : repL w G τ cs xs) : repL w G τ (fixRow P t cs) xs := by
  unfold fixRow
  split
  · exact repL_fixCells h
  · exact h

theorem rep_fixV {P : Program} {t : TypeId} {w : World} {G : Nat → Prop} {τ : Nat → Gh} {v : V} {x : Value} (h : v.rep w G τ x) : (fixV P t v).rep w G τ x := by
  unfold fixV
  split
  · split
    · simp only [V.rep] at h ⊢
      obtain ⟨xs, e, hr⟩ := h
      exact ⟨xs, e, repL_fixCells hr⟩
    · exact h
  · split
    · split
      · simp only [V.rep, V.repI] at h ⊢
        exact ⟨none, 0, h, Nat.le_refl _, .inl trivial⟩
      · exact h
    · exact h
  · exact h

theorem idsL_fixCells : ∀ {ks : List (Option Nat)} {cs : List V}, idsL (fixCells ks cs) = idsL cs
  | [], cs => by simp [fixCells]
  | k :: ks, [] => by cases k <;> simp [fixCells]
  | k :: ks, c :: cs => by
    unfold fixCells
    split
    · rename_i n ks' cs' e1 e2
      simp only [List.cons.injEq] at e1 e2
      obtain ⟨_, rfl⟩ := e1
      obtain ⟨rfl, rfl⟩ := e2
      simp only [idsL, V.ids, idsL_fixCells]
    · rename_i e1 e2
      simp only [List.cons.injEq] at e1 e2
      obtain ⟨_, rfl⟩ := e1
      obtain ⟨rfl, rfl⟩ := e2
      simp only [idsL, idsL_fixCells]
    · rename_i e1; simp at e1
    · rename_i e1; simp at e1

/-- Cells that lie one behind the other. -/
theorem repCells_of {w : World} {G : Nat → Prop} {b : Nat} : ∀ {cs : List V} {xs : List Value} (o : Nat), repIL w G cs xs → (∀ i x, xs[i]? = some x → w.cell? ⟨b, o + i, none⟩ = some x) → repCells w G b o cs
  | [], _, _, _, _ => by simp only [repCells]
  | _ :: _, [], _, hr, _ => by simp only [repIL] at hr
  | c :: cs, x :: xs, o, hr, h => by
    simp only [repIL] at hr
    simp only [repCells]
    refine ⟨⟨x, by simpa using h 0 x (by simp), hr.1.2, hr.1.1⟩, repCells_of (o + 1) hr.2 fun i y hy => ?_⟩
    have := h (i + 1) y (by simpa using hy)
    rwa [show o + (i + 1) = o + 1 + i by omega] at this

theorem repCells_get {w : World} {G : Nat → Prop} {b : Nat} : ∀ {cs : List V} {o : Nat}, repCells w G b o cs → ∃ xs : List Value, repIL w G cs xs ∧ ∀ i x, xs[i]? = some x → w.cell? ⟨b, o + i, none⟩ = some x
  | [], _, _ => ⟨[], by simp only [repIL], by simp⟩
  | c :: cs, o, h => by
    simp only [repCells] at h
    obtain ⟨⟨x, hx, ho, hc⟩, h⟩ := h
    obtain ⟨xs, h1, h2⟩ := repCells_get h
    refine ⟨x :: xs, by simp only [repIL]; exact ⟨⟨hc, ho⟩, h1⟩, fun i y hy => ?_⟩
    cases i with
    | zero => simp at hy; subst hy; simpa using hx
    | succ i =>
      have := h2 i y (by simpa using hy)
      rwa [show o + (i + 1) = o + 1 + i by omega]

theorem repRows_len {w : World} {G : Nat → Prop} {sz b : Nat} : ∀ {rows : List (List V)} {o : Nat}, repRows w G sz b o rows → ∀ r ∈ rows, r.length = sz
  | [], _, _, r, hr => by simp at hr
  | r :: rs, o, h, q, hq => by
    simp only [repRows] at h
    rcases List.mem_cons.1 hq with rfl | hq
    · exact h.1
    · exact repRows_len h.2.2 q hq

theorem repRows_get {w : World} {G : Nat → Prop} {sz b : Nat} : ∀ {rows : List (List V)} {o : Nat}, repRows w G sz b o rows → ∀ (i : Nat) (r : List V), rows[i]? = some r → r.length = sz ∧ repCells w G b (o + i * sz) r
  | [], _, _, i, r, hr => by simp at hr
  | r :: rs, o, h, 0, q, hq => by simp only [repRows] at h; simp at hq; subst hq; exact ⟨h.1, by simpa using h.2.1⟩
  | r :: rs, o, h, i + 1, q, hq => by
    simp only [repRows] at h
    obtain ⟨h1, h2⟩ := repRows_get h.2.2 i q (by simpa using hq)
    exact ⟨h1, by rwa [show o + (i + 1) * sz = o + sz + i * sz by rw [Nat.add_mul]; omega]⟩

theorem repRows_of {w : World} {G : Nat → Prop} {sz b : Nat} : ∀ {rows : List (List V)} {o : Nat}, (∀ (i : Nat) (r : List V), rows[i]? = some r → r.length = sz ∧ repCells w G b (o + i * sz) r) → repRows w G sz b o rows
  | [], _, _ => by simp only [repRows]
  | r :: rs, o, h => by
    simp only [repRows]
    refine ⟨(h 0 r (by simp)).1, by simpa using (h 0 r (by simp)).2, repRows_of fun i q hq => ?_⟩
    obtain ⟨h1, h2⟩ := h (i + 1) q (by simpa using hq)
    exact ⟨h1, by rwa [show o + sz + i * sz = o + (i + 1) * sz by rw [Nat.add_mul]; omega]⟩

theorem repCells_append {w : World} {G : Nat → Prop} {b : Nat} : ∀ {cs ds : List V} {o : Nat}, repCells w G b o (cs ++ ds) ↔ repCells w G b o cs ∧ repCells w G b (o + cs.length) ds
  | [], ds, o => by simp only [List.nil_append, repCells, true_and, List.length_nil, Nat.add_zero]
  | c :: cs, ds, o => by
    simp only [List.cons_append, repCells, List.length_cons]
    rw [repCells_append (cs := cs), show o + 1 + cs.length = o + (cs.length + 1) by omega]
    exact and_assoc.symm

/-! ### Objects -/

theorem rowsOk_mono {w w' : World} {G G' : Nat → Prop} {g : Gh} {n : Nat} {rows : List (List V)} (hG : ∀ b, G b → G' b ∧ w'.heap[b]? = w.heap[b]?)
    (hb : ∀ b, g.blk = some b → w'.heap[b]? = w.heap[b]? ∧ (G' b → G b)) (h : rowsOk w G g n rows) : rowsOk w' G' g n rows := by
  obtain ⟨h2, h3⟩ := h
  refine ⟨h2, ?_⟩
  rcases h3 with h3 | ⟨b, xs, t, fz, e1, e2, e3, e4, e5, e6, e7⟩
  · exact .inl h3
  · exact .inr ⟨b, xs, t, fz, e1, e2, by rw [(hb b e1).1]; exact e3, fun hg => e4 ((hb b e1).2 hg), e5, e6, repRows_mono hG n b (hb b e1).1 0 rows e7⟩

theorem Obj.ok_mono {w w' : World} {G G' : Nat → Prop} {τ τ' : Nat → Gh} {id : Nat} (hG : ∀ b, G b → G' b ∧ w'.heap[b]? = w.heap[b]?)
    (hb : ∀ b, (τ id).blk = some b → w'.heap[b]? = w.heap[b]? ∧ (G' b → G b)) (ht : τ' id = τ id) :
    ∀ {o : E.Obj}, (∀ j ∈ idsObj o, τ' j = τ j) → o.ok w G τ id → o.ok w' G' τ' id
  | .box cells, hi, h => by
    simp only [Obj.ok, rowsOk] at h ⊢
    obtain ⟨b, xs, t, fz, h1, h2, h3, h4, h5⟩ := h
    exact ⟨b, xs, t, fz, by rw [ht]; exact h1, by rw [(hb b h1).1]; exact h2, fun hg => h3 ((hb b h1).2 hg), h4, repL_mono hG cells xs.toList (fun i hc => hi i (by simpa only [idsObj] using hc)) h5⟩
  | .arr n rows, hi, h => by
    simp only [Obj.ok] at h ⊢
    rw [ht]
    exact ⟨h.1, rowsOk_mono hG hb h.2⟩
  | .blk n rows c, hi, h => by
    simp only [Obj.ok] at h ⊢
    rw [ht]
    exact ⟨h.1, rowsOk_mono hG hb h.2⟩
  | .mp k es, hi, h => by
    simp only [Obj.ok] at h ⊢
    obtain ⟨b, m, clock, h1, h2, h3, h4⟩ := h
    rw [ht]
    exact ⟨b, m, clock, h1, by rw [(hb b h1).1]; exact h2, fun hg => h3 ((hb b h1).2 hg), h4⟩
  | .nest (.arr rows) hs, hi, h => by
    simp only [Obj.ok] at h ⊢
    rw [ht]
    exact ⟨h.1, rowsOk_mono hG hb h.2⟩
  | .nest (.mp nl es) hs, hi, h => by
    simp only [Obj.ok] at h ⊢
    rw [ht]
    rcases h with h | ⟨h0, b, m, clock, h1, h2, h3, h4⟩
    · exact .inl h
    · exact .inr ⟨h0, b, m, clock, h1, by rw [(hb b h1).1]; exact h2, fun hg => h3 ((hb b h1).2 hg), h4⟩

theorem idsObj_rows {o : E.Obj} (h : o.rowsB = true) : idsObj o = [] := by
  cases o with
  | nest k hs => simpa [Obj.rowsB, idsObj] using h
  | box cells => simp [Obj.rowsB] at h
  | _ => rfl

theorem Obj.ok_name {w : World} {G : Nat → Prop} {τ τ' : Nat → Gh} {id j : Nat} {o : E.Obj} (h : o.rowsB = true) (ht : τ' j = τ id) (hok : o.ok w G τ id) : o.ok w G τ' j := by
  cases o with
  | box cells => simp [Obj.rowsB] at h
  | arr n rows => simp only [Obj.ok] at hok ⊢; rw [ht]; exact hok
  | blk n rows c => simp only [Obj.ok] at hok ⊢; rw [ht]; exact hok
  | mp k es => simp only [Obj.ok] at hok ⊢; rw [ht]; exact hok
  | nest k hs => cases k <;> (simp only [Obj.ok] at hok ⊢; rw [ht]; exact hok)

/-- The names that a store of objects mentions are among some. -/
def Closed (ids : List Nat) (st : Nat → Option E.Obj) : Prop := ∀ i o, st i = some o → i ∈ ids ∧ ∀ j ∈ idsObj o, j ∈ ids

theorem Obj.ok_blk {w : World} {G : Nat → Prop} {τ : Nat → Gh} {id b : Nat} {o : E.Obj} (h : o.ok w G τ id) (hb : (τ id).blk = some b) : ¬ G b ∧ ∃ ob, w.heap[b]? = some ob := by
  cases o with
  | box cells =>
    simp only [Obj.ok, rowsOk] at h
    obtain ⟨b', xs, t, fz, h1, h2, h3, _⟩ := h
    rw [hb] at h1; cases h1
    exact ⟨h3, _, h2⟩
  | arr n rows =>
    simp only [Obj.ok, rowsOk] at h
    rcases h.2.2 with h3 | ⟨b', xs, t, fz, e1, _, e3, e4, _⟩
    · rw [hb] at h3; simp at h3
    · rw [hb] at e1; cases e1
      exact ⟨e4, _, e3⟩
  | mp k es =>
    simp only [Obj.ok] at h
    obtain ⟨b', m, clock, h1, h2, h3, _⟩ := h
    rw [hb] at h1; cases h1
    exact ⟨h3, _, h2⟩
  | nest k hs =>
    cases k with
    | arr rows =>
      simp only [Obj.ok, rowsOk] at h
      rcases h.2.2 with h3 | ⟨b', xs, t, fz, e1, _, e3, e4, _⟩
      · rw [hb] at h3; simp at h3
      · rw [hb] at e1; cases e1
        exact ⟨e4, _, e3⟩
    | mp nl es =>
      simp only [Obj.ok] at h
      rcases h with ⟨_, h1⟩ | ⟨_, b', m, clock, h1, h2, h3, _⟩
      · rw [hb] at h1; cases h1
      · rw [hb] at h1; cases h1
        exact ⟨h3, _, h2⟩
  | blk n rows c =>
    simp only [Obj.ok, rowsOk] at h
    rcases h.2.2 with h3 | ⟨b', xs, t, fz, e1, _, e3, e4, _⟩
    · rw [hb] at h3; simp at h3
    · rw [hb] at e1; cases e1
      exact ⟨e4, _, e3⟩

theorem lt_of_get {w : World} {b : Nat} {o : Go.Obj} (h : w.heap[b]? = some o) : b < w.heap.size := (Array.getElem?_eq_some_iff.1 h).1

/-! ### What nested objects own -/

theorem Inn.at_mono {w w' : World} {G G' : Nat → Prop} {τ τ' : Nat → Gh} {bs : List Nat} (hG : ∀ b, G b → G' b ∧ w'.heap[b]? = w.heap[b]?)
    (hb : ∀ b ∈ bs, w'.heap[b]? = w.heap[b]? ∧ (G' b → G b)) {c : Inn} {x : Value} (hi : ∀ i ∈ c.ids, τ' i = τ i) (h : c.at w G τ bs x) : c.at w' G' τ' bs x := by
  cases c with
  | hole v =>
    simp only [Inn.at] at h ⊢
    exact ⟨h.1, rep_mono hG v x hi h.2.1, h.2.2⟩
  | sl n rows =>
    simp only [Inn.at] at h ⊢
    obtain ⟨g, h1, h2, h3, h4⟩ := h
    exact ⟨g, h1, h2, rowsOk_mono hG (fun b hg => hb b (by rw [h4, hg]; simp)) h3, h4⟩
  | box n rows rest =>
    simp only [Inn.at] at h ⊢
    obtain ⟨b, g, xs, t, fz, ys, h1, h2, h3, h4, h5, h6, h7, h8, h9⟩ := h
    obtain ⟨k1, k2⟩ := hb b (by rw [h9]; simp)
    exact ⟨b, g, xs, t, fz, ys, h1, by rw [k1]; exact h2, fun hg => h3 (k2 hg), h4, h5, repL_mono hG rest ys hi h6, h7, rowsOk_mono hG (fun b hg => hb b (by rw [h9, hg]; simp)) h8, h9⟩

theorem innL_mono {w w' : World} {G G' : Nat → Prop} {τ τ' : Nat → Gh} (hG : ∀ b, G b → G' b ∧ w'.heap[b]? = w.heap[b]?) : ∀ {cs : List Inn} {xs : List Value} {bs : List Nat},
    (∀ b ∈ bs, w'.heap[b]? = w.heap[b]? ∧ (G' b → G b)) → (∀ c ∈ cs, ∀ i ∈ c.ids, τ' i = τ i) → innL w G τ bs cs xs → innL w' G' τ' bs cs xs
  | [], [], _, _, _, h => by simpa only [innL] using h
  | [], _ :: _, _, _, _, h => by simp only [innL] at h
  | _ :: _, [], _, _, _, h => by simp only [innL] at h
  | c :: cs, x :: xs, bs, hb, hi, h => by
    simp only [innL] at h ⊢
    obtain ⟨b1, b2, rfl, h1, h2⟩ := h
    exact ⟨b1, b2, rfl, Inn.at_mono hG (fun b hm => hb b (by simp [hm])) (hi c (by simp)) h1, innL_mono hG (fun b hm => hb b (by simp [hm])) (fun d hd => hi d (by simp [hd])) h2⟩

theorem Obj.inner_mono {w w' : World} {G G' : Nat → Prop} {τ τ' : Nat → Gh} {id id' : Nat} {bs : List Nat} (hG : ∀ b, G b → G' b ∧ w'.heap[b]? = w.heap[b]?)
    (hb : ∀ b ∈ bs, w'.heap[b]? = w.heap[b]? ∧ (G' b → G b)) (ht : τ' id' = τ id) (hk : ∀ b, (τ id).blk = some b → w'.heap[b]? = w.heap[b]?) {o : E.Obj} (hi : ∀ j ∈ idsObj o, τ' j = τ j) (h : o.inner w G τ id bs) : o.inner w' G' τ' id' bs := by
  cases o with
  | nest k hs =>
    cases k with
    | arr rows =>
      simp only [Obj.inner] at h ⊢
      refine ⟨h.1, ?_⟩
      rcases h.2 with h2 | ⟨b, xs, t, fz, e1, e2, e3⟩
      · exact .inl h2
      · exact .inr ⟨b, xs, t, fz, by rw [ht]; exact e1, by rw [hk b e1]; exact e2, innL_mono hG hb (fun c hc i hci => hi i (h.1 c hc i hci)) e3⟩
    | mp nl es =>
      simp only [Obj.inner] at h ⊢
      obtain ⟨h1, h2⟩ := h
      refine ⟨h1, ?_⟩
      rcases h2 with h2 | ⟨h0, b, m, clock, e1, e2, e3, e4⟩
      · exact .inl h2
      · exact .inr ⟨h0, b, m, clock, by rw [ht]; exact e1, by rw [hk b e1]; exact e2, e3, innL_mono hG hb (fun c hc i hci => hi i (h1 c hc i hci)) e4⟩
  | _ => simpa only [Obj.inner] using h

/-- Nested objects stay as they are, perhaps under other names. -/
theorem Sub.step {base base' : Nat} {X X' G G' : Nat → Prop} {τ τ' : Nat → Gh} {st st' : Nat → Option E.Obj} {w w' : World} (f : Nat → Nat) (hm : ∃ σ, SubAt base X G τ st w σ)
    (hG : ∀ b, G b → G' b ∧ w'.heap[b]? = w.heap[b]?) (hsz : w.heap.size ≤ w'.heap.size) (hB : ∀ b, b < w.heap.size → base ≤ b ∨ X b → base' ≤ b ∨ X' b)
    (hst : ∀ id o, st' id = some o → o.plain = false → st (f id) = some o ∧ τ' id = τ (f id) ∧ (∀ i ∈ idsObj o, τ' i = τ i) ∧ ∀ b, (τ (f id)).blk = some b → w'.heap[b]? = w.heap[b]?)
    (hf : ∀ i j o p, st' i = some o → st' j = some p → o.plain = false → p.plain = false → f i = f j → i = j)
    (hw : ∀ b, b < w.heap.size → ¬ G b → (base ≤ b ∨ X b) → (∀ j p, st j = some p → (τ j).blk ≠ some b) → w'.heap[b]? = w.heap[b]? ∧ ¬ G' b)
    (hmain : ∀ id o b, st' id = some o → (τ' id).blk = some b → w.heap.size ≤ b ∨ ∃ j p, st j = some p ∧ (τ j).blk = some b) : ∃ σ', SubAt base' X' G' τ' st' w' σ' := by
  obtain ⟨σ, hs⟩ := hm
  have hall : ∀ id o b, st' id = some o → o.plain = false → b ∈ σ (f id) → w'.heap[b]? = w.heap[b]? ∧ ¬ G' b ∧ b < w.heap.size := by
    intro id o b h1 h2 h3
    obtain ⟨g1, g2, g3, g4⟩ := hst id o h1 h2
    obtain ⟨k1, k2, k3⟩ := hs.own (f id) o b g1 h2 h3
    obtain ⟨q1, q2⟩ := hw b k3 k2 k1 (hs.apart (f id) o b g1 h2 h3)
    exact ⟨q1, q2, k3⟩
  refine ⟨fun id => σ (f id), ⟨fun id o h1 h2 => ?_, fun id o b h1 h2 h3 => ?_, fun id o b h1 h2 h3 j p hj he => ?_, fun i j o p b h1 h2 h3 h4 h5 h6 => ?_⟩⟩
  · obtain ⟨g1, g2, g3, g4⟩ := hst id o h1 h2
    obtain ⟨k1, k2⟩ := hs.inner (f id) o g1 h2
    refine ⟨Obj.inner_mono hG (fun b hb => ?_) g2 g4 g3 k1, k2⟩
    obtain ⟨q1, q2, _⟩ := hall id o b h1 h2 hb
    exact ⟨q1, fun hg => absurd hg q2⟩
  · obtain ⟨g1, g2, g3, g4⟩ := hst id o h1 h2
    obtain ⟨k1, k2, k3⟩ := hs.own (f id) o b g1 h2 h3
    obtain ⟨q1, q2, q3⟩ := hall id o b h1 h2 h3
    exact ⟨hB b k3 k1, q2, by omega⟩
  · obtain ⟨g1, g2, g3, g4⟩ := hst id o h1 h2
    obtain ⟨_, _, q3⟩ := hall id o b h1 h2 h3
    rcases hmain j p b hj he with h | ⟨i, q, r1, r2⟩
    · omega
    · exact hs.apart (f id) o b g1 h2 h3 i q r1 r2
  · obtain ⟨g1, _⟩ := hst i o h1 h3
    obtain ⟨k1, _⟩ := hst j p h2 h4
    exact hf i j o p h1 h2 h3 h4 (hs.inj (f i) (f j) o p b g1 k1 h3 h4 h5 h6)

theorem alloc_get (w : World) (o : Go.Obj) (b : Nat) (h : b < w.heap.size) : (w.alloc o).heap[b]? = w.heap[b]? := Go.RowKit.Below.heap_alloc w o b h

theorem alloc_new (w : World) (o : Go.Obj) : (w.alloc o).heap[w.heap.size]? = some o := by
  show (w.heap.push o)[w.heap.size]? = some o
  simp

theorem alloc_size (w : World) (o : Go.Obj) : (w.alloc o).heap.size = w.heap.size + 1 := by
  show (w.heap.push o).size = _
  simp

theorem Ext.alloc {base : Nat} {X G : Nat → Prop} {w : World} (hm : ∀ b, G b → b < w.heap.size) (hb : base ≤ w.heap.size) (o : Go.Obj) : Ext base X G w G (w.alloc o) :=
  ⟨rfl, rfl, rfl, by rw [alloc_size]; omega, fun b h _ => alloc_get w o b (by omega), fun b h => ⟨h, alloc_get w o b (hm b h)⟩, fun _ h => .inl h⟩

theorem Ext.drew {base : Nat} {X G : Nat → Prop} (w : World) : Ext base X G w G w.drew :=
  ⟨rfl, rfl, rfl, Nat.le_refl _, fun _ _ _ => rfl, fun _ h => ⟨h, rfl⟩, fun _ h => .inl h⟩

def setGh (τ : Nat → Gh) (i : Nat) (g : Gh) : Nat → Gh := fun j => if j = i then g else τ j

theorem setGh_ne {τ : Nat → Gh} {i j : Nat} {g : Gh} (h : j ≠ i) : setGh τ i g j = τ j := by simp [setGh, h]
theorem setGh_same {τ : Nat → Gh} {i : Nat} {g : Gh} : setGh τ i g i = g := by simp [setGh]

/-- A new block, and a new object there. -/
theorem Mem.new {base : Nat} {X G : Nat → Prop} {τ : Nat → Gh} {st : Nat → Option E.Obj} {w : World} {ids : List Nat} {site : Nat} {g : Gh} {o : E.Obj} {k : Go.Obj}
    (hm : Mem base X G τ st w) (hbase : base ≤ w.heap.size) (hc : Closed ids st) (hs : site ∉ ids) (hg : ∀ b, g.blk = some b → b = w.heap.size) (hok : o.ok (w.alloc k) G (setGh τ site g) site) (hpl : o.plain = true := by rfl) :
    Mem base X G (setGh τ site g) (putSt st [(site, some o)]) (w.alloc k) := by
  have hst : ∀ i o', putSt st [(site, some o)] i = some o' → (i = site ∧ o' = o) ∨ (i ≠ site ∧ st i = some o') := by
    intro i o' h
    simp only [putSt] at h
    by_cases hi : i = site
    · subst hi; simp at h; exact .inl ⟨rfl, h.symm⟩
    · have : (i == site) = false := by simpa using hi
      simp only [this, cond_false] at h; exact .inr ⟨hi, h⟩
  have hne : ∀ i o', st i = some o' → i ≠ site := fun i o' h e => hs (e ▸ (hc i o' h).1)
  have hlt : ∀ i o' b, st i = some o' → (τ i).blk = some b → b < w.heap.size := fun i o' b h hb => by
    obtain ⟨_, _, h2⟩ := Obj.ok_blk (hm.ok i o' h) hb
    exact lt_of_get h2
  refine ⟨fun b hb => by rw [alloc_size]; have := hm.gold b hb; omega, fun i o' h => ?_, fun i o' b h hb => ?_, fun i j o1 o2 b h1 h2 hb1 hb2 => ?_, ?_⟩
  rotate_left 3
  · refine Sub.step (fun i => i) hm.sub (fun b hb => ⟨hb, alloc_get w k b (hm.gold b hb)⟩) (by rw [alloc_size]; omega) (fun _ _ h => h) (fun i o' h hp => ?_) (fun i j _ _ _ _ _ _ h => h) (fun b hb hg _ _ => ⟨alloc_get w k b hb, hg⟩) (fun i o' b h hb => ?_)
    · rcases hst i o' h with ⟨_, e2⟩ | ⟨hi, h⟩
      · rw [e2, hpl] at hp; cases hp
      · exact ⟨h, setGh_ne hi, fun j hj => setGh_ne fun e => hs (e ▸ (hc i o' h).2 j hj), fun b hb => alloc_get w k b (hlt i o' b h hb)⟩
    · rcases hst i o' h with ⟨e1, _⟩ | ⟨hi, h⟩
      · rw [e1, setGh_same] at hb; exact .inl (by rw [hg b hb]; omega)
      · rw [setGh_ne hi] at hb; exact .inr ⟨i, o', h, hb⟩
  · rcases hst i o' h with ⟨rfl, rfl⟩ | ⟨hi, h⟩
    · exact hok
    · exact Obj.ok_mono (fun b hb => ⟨hb, alloc_get w k b (hm.gold b hb)⟩) (fun b hb => ⟨alloc_get w k b (hlt i o' b h hb), id⟩) (setGh_ne hi)
        (fun j hj => setGh_ne fun e => hs (e ▸ (hc i o' h).2 j hj)) (hm.ok i o' h)
  · rcases hst i o' h with ⟨rfl, rfl⟩ | ⟨hi, h⟩
    · rw [setGh_same] at hb; rw [hg b hb]; exact .inl hbase
    · rw [setGh_ne hi] at hb; exact hm.own i o' b h hb
  · rcases hst i o1 h1 with ⟨e1, _⟩ | ⟨hi, k1⟩ <;> rcases hst j o2 h2 with ⟨e2, _⟩ | ⟨hj, k2⟩
    · rw [e1, e2]
    · rw [e1, setGh_same] at hb1; rw [setGh_ne hj] at hb2
      have := hlt j o2 b k2 hb2; have := hg b hb1; omega
    · rw [e2, setGh_same] at hb2; rw [setGh_ne hi] at hb1
      have := hlt i o1 b k1 hb1; have := hg b hb2; omega
    · rw [setGh_ne hi] at hb1; rw [setGh_ne hj] at hb2; exact hm.inj i j o1 o2 b k1 k2 hb1 hb2

/-- The cells of one object are written. -/
theorem Mem.set {base : Nat} {X G : Nat → Prop} {τ : Nat → Gh} {st : Nat → Option E.Obj} {w w' : World} {id b : Nat} {o o' : E.Obj}
    (hm : Mem base X G τ st w) (hi : st id = some o) (hb : (τ id).blk = some b) (hsz : w'.heap.size = w.heap.size) (hne : ∀ k, k ≠ b → w'.heap[k]? = w.heap[k]?) (hok : o'.ok w' G τ id) (hpl : o'.plain = true := by rfl) :
    Mem base X G τ (putSt st [(id, some o')]) w' := by
  have hnG : ¬ G b := (Obj.ok_blk (hm.ok id o hi) hb).1
  have hst : ∀ i p, putSt st [(id, some o')] i = some p → (i = id ∧ p = o') ∨ (i ≠ id ∧ st i = some p) := by
    intro i p h
    simp only [putSt] at h
    by_cases hi : i = id
    · subst hi; simp at h; exact .inl ⟨rfl, h.symm⟩
    · have : (i == id) = false := by simpa using hi
      simp only [this, cond_false] at h; exact .inr ⟨hi, h⟩
  refine ⟨fun k hk => by rw [hsz]; exact hm.gold k hk, fun i p h => ?_, fun i p k h hk => ?_, fun i j p q k h1 h2 hk1 hk2 => ?_, ?_⟩
  rotate_left 3
  · refine Sub.step (fun i => i) hm.sub (fun k hk => ⟨hk, hne k fun e => hnG (e ▸ hk)⟩) (by omega) (fun _ _ h => h) (fun i p h hp => ?_) (fun i j _ _ _ _ _ _ h => h) (fun k hk hg _ hj => ⟨hne k fun e => hj id o hi (e ▸ hb), hg⟩) (fun i p k h hk => ?_)
    · rcases hst i p h with ⟨_, e2⟩ | ⟨hne', h⟩
      · rw [e2, hpl] at hp; cases hp
      · exact ⟨h, rfl, fun _ _ => rfl, fun k hk => hne k fun e => hne' (hm.inj i id p o b h hi (e ▸ hk) hb)⟩
    · rcases hst i p h with ⟨e1, _⟩ | ⟨_, h⟩
      · rw [e1] at hk; exact .inr ⟨id, o, hi, hk⟩
      · exact .inr ⟨i, p, h, hk⟩
  · rcases hst i p h with ⟨rfl, rfl⟩ | ⟨hne', h⟩
    · exact hok
    · exact Obj.ok_mono (fun k hk => ⟨hk, hne k fun e => hnG (e ▸ hk)⟩) (fun k hk => ⟨hne k fun e => hne' (hm.inj i id p o b h hi (e ▸ hk) hb), fun h => h⟩) rfl (fun _ _ => rfl) (hm.ok i p h)
  · rcases hst i p h with ⟨rfl, rfl⟩ | ⟨_, h⟩
    · exact hm.own _ o k hi hk
    · exact hm.own i p k h hk
  · rcases hst i p h1 with ⟨e1, _⟩ | ⟨_, k1⟩ <;> rcases hst j q h2 with ⟨e2, _⟩ | ⟨_, k2⟩
    · rw [e1, e2]
    · rw [e1] at hk1 ⊢; exact hm.inj _ j o q k hi k2 hk1 hk2
    · rw [e2] at hk2 ⊢; exact hm.inj i _ p o k k1 hi hk1 hk2
    · exact hm.inj i j p q k k1 k2 hk1 hk2

theorem putSt_append (st : Nat → Option E.Obj) : ∀ (l l' : List (Nat × Option E.Obj)), putSt st (l ++ l') = putSt (putSt st l) l'
  | [], _ => rfl
  | (i, o) :: l, l' => by simp only [List.cons_append, putSt]; exact putSt_append _ l l'

theorem putSt_kills (st : Nat → Option E.Obj) : ∀ (l : List Nat) (j : Nat), putSt st (kills l) j = if j ∈ l then none else st j
  | [], j => by simp [kills, putSt]
  | i :: l, j => by
    have ih := putSt_kills (fun k => bif k == i then none else st k) l j
    simp only [kills, List.map_cons, putSt] at ih ⊢
    rw [ih]
    by_cases h : j = i
    · subst h; by_cases h2 : j ∈ l <;> simp [h2]
    · have : (j == i) = false := by simpa using h
      by_cases h2 : j ∈ l <;> simp [h2, h, this]

/-- What is read only from now on: the blocks of slices that are given up. -/
def giveG (G : Nat → Prop) (τ : Nat → Gh) (st : Nat → Option E.Obj) (l : List Nat) : Nat → Prop := fun b => G b ∨ ∃ id ∈ l, (∃ n rows, st id = some (.arr n rows)) ∧ (τ id).blk = some b

theorem Mem.give {base : Nat} {X G : Nat → Prop} {τ : Nat → Gh} {st : Nat → Option E.Obj} {w : World} (hm : Mem base X G τ st w) (l : List Nat) :
    Mem base X (giveG G τ st l) τ (putSt st (kills l)) w := by
  have hst : ∀ i o, putSt st (kills l) i = some o → i ∉ l ∧ st i = some o := by
    intro i o h
    rw [putSt_kills] at h
    by_cases hi : i ∈ l
    · simp [hi] at h
    · simp only [hi, if_false] at h; exact ⟨hi, h⟩
  refine ⟨fun b hb => ?_, fun i o h => ?_, fun i o b h hb => hm.own i o b (hst i o h).2 hb, fun i j o p b h1 h2 => hm.inj i j o p b (hst i o h1).2 (hst j p h2).2,
    Sub.step (fun i => i) hm.sub (fun b hb => ⟨.inl hb, rfl⟩) (Nat.le_refl _) (fun _ _ h => h) (fun i o h _ => ⟨(hst i o h).2, rfl, fun _ _ => rfl, fun _ _ => rfl⟩) (fun i j _ _ _ _ _ _ h => h)
      (fun b _ hg _ hj => ⟨rfl, fun hgg => by
        rcases hgg with hgg | ⟨id, _, ⟨n, rows, h⟩, hb⟩
        · exact hg hgg
        · exact hj id _ h hb⟩) (fun i o b h hb => .inr ⟨i, o, (hst i o h).2, hb⟩)⟩
  · rcases hb with hb | ⟨id, _, ⟨n, rows, h⟩, hb⟩
    · exact hm.gold b hb
    · obtain ⟨_, _, h2⟩ := Obj.ok_blk (hm.ok id _ h) hb
      exact lt_of_get h2
  · obtain ⟨hi, h⟩ := hst i o h
    refine Obj.ok_mono (fun b hb => ⟨.inl hb, rfl⟩) (fun b hb => ⟨rfl, fun hg => ?_⟩) rfl (fun _ _ => rfl) (hm.ok i o h)
    rcases hg with hg | ⟨id, hid, ⟨n, rows, hs⟩, hb'⟩
    · exact hg
    · exact absurd (hm.inj i id o _ b h hs hb hb') (fun e => hi (e ▸ hid))

theorem Ext.give {base : Nat} {X G : Nat → Prop} {τ : Nat → Gh} {st : Nat → Option E.Obj} {w : World} (hm : Mem base X G τ st w) (l : List Nat) : Ext base X G w (giveG G τ st l) w :=
  ⟨rfl, rfl, rfl, Nat.le_refl _, fun _ _ _ => rfl, fun _ h => ⟨.inl h, rfl⟩, fun b h => by
    rcases h with h | ⟨id, _, ⟨n, rows, hs⟩, hb⟩
    · exact .inl h
    · rcases hm.own id _ b hs hb with h | h
      · exact .inr (.inr h)
      · exact .inr (.inl h)⟩

/-- An owned slice, given up, reads as its rows. -/
theorem repI_given {base : Nat} {X G : Nat → Prop} {τ : Nat → Gh} {st : Nat → Option E.Obj} {w : World} (hm : Mem base X G τ st w) {l : List Nat} {id n : Nat} {rows : List (List V)} (hid : id ∈ l) (hs : st id = some (.arr n rows)) :
    (V.sl n rows).repI w (giveG G τ st l) (τ id).hdr := by
  have h := hm.ok id _ hs
  simp only [Obj.ok, rowsOk] at h
  obtain ⟨h1, h2, h3⟩ := h
  simp only [V.repI, Gh.hdr, h1]
  refine ⟨_, _, rfl, h2, ?_⟩
  rcases h3 with ⟨e1, e2, e3⟩ | ⟨b, xs, t, fz, e1, e2, e3, e4, e5, e6, e7⟩
  · exact .inl (by have : rows.length = 0 := by omega
                   simpa using this)
  · exact .inr ⟨b, 0, e2, .inr ⟨id, hid, ⟨n, rows, hs⟩, e1⟩, repRows_mono (fun k hk => ⟨.inl hk, rfl⟩) n b rfl 0 rows e7⟩

theorem settle_res {base : Nat} {X G : Nat → Prop} {τ : Nat → Gh} {st : Nat → Option E.Obj} {w : World} (hm : Mem base X G τ st w) (all : List Nat) :
    ∀ {cs : List V} {xs : List Value} {cs' : List V} {l rs : List Nat}, (settle cs).run st = some ((cs', l), rs) → (∀ i ∈ l, i ∈ all) → (∀ x ∈ xs, x.oneCell' = true) → repL w G τ cs xs → repIL w (giveG G τ st all) cs' xs
  | [], [], cs', l, rs, h, _, _, _ => by simp only [settle, T.run, Option.some.injEq, Prod.mk.injEq] at h; rw [← h.1.1]; simp only [repIL]
  | [], _ :: _, _, _, _, _, _, _, hr => by simp only [repL] at hr
  | _ :: _, [], _, _, _, _, _, _, hr => by simp only [repL] at hr
  | c :: cs, x :: xs, cs', l, rs, h, hl, h1x, hr => by
    simp only [repL] at hr
    have hx1 : x.oneCell' = true := h1x x (by simp)
    have hxs : ∀ y ∈ xs, y.oneCell' = true := fun y hy => h1x y (by simp [hy])
    have go : ∀ {d : V} {rs'}, ((settle cs).bind fun r => T.ret (d :: r.1, r.2)).run st = some ((cs', l), rs') → d.repI w G x → repIL w (giveG G τ st all) cs' (x :: xs) := by
      intro d rs' h hd
      obtain ⟨⟨a1, a2⟩, r1, r2, h1, h2, _⟩ := T.run_bind_some h
      simp only [T.run, Option.some.injEq, Prod.mk.injEq] at h2
      obtain ⟨⟨rfl, rfl⟩, rfl⟩ := h2
      simp only [repIL]
      exact ⟨⟨repI_mono (fun b hb => ⟨.inl hb, rfl⟩) _ _ hd, hx1⟩, settle_res hm all h1 hl hxs hr.2⟩
    unfold settle at h
    split at h
    · rename_i id
      simp only [T.run] at h
      split at h
      · simp at h
      · rename_i o ho
        cases o with
        | box cells => simp [T.run] at h
        | blk n rows c => simp [T.run] at h
        | mp k es => simp [T.run] at h
        | nest k hs => simp [T.run] at h
        | arr n rows =>
          simp only at h
          split at h
          · simp at h
          · rename_i p hp
            obtain ⟨⟨a1, a2⟩, r1, r2, h1, h2, _⟩ := T.run_bind_some hp
            simp only [T.run, Option.some.injEq, Prod.mk.injEq] at h2
            obtain ⟨rfl, rfl⟩ := h2
            simp only [Option.some.injEq, Prod.mk.injEq] at h
            obtain ⟨⟨rfl, rfl⟩, _⟩ := h
            simp only [repIL]
            have hx := hr.1
            simp only [V.rep] at hx
            subst hx
            exact ⟨⟨repI_given hm (hl id (by simp)) ho, hx1⟩, settle_res hm all h1 (fun i hi => hl i (by simp [hi])) hxs hr.2⟩
    · exact go h (by simpa only [V.rep] using hr.1)
    · exact go h (by simpa only [V.rep] using hr.1)
    · exact go h (by simpa only [V.rep] using hr.1)
    · simp [T.run] at h

end Go.Proofs.YtinfjnnffmlpmaaGreatDoor.E

/- The engine, part F: making memory: variables, composite values, slices that are written out. -/
namespace Go.Proofs.YtinfjnnffmlpmaaGreatDoor.E
open Go
set_option linter.unusedSimpArgs false

theorem run_v {P : Program} {s : Sem Value} {x : Value} {w w' : World} (h : s.run P w = .ok x w') : (do pure (Next.value (← s)) : Sem Next).run P w = .ok (.value x) w' := by
  simp [h]

theorem run_u {P : Program} {s : Sem Unit} {w w' : World} (h : s.run P w = .ok () w') : (do s; pure Next.skip : Sem Next).run P w = .ok .skip w' := by
  simp [h]

theorem szOf_run {P : Program} {t : TypeId} {n : Nat} (h : szOf P t = some n) (w : World) : (sizeOf t).run P w = .ok n w := by
  unfold szOf at h
  split at h
  · rename_i i hi
    simp only [Option.some.injEq] at h
    subst h
    simp [sizeOf, typeInfo, hi]
  · simp at h

theorem zeroOf_run {P : Program} {t : TypeId} {cs : List V} (h : zeroOf P t = some cs) (w : World) : ∃ z, (zeroValue t).run P w = .ok z w ∧ cs = z.cells.toList.map ofCell ∧ ∀ x ∈ z.cells.toList, x.oneCell' = true := by
  unfold zeroOf at h
  split at h
  · rename_i i hi
    split at h
    · rename_i z hz
      cases hb : z.cells.toList.all Value.oneCell' with
      | false => simp only [hb, cond_false, reduceCtorEq] at h
      | true =>
        simp only [hb, cond_true, Option.some.injEq] at h
        exact ⟨z, by simp [zeroValue, typeInfo, hi, hz], h.symm, List.all_eq_true.1 hb⟩
    · simp at h
  · simp at h

theorem rep_one {w : World} {G : Nat → Prop} {τ : Nat → Gh} {v : V} {x : Value} (h : v.one = true) (hr : v.rep w G τ x) : x.oneCell' = true := by
  cases v with
  | val y => simp only [V.rep, V.repI] at hr; subst hr; cases x <;> first | rfl | simp [V.one] at h
  | nil => simp only [V.rep, V.repI] at hr; subst hr; rfl
  | sl n rows => simp only [V.rep, V.repI] at hr; obtain ⟨a, cap, rfl, _⟩ := hr; rfl
  | own id => simp only [V.rep, Gh.hdr] at hr; subst hr; rfl
  | ptr id n r o => simp only [V.rep] at hr; obtain ⟨b, _, rfl⟩ := hr; rfl
  | vw id n a b => simp only [V.rep, Gh.part] at hr; obtain ⟨_, ad, rfl, _⟩ := hr; rfl
  | mref id => simp only [V.rep] at hr; subst hr; rfl
  | iptr n rows r o => simp only [V.rep] at hr; obtain ⟨b, k, _, _, _, rfl⟩ := hr; rfl
  | clo fn f c => simp only [V.rep] at hr; obtain ⟨xs, ys, rfl, _⟩ := hr; rfl
  | agg cs => simp [V.one] at h
  | tup cs => simp [V.one] at h
  | undef => simp [V.one] at h

theorem repL_one {w : World} {G : Nat → Prop} {τ : Nat → Gh} : ∀ {cs : List V} {xs : List Value}, (∀ c ∈ cs, c.one = true) → repL w G τ cs xs → ∀ x ∈ xs, x.oneCell' = true
  | [], [], _, _, x, hx => by simp at hx
  | [], _ :: _, _, hr, _, _ => by simp only [repL] at hr
  | _ :: _, [], _, _, _, hx => by simp at hx
  | c :: cs, x :: xs, h, hr, y, hy => by
    simp only [repL] at hr
    rcases List.mem_cons.1 hy with rfl | hy
    · exact rep_one (h c (by simp)) hr.1
    · exact repL_one (fun d hd => h d (by simp [hd])) hr.2 y hy

theorem cells_of_one {x : Value} (h : x.oneCell' = true) : x.cells = #[x] := by cases x <;> first | rfl | simp [Value.oneCell'] at h

theorem cells_rep {w : World} {G : Nat → Prop} {τ : Nat → Gh} {v : V} {cs : List V} {x : Value} (h : v.cells = some cs) (hr : v.rep w G τ x) :
    repL w G τ cs x.cells.toList ∧ (∀ y ∈ x.cells.toList, y.oneCell' = true) ∧ (∀ c ∈ cs, c.one = true) ∧ idsL cs = v.ids := by
  unfold V.cells at h
  split at h
  · rename_i ds
    simp only [V.rep] at hr
    obtain ⟨xs, rfl, hr⟩ := hr
    cases ha : ds.all V.one with
    | false => simp [ha] at h
    | true =>
      simp only [ha, cond_true, Option.some.injEq] at h
      subst h
      have h1 : ∀ c ∈ ds, c.one = true := by simpa using ha
      exact ⟨hr, repL_one h1 hr, h1, by simp only [V.ids]⟩
  · cases ho : v.one with
    | false => simp [ho] at h
    | true =>
      simp only [ho, cond_true, Option.some.injEq] at h
      subst h
      have h1 := rep_one ho hr
      rw [cells_of_one h1]
      exact ⟨by simp only [repL]; exact ⟨hr, trivial⟩, by simpa using h1, by simpa using ho, by simp [idsL]⟩

/-- A new variable. -/
theorem box_new {base : Nat} {X G : Nat → Prop} {τ : Nat → Gh} {st : Nat → Option E.Obj} {w : World} {ids : List Nat} {site : Nat} (P : Program) (t : TypeId) (x : Value) {cs : List V} {s : Sem Next}
    (hm : Mem base X G τ st w) (hbase : base ≤ w.heap.size) (hc : Closed ids st) (hs : site ∉ ids) (hcs : ∀ i ∈ idsL cs, i ∈ ids) (hr : repL w G τ cs x.cells.toList)
    (hrun : s.run P w = .ok (.value (.pointer (some ⟨w.heap.size, 0, none⟩))) (w.alloc (.cells x.cells t (0, 0)))) :
    OpRes P base X ids G τ st w s ⟨.ptr site 0 0 0, [(site, some (.box cs))], [], [site]⟩ := by
  refine ⟨_, _, G, setGh τ site ⟨some w.heap.size, none, 0, 0⟩, .inl hrun, ?_, ?_, Ext.alloc hm.gold hbase _, fun i hi => setGh_ne fun e => hs (e ▸ hi)⟩
  · simp only [V.rep, setGh_same]
    exact ⟨_, rfl, by simp⟩
  · refine Mem.new hm hbase hc hs (fun b hb => by simpa using hb.symm) ?_
    simp only [Obj.ok, rowsOk, setGh_same]
    refine ⟨w.heap.size, x.cells, t, (0, 0), rfl, alloc_new w _, fun hg => absurd (hm.gold _ hg) (Nat.lt_irrefl _), fun i _ h => by omega, ?_⟩
    exact repL_mono (fun b hb => ⟨hb, alloc_get w _ b (hm.gold b hb)⟩) cs _ (fun i hi => setGh_ne fun e => hs (e ▸ hcs i hi)) hr

theorem evAlloc_res {P : Program} {base : Nat} {X G : Nat → Prop} {τ : Nat → Gh} {st : Nat → Option E.Obj} {w : World} {ids : List Nat} {site : Nat} {t : TypeId} {e : Eff} {rs : List Nat}
    (hm : Mem base X G τ st w) (hbase : base ≤ w.heap.size) (hc : Closed ids st) (hnew : ∀ i ∈ e.new, i ∉ ids) (h : (evAlloc P site t).run st = some (e, rs)) :
    OpRes P base X ids G τ st w (do pure (Next.value (← Instr.alloc t true (.tuple #[])))) e := by
  unfold evAlloc at h
  split at h
  · rename_i cs hz
    simp only [T.run, Option.some.injEq, Prod.mk.injEq] at h
    obtain ⟨rfl, _⟩ := h
    obtain ⟨z, hz1, rfl, _⟩ := zeroOf_run hz w
    refine box_new P t z hm hbase hc (hnew site (by simp)) ?_ (repL_ofCell _) (run_v ?_)
    · have : ∀ l : List Value, idsL (l.map ofCell) = [] := by
        intro l
        induction l with
        | nil => rfl
        | cons x l ih => simp only [List.map_cons, idsL, ih, List.append_nil]; unfold ofCell; split <;> rfl
      rw [this]; simp
    · simp [Instr.alloc, hz1, newVar, newRow]
  · simp [T.run] at h

theorem evBox_res {P : Program} {base : Nat} {X G : Nat → Prop} {τ : Nat → Gh} {st : Nat → Option E.Obj} {w : World} {ids : List Nat} {site : Nat} {t : TypeId} {v : V} {x : Value} {e : Eff} {rs : List Nat}
    (hm : Mem base X G τ st w) (hbase : base ≤ w.heap.size) (hc : Closed ids st) (hv : v.rep w G τ x) (hi : ∀ i ∈ v.ids, i ∈ ids) (hnew : ∀ i ∈ e.new, i ∉ ids) (h : (evBox site v).run st = some (e, rs)) :
    OpRes P base X ids G τ st w (do pure (Next.value (← Instr.box t x))) e := by
  unfold evBox at h
  split at h
  · rename_i cs hcs
    simp only [T.run, Option.some.injEq, Prod.mk.injEq] at h
    obtain ⟨rfl, _⟩ := h
    obtain ⟨h1, _, _, h4⟩ := cells_rep hcs hv
    refine box_new P t x hm hbase hc (hnew site (by simp)) (by rw [h4]; exact hi) h1 (run_v ?_)
    simp [Instr.box, newVar, newRow]
  · simp [T.run] at h

/-! ### Composite values -/

theorem splice_list {cells cs cells' : List V} {off : Nat} (h : splice cells off cs = some cells') : off + cs.length ≤ cells.length ∧ cells' = cells.take off ++ cs ++ cells.drop (off + cs.length) := by
  unfold splice at h
  cases hb : Nat.ble (off + cs.length) cells.length with
  | false => simp [hb] at h
  | true => simp only [hb, cond_true, Option.some.injEq] at h; exact ⟨Nat.le_of_ble_eq_true hb, h.symm⟩

theorem foldl_set (off : Nat) : ∀ (l : List Value) (k : Nat) (a : Array Value), off + k + l.length ≤ a.size →
    ((l.zipIdx k).foldl (fun cs (p : Value × Nat) => cs.setIfInBounds (off + p.2) p.1) a).toList = a.toList.take (off + k) ++ l ++ a.toList.drop (off + k + l.length)
  | [], k, a, _ => by simp
  | x :: l, k, a, h => by
    simp only [List.length_cons] at h
    simp only [List.zipIdx_cons, List.foldl_cons]
    rw [foldl_set off l (k + 1) (a.setIfInBounds (off + k) x) (by simp; omega)]
    have hk : off + k < a.toList.length := by simp; omega
    simp only [Array.toList_setIfInBounds]
    rw [show off + (k + 1) = off + k + 1 by omega, List.take_succ_eq_append_getElem (by simp; omega), List.take_set_of_le (by omega), List.getElem_set_self, List.drop_set_of_lt (by omega)]
    simp only [List.append_assoc, List.cons_append, List.nil_append, List.length_cons]
    rw [show off + k + (l.length + 1) = off + k + 1 + l.length by omega]

theorem fillV_fill {w : World} {G : Nat → Prop} {τ : Nat → Gh} {place : Nat → Option (Nat × Nat)} : ∀ {parts : List (Nat × V)} {vals : List (Nat × Value)} {cells cells' : List V} {a : Array Value},
    fillV place cells parts = some cells' → vals.map (·.1) = parts.map (·.1) → repL w G τ (parts.map (·.2)) (vals.map (·.2)) → repL w G τ cells a.toList →
    ∃ a', Instr.fill place a vals = some a' ∧ repL w G τ cells' a'.toList
  | [], [], cells, cells', a, h, _, _, hr => by simp only [fillV, Option.some.injEq] at h; subst h; exact ⟨a, rfl, hr⟩
  | [], _ :: _, _, _, _, _, h, _, _ => by simp at h
  | _ :: _, [], _, _, _, _, h, _, _ => by simp at h
  | (i, v) :: parts, (j, x) :: vals, cells, cells', a, h, hk, hp, hr => by
    simp only [List.map_cons, List.cons.injEq] at hk
    obtain ⟨rfl, hk⟩ := hk
    simp only [List.map_cons, repL] at hp
    simp only [fillV] at h
    split at h
    · rename_i off size cs hpl hcs
      cases hsz : cs.length == size with
      | false => simp [hsz] at h
      | true =>
        simp only [hsz, cond_true] at h
        split at h
        · rename_i cells2 hsp
          obtain ⟨h1, h2, _⟩ := cells_rep hcs hp.1
          obtain ⟨h3, rfl⟩ := splice_list hsp
          have hl := repL_length h1
          have hl2 := repL_length hr
          have hs : cs.length = size := by simpa using hsz
          have hxs : x.cells.size = cs.length := by rw [hl]; simp
          have hlt : off + x.cells.size ≤ a.size := by rw [hxs]; simp at hl2; omega
          have ha : ((x.cells.zipIdx.foldl (fun cs (c, k) => cs.setIfInBounds (off + k) c) a)).toList = a.toList.take off ++ x.cells.toList ++ a.toList.drop (off + x.cells.toList.length) := by
            have := foldl_set off x.cells.toList 0 a (by simpa using hlt)
            rw [← Array.foldl_toList, Array.toList_zipIdx]
            simpa using this
          obtain ⟨a', h5, h6⟩ := fillV_fill (parts := parts) (vals := vals) (a := x.cells.zipIdx.foldl (fun cs (c, k) => cs.setIfInBounds (off + k) c) a) h hk hp.2 (by
            rw [ha, ← hl]; exact repL_append (repL_append (repL_take off hr) h1) (repL_drop _ hr))
          refine ⟨a', ?_, h6⟩
          simp only [Instr.fill, hpl]
          rw [if_neg (by simp; constructor <;> omega)]
          exact h5
        · simp at h
    · simp at h

theorem run_mapM_list {P : Program} {w : World} {α β : Type} {f : α → Sem β} {g : α → Option β} (hf : ∀ a b, g a = some b → (f a).run P w = .ok b w) :
    ∀ {l : List α} {r : List β}, allSome g l = some r → (l.mapM f).run P w = .ok r w
  | [], r, h => by simp only [allSome, Option.some.injEq] at h; subst h; rfl
  | a :: l, r, h => by
    simp only [allSome] at h
    cases h1 : g a with
    | none => simp [h1] at h
    | some b => cases h2 : allSome g l with
      | none => simp [h1, h2] at h
      | some bs =>
        simp only [h1, h2, Option.some.injEq] at h
        subst h
        simp [List.mapM_cons, hf a b h1, run_mapM_list hf h2]

theorem run_mapM_array {P : Program} {w : World} {α β : Type} {f : α → Sem β} {g : α → Option β} (hf : ∀ a b, g a = some b → (f a).run P w = .ok b w)
    {l : Array α} {r : List β} (h : allSome g l.toList = some r) : (l.mapM f).run P w = .ok r.toArray w := by
  rw [Array.mapM_eq_mapM_toList]
  simp [run_mapM_list hf h]

theorem parts_rel {w : World} {G : Nat → Prop} {τ : Nat → Gh} {rd : Operand → V} {ρ : Operand → Value} : ∀ (l : List (Nat × Operand)), (∀ p ∈ l, (rd p.2).rep w G τ (ρ p.2)) →
    repL w G τ ((l.map fun p => (p.1, rd p.2)).map (·.2)) ((l.map fun p => (p.1, ρ p.2)).map (·.2))
  | [], _ => by simp only [List.map_nil, repL]
  | p :: l, h => by simp only [List.map_cons, repL]; exact ⟨h p (by simp), parts_rel l fun q hq => h q (by simp [hq])⟩

theorem evBuild_res {P : Program} {base : Nat} {X G : Nat → Prop} {τ : Nat → Gh} {st : Nat → Option E.Obj} {w : World} {ids : List Nat} {rd : Operand → V} {ρ : Operand → Value} {t : TypeId} {parts : Array (Nat × Operand)} {e : Eff} {rs : List Nat}
    (hm : Mem base X G τ st w) (hrd : ∀ p ∈ parts.toList, (rd p.2).rep w G τ (ρ p.2)) (h : (evBuild P rd t parts).run st = some (e, rs)) :
    OpRes P base X ids G τ st w (do pure (Next.value (← Instr.build t (parts.map fun (i, x) => (i, ρ x))))) e := by
  unfold evBuild at h
  split at h
  · rename_i z place hz hpl
    split at h
    · rename_i cs hf
      simp only [T.run, Option.some.injEq, Prod.mk.injEq] at h
      obtain ⟨rfl, _⟩ := h
      obtain ⟨z0, hz1, rfl, _⟩ := zeroOf_run hz w
      obtain ⟨a', h1, h2⟩ := fillV_fill (w := w) (G := G) (τ := τ) (vals := parts.toList.map fun p => (p.1, ρ p.2)) (a := z0.cells) hf (by simp) (parts_rel _ hrd) (repL_ofCell _)
      refine OpRes.pure (x := .agg a') hm (run_v ?_) (by simp only [V.rep]; exact ⟨a', rfl, h2⟩)
      have hparts : (parts.map fun (p : Nat × Operand) => (p.1, ρ p.2)).toList = parts.toList.map fun p => (p.1, ρ p.2) := by simp
      unfold placesOf at hpl
      split at hpl
      · rename_i fields hu
        split at hpl
        · rename_i l hl
          simp only [Option.some.injEq] at hpl
          subst hpl
          have hmm := run_mapM_array (P := P) (w := w) (f := fun (f : Field) => do pure (f.offset, ← sizeOf f.type)) (fun f b hb => by
            split at hb
            · rename_i n hn
              simp only [Option.some.injEq] at hb
              subst hb
              simp [szOf_run hn w]
            · simp at hb) hl
          have hplace : (fun (i : Nat) => l.toArray[i]?) = fun (i : Nat) => l[i]? := by funext i; simp
          simp only [Instr.build, Sem.run_bind, hz1, Result.andThen_ok, run_underlying hu, hmm, hparts, hplace, h1]
          rfl
        · simp at hpl
      · rename_i k e hu
        split at hpl
        · rename_i n hn
          simp only [Option.some.injEq] at hpl
          subst hpl
          simp only [Instr.build, Sem.run_bind, hz1, Result.andThen_ok, run_underlying hu, szOf_run hn w, hparts, h1]
          rfl
        · simp at hpl
      · simp at hpl
    · simp [T.run] at h
  · simp [T.run] at h

end Go.Proofs.YtinfjnnffmlpmaaGreatDoor.E

/- The engine, part Fn (behind F): nested objects: what is inside gets a name, or is taken back. -/
namespace Go.Proofs.YtinfjnnffmlpmaaGreatDoor.E
open Go
set_option linter.unusedSimpArgs false

theorem cell_of_heap {w : World} {b i : Nat} {xs : Array Value} {t : TypeId} {fz : Nat × Nat} (h : w.heap[b]? = some (.cells xs t fz)) : w.cell? ⟨b, i, none⟩ = xs[i]? := by
  simp [World.cell?, h]

theorem innL_length {w : World} {G : Nat → Prop} {τ : Nat → Gh} : ∀ {cs : List Inn} {xs : List Value} {bs : List Nat}, innL w G τ bs cs xs → cs.length = xs.length
  | [], [], _, _ => rfl
  | [], _ :: _, _, h => by simp only [innL] at h
  | _ :: _, [], _, h => by simp only [innL] at h
  | c :: cs, x :: xs, _, h => by
    simp only [innL] at h
    obtain ⟨_, _, _, _, h2⟩ := h
    simp [innL_length h2]

theorem innL_split {w : World} {G : Nat → Prop} {τ : Nat → Gh} : ∀ {cs : List Inn} {xs : List Value} {bs : List Nat} {i : Nat} {c : Inn}, innL w G τ bs cs xs → cs[i]? = some c →
    ∃ b1 b2 b3 x, bs = b1 ++ b2 ++ b3 ∧ xs[i]? = some x ∧ c.at w G τ b2 x ∧ ∀ (c' : Inn) (b2' : List Nat) (x' : Value), c'.at w G τ b2' x' → innL w G τ (b1 ++ b2' ++ b3) (cs.set i c') (xs.set i x')
  | [], _, _, _, _, _, h => by simp at h
  | _ :: _, [], _, _, _, h, _ => by simp only [innL] at h
  | d :: cs, y :: xs, bs, 0, c, h, hc => by
    simp only [innL] at h
    obtain ⟨p1, p2, rfl, h1, h2⟩ := h
    simp only [List.getElem?_cons_zero, Option.some.injEq] at hc
    subst hc
    refine ⟨[], p1, p2, y, by simp, by simp, h1, fun c' b2' x' h' => ?_⟩
    simp only [List.set_cons_zero, List.nil_append, innL]
    exact ⟨b2', p2, rfl, h', h2⟩
  | d :: cs, y :: xs, bs, i + 1, c, h, hc => by
    simp only [innL] at h
    obtain ⟨p1, p2, rfl, h1, h2⟩ := h
    obtain ⟨q1, q2, q3, x, rfl, g1, g2, g3⟩ := innL_split h2 (by simpa using hc)
    refine ⟨p1 ++ q1, q2, q3, x, by simp, by simpa using g1, g2, fun c' b2' x' h' => ?_⟩
    simp only [List.set_cons_succ, innL]
    exact ⟨p1, q1 ++ b2' ++ q3, by simp, h1, g3 c' b2' x' h'⟩

theorem putSt_renest {st : Nat → Option E.Obj} {kl : List Nat} {id : Nat} {o' : E.Obj} {i : Nat} {p : E.Obj} (h : putSt st (kills kl ++ [(id, some o')]) i = some p) : (i = id ∧ p = o') ∨ (i ≠ id ∧ i ∉ kl ∧ st i = some p) := by
  rw [putSt_append] at h
  simp only [putSt] at h
  by_cases hi : i = id
  · subst hi; simp at h; exact .inl ⟨rfl, h.symm⟩
  · have : (i == id) = false := by simpa using hi
    simp only [this, cond_false] at h
    rw [putSt_kills] at h
    by_cases hk : i ∈ kl
    · simp [hk] at h
    · simp only [hk, if_false] at h; exact .inr ⟨hi, hk, h⟩

/-- A nested object becomes another one: some of what it owned it has no more, some objects are its own now. -/
theorem Mem.renest {base : Nat} {X G : Nat → Prop} {τ : Nat → Gh} {st : Nat → Option E.Obj} {w w' : World} {id : Nat} {o o' : E.Obj} {kl bs' : List Nat} {σ : Nat → List Nat}
    (hm : Mem base X G τ st w) (hσ : SubAt base X G τ st w σ) (ho : st id = some o) (hop : o.plain = false) (hop' : o'.plain = false) (hkl : id ∉ kl) (hsz : w'.heap.size = w.heap.size)
    (hne : ∀ k, (τ id).blk ≠ some k → w'.heap[k]? = w.heap[k]?) (hok : o'.ok w' G τ id) (hin : o'.inner w' G τ id bs') (hnd : bs'.Nodup) (hbs : ∀ k ∈ bs', k ∈ σ id ∨ ∃ s ∈ kl, ∃ p, st s = some p ∧ (τ s).blk = some k) :
    Mem base X G τ (putSt st (kills kl ++ [(id, some o')])) w' ∧ SubAt base X G τ (putSt st (kills kl ++ [(id, some o')])) w' (fun j => if j = id then bs' else σ j) := by
  have hnG : ∀ b, (τ id).blk = some b → ¬ G b := fun b hb => (Obj.ok_blk (hm.ok id o ho) hb).1
  have hG : ∀ b, G b → G b ∧ w'.heap[b]? = w.heap[b]? := fun b hb => ⟨hb, hne b fun e => hnG b e hb⟩
  have hsame : ∀ i p b, i ≠ id → st i = some p → (τ i).blk = some b → w'.heap[b]? = w.heap[b]? := fun i p b hi hp hb => hne b fun e => hi (hm.inj i id p o b hp ho hb e)
  have hS : SubAt base X G τ (putSt st (kills kl ++ [(id, some o')])) w' (fun j => if j = id then bs' else σ j) := by
    have hlt : ∀ i p b, st i = some p → (τ i).blk = some b → b < w.heap.size := fun i p b hp hb => lt_of_get (Obj.ok_blk (hm.ok i p hp) hb).2.choose_spec
    have hbs2 : ∀ k ∈ bs', (base ≤ k ∨ X k) ∧ ¬ G k ∧ k < w.heap.size := by
      intro k hk
      rcases hbs k hk with h | ⟨s, _, p, hp, hb⟩
      · exact hσ.own id o k ho hop h
      · exact ⟨hm.own s p k hp hb, (Obj.ok_blk (hm.ok s p hp) hb).1, hlt s p k hp hb⟩
    refine ⟨fun i p h hp => ?_, fun i p b h hp hb => ?_, fun i p b h hp hb j q hj he => ?_, fun i j p q b h1 h2 hp hq hb1 hb2 => ?_⟩
    · rcases putSt_renest h with ⟨rfl, rfl⟩ | ⟨hi, _, h⟩
      · simp only [if_true]; exact ⟨hin, hnd⟩
      · simp only [hi, if_false]
        obtain ⟨k1, k2⟩ := hσ.inner i p h hp
        exact ⟨Obj.inner_mono hG (fun b hb => ⟨hne b fun e => hσ.apart i p b h hp hb id o ho e, fun h => h⟩) rfl (fun b hb => hsame i p b hi h hb) (fun _ _ => rfl) k1, k2⟩
    · rw [hsz]
      rcases putSt_renest h with ⟨rfl, rfl⟩ | ⟨hi, _, h⟩
      · simp only [if_true] at hb; exact hbs2 b hb
      · simp only [hi, if_false] at hb; exact hσ.own i p b h hp hb
    · have hj' : ∃ q', st j = some q' ∧ (j ∉ kl) := by
        rcases putSt_renest hj with ⟨rfl, rfl⟩ | ⟨_, hjk, hj⟩
        · exact ⟨o, ho, hkl⟩
        · exact ⟨q, hj, hjk⟩
      obtain ⟨q', hq', hjk⟩ := hj'
      rcases putSt_renest h with ⟨rfl, rfl⟩ | ⟨hi, _, h⟩
      · simp only [if_true] at hb
        rcases hbs b hb with h' | ⟨s, hs, p', hp', hb'⟩
        · exact hσ.apart i o b ho hop h' j q' hq' he
        · have := hm.inj s j p' q' b hp' hq' hb' he
          exact hjk (this ▸ hs)
      · simp only [hi, if_false] at hb
        exact hσ.apart i p b h hp hb j q' hq' he
    · have key : ∀ {i p}, i ≠ id → st i = some p → p.plain = false → b ∈ σ i → b ∈ bs' → False := by
        intro i p hi h hp hb hb'
        rcases hbs b hb' with h' | ⟨s, hs, p', hp', hb''⟩
        · exact hi (hσ.inj i id p o b h ho hp hop hb h')
        · exact hσ.apart i p b h hp hb s p' hp' hb''
      rcases putSt_renest h1 with ⟨e1, _⟩ | ⟨hi, _, h1⟩ <;> rcases putSt_renest h2 with ⟨e2, _⟩ | ⟨hj, _, h2⟩
      · rw [e1, e2]
      · simp only [e1, if_true] at hb1
        simp only [hj, if_false] at hb2
        exact (key hj h2 hq hb2 hb1).elim
      · simp only [e2, if_true] at hb2
        simp only [hi, if_false] at hb1
        exact (key hi h1 hp hb1 hb2).elim
      · simp only [hi, if_false] at hb1
        simp only [hj, if_false] at hb2
        exact hσ.inj i j p q b h1 h2 hp hq hb1 hb2
  refine ⟨⟨fun k hk => by rw [hsz]; exact hm.gold k hk, fun i p h => ?_, fun i p b h hb => ?_, fun i j p q b h1 h2 hb1 hb2 => ?_, ⟨_, hS⟩⟩, hS⟩
  · rcases putSt_renest h with ⟨rfl, rfl⟩ | ⟨hi, _, h⟩
    · exact hok
    · exact Obj.ok_mono hG (fun b hb => ⟨hsame i p b hi h hb, fun h => h⟩) rfl (fun _ _ => rfl) (hm.ok i p h)
  · rcases putSt_renest h with ⟨rfl, rfl⟩ | ⟨_, _, h⟩
    · exact hm.own i o b ho hb
    · exact hm.own i p b h hb
  · rcases putSt_renest h1 with ⟨e1, _⟩ | ⟨_, _, h1⟩ <;> rcases putSt_renest h2 with ⟨e2, _⟩ | ⟨_, _, h2⟩
    · rw [e1, e2]
    · rw [e1] at hb1 ⊢; exact hm.inj id j o q b ho h2 hb1 hb2
    · rw [e2] at hb2 ⊢; exact hm.inj i id p o b h1 ho hb1 hb2
    · exact hm.inj i j p q b h1 h2 hb1 hb2

/-- A block that nobody owns (any more) gets a name. -/
theorem Mem.adopt {base : Nat} {X G : Nat → Prop} {τ : Nat → Gh} {st : Nat → Option E.Obj} {w : World} {ids : List Nat} {site : Nat} {g : Gh} {o : E.Obj} {σ : Nat → List Nat}
    (hm : Mem base X G τ st w) (hσ : SubAt base X G τ st w σ) (hc : Closed ids st) (hs : site ∉ ids) (hok : o.ok w G (setGh τ site g) site) (hpl : o.plain = true)
    (hg : ∀ b, g.blk = some b → (base ≤ b ∨ X b) ∧ (∀ j p, st j = some p → (τ j).blk ≠ some b) ∧ ∀ j p, st j = some p → p.plain = false → b ∉ σ j) :
    Mem base X G (setGh τ site g) (putSt st [(site, some o)]) w ∧ SubAt base X G (setGh τ site g) (putSt st [(site, some o)]) w σ := by
  have hst : ∀ i p, putSt st [(site, some o)] i = some p → (i = site ∧ p = o) ∨ (i ≠ site ∧ st i = some p) := by
    intro i p h
    simp only [putSt] at h
    by_cases hi : i = site
    · subst hi; simp at h; exact .inl ⟨rfl, h.symm⟩
    · have : (i == site) = false := by simpa using hi
      simp only [this, cond_false] at h; exact .inr ⟨hi, h⟩
  have hids : ∀ i p, st i = some p → ∀ j ∈ idsObj p, setGh τ site g j = τ j := fun i p h j hj => setGh_ne fun e => hs (e ▸ (hc i p h).2 j hj)
  have hnp : ∀ i p, putSt st [(site, some o)] i = some p → p.plain = false → i ≠ site ∧ st i = some p := by
    intro i p h hp
    rcases hst i p h with ⟨_, e⟩ | h
    · rw [e, hpl] at hp; cases hp
    · exact h
  have hS : SubAt base X G (setGh τ site g) (putSt st [(site, some o)]) w σ := by
    refine ⟨fun i p h hp => ?_, fun i p b h hp hb => ?_, fun i p b h hp hb j q hj he => ?_, fun i j p q b h1 h2 hp hq hb1 hb2 => ?_⟩
    · obtain ⟨hi, h⟩ := hnp i p h hp
      obtain ⟨k1, k2⟩ := hσ.inner i p h hp
      exact ⟨Obj.inner_mono (fun b hb => ⟨hb, rfl⟩) (fun _ _ => ⟨rfl, fun h => h⟩) (setGh_ne hi) (fun _ _ => rfl) (hids i p h) k1, k2⟩
    · exact hσ.own i p b (hnp i p h hp).2 hp hb
    · obtain ⟨hi, h'⟩ := hnp i p h hp
      rcases hst j q hj with ⟨ej, _⟩ | ⟨hj', hj⟩
      · rw [ej, setGh_same] at he
        exact (hg b he).2.2 i p h' hp hb
      · rw [setGh_ne hj'] at he
        exact hσ.apart i p b h' hp hb j q hj he
    · exact hσ.inj i j p q b (hnp i p h1 hp).2 (hnp j q h2 hq).2 hp hq hb1 hb2
  refine ⟨⟨hm.gold, fun i p h => ?_, fun i p b h hb => ?_, fun i j p q b h1 h2 hb1 hb2 => ?_, ⟨_, hS⟩⟩, hS⟩
  · rcases hst i p h with ⟨rfl, rfl⟩ | ⟨hi, h⟩
    · exact hok
    · exact Obj.ok_mono (fun b hb => ⟨hb, rfl⟩) (fun _ _ => ⟨rfl, fun h => h⟩) (setGh_ne hi) (hids i p h) (hm.ok i p h)
  · rcases hst i p h with ⟨rfl, _⟩ | ⟨hi, h⟩
    · rw [setGh_same] at hb; exact (hg b hb).1
    · rw [setGh_ne hi] at hb; exact hm.own i p b h hb
  · rcases hst i p h1 with ⟨e1, _⟩ | ⟨hi, k1⟩ <;> rcases hst j q h2 with ⟨e2, _⟩ | ⟨hj, k2⟩
    · rw [e1, e2]
    · rw [e1, setGh_same] at hb1; rw [setGh_ne hj] at hb2
      exact ((hg b hb1).2.1 j q k2 hb2).elim
    · rw [e2, setGh_same] at hb2; rw [setGh_ne hi] at hb1
      exact ((hg b hb2).2.1 i p k1 hb1).elim
    · rw [setGh_ne hi] at hb1; rw [setGh_ne hj] at hb2; exact hm.inj i j p q b k1 k2 hb1 hb2

/-- A slice inside gets a name. -/
theorem Mem.open {base : Nat} {X G : Nat → Prop} {τ : Nat → Gh} {st : Nat → Option E.Obj} {w : World} {ids : List Nat} {id site row n b : Nat} {rows : List Inn} {hs : List Nat} {rs : List (List V)}
    (hm : Mem base X G τ st w) (hc : Closed ids st) (hsite : site ∉ ids) (ho : st id = some (.nest (.arr rows) hs)) (hb : (τ id).blk = some b) (hrow : rows[row]? = some (.sl n rs)) :
    ∃ g : Gh, w.cell? ⟨b, row, none⟩ = some g.hdr ∧ Mem base X G (setGh τ site g) (putSt st [(id, some (.nest (.arr (rows.set row (.hole (.own site)))) (site :: hs))), (site, some (.arr n rs))]) w := by
  obtain ⟨σ, hσ⟩ := hm.sub
  obtain ⟨hin, hnd⟩ := hσ.inner id _ ho rfl
  have hok := hm.ok id _ ho
  simp only [Obj.inner] at hin
  obtain ⟨hids, hin⟩ := hin
  rcases hin with ⟨rfl, _⟩ | ⟨b', xs, t, fz, e1, e2, e3⟩
  · simp at hrow
  rw [hb] at e1; cases e1
  obtain ⟨b1, b2, b3, x, hbs, hx, hat, hset⟩ := innL_split e3 hrow
  simp only [Inn.at] at hat
  obtain ⟨g, rfl, hgl, hgr, hgb⟩ := hat
  have hne : id ≠ site := fun e => hsite (e ▸ (hc id _ ho).1)
  have hrlt : row < rows.length := (List.getElem?_eq_some_iff.1 hrow).1
  have hxs : (xs.toList.take rows.length).set row g.hdr = xs.toList.take rows.length := by
    apply List.ext_getElem?
    intro i
    rw [List.getElem?_set]
    by_cases hi : row = i
    · subst hi
      rw [if_pos rfl, hx]
      rw [if_pos (List.getElem?_eq_some_iff.1 hx).1]
    · rw [if_neg hi]
  rw [hbs] at hnd
  have hnd13 : (b1 ++ b3).Nodup := by
    rw [List.append_assoc] at hnd
    have h1 := List.nodup_append.1 hnd
    have h2 := List.nodup_append.1 h1.2.1
    rw [List.nodup_append]
    exact ⟨h1.1, h2.2.1, fun a ha c hc' => h1.2.2 a ha c (by simp [hc'])⟩
  -- first the place is forgotten
  have o1ok : (E.Obj.nest (.arr (rows.set row (.hole .undef))) hs).ok w G τ id := by
    simp only [Obj.ok, List.length_set] at hok ⊢; exact hok
  have o1in : (E.Obj.nest (.arr (rows.set row (.hole .undef))) hs).inner w G τ id (b1 ++ b3) := by
    simp only [Obj.inner]
    refine ⟨fun c hcm i hi => ?_, .inr ⟨b, xs, t, fz, hb, e2, ?_⟩⟩
    · rcases List.mem_or_eq_of_mem_set hcm with h | rfl
      · exact hids c h i hi
      · simp [Inn.ids, V.ids] at hi
    · have := hset (.hole .undef) [] g.hdr (by simp only [Inn.at, V.rep]; exact ⟨trivial, trivial, rfl⟩)
      rw [hxs] at this
      simpa using this
  obtain ⟨m1, s1⟩ := Mem.renest (kl := []) hm hσ ho rfl rfl (by simp) rfl (fun _ _ => rfl) o1ok o1in hnd13 (fun k hk => .inl (by rw [hbs]; simp at hk ⊢; rcases hk with h | h <;> simp [h]))
  simp only [kills, List.map_nil, List.nil_append] at m1 s1
  have hc1 : Closed ids (putSt st [(id, some (.nest (.arr (rows.set row (.hole .undef))) hs))]) := by
    intro i p h
    rcases putSt_renest (kl := []) h with ⟨rfl, rfl⟩ | ⟨_, _, h⟩
    · exact ⟨(hc i _ ho).1, fun j hj => (hc i _ ho).2 j (by simpa only [idsObj] using hj)⟩
    · exact hc i p h
  -- the slice gets a name
  have o2ok : (E.Obj.arr n rs).ok w G (setGh τ site g) site := by
    simp only [Obj.ok, setGh_same]; exact ⟨hgl, hgr⟩
  have hblk : ∀ k, g.blk = some k → k ∈ σ id := fun k hk => by rw [hbs, hgb, hk]; simp
  obtain ⟨m2, s2⟩ := Mem.adopt m1 s1 hc1 hsite o2ok rfl (fun k hk => ⟨(hσ.own id _ k ho rfl (hblk k hk)).1, fun j p hj => by
      rcases putSt_renest (kl := []) hj with ⟨rfl, rfl⟩ | ⟨_, _, h⟩
      · exact hσ.apart _ _ k ho rfl (hblk k hk) _ _ ho
      · exact hσ.apart _ _ k ho rfl (hblk k hk) _ _ h, fun j p hj hp hin' => by
      by_cases hji : j = id
      · simp only [hji, if_true] at hin'
        rw [hgb, hk] at hnd
        have h3 : (b1 ++ [k] ++ b3).Nodup := hnd
        rw [List.append_assoc, List.nodup_append] at h3
        have h4 := List.nodup_append.1 h3.2.1
        rcases List.mem_append.1 hin' with h | h
        · exact h3.2.2 k h k (by simp) rfl
        · exact h4.2.2 k (by simp) k h rfl
      · simp only [hji, if_false] at hin'
        rcases putSt_renest (kl := []) hj with ⟨e, _⟩ | ⟨_, _, h⟩
        · exact hji e
        · exact hji (hσ.inj j id p _ k h ho hp rfl hin' (hblk k hk))⟩)
  -- and its name stands at the place
  have ho2 : putSt (putSt st [(id, some (.nest (.arr (rows.set row (.hole .undef))) hs))]) [(site, some (.arr n rs))] id = some (.nest (.arr (rows.set row (.hole .undef))) hs) := by
    have : (id == site) = false := by simpa using hne
    simp [putSt, this]
  have hti : setGh τ site g id = τ id := setGh_ne hne
  have hτ : ∀ c ∈ rows, ∀ i ∈ c.ids, setGh τ site g i = τ i := fun c hcm i hi => setGh_ne fun e => hsite (e ▸ (hc id _ ho).2 i (by simpa only [idsObj] using hids c hcm i hi))
  have o3ok : (E.Obj.nest (.arr (rows.set row (.hole (.own site)))) (site :: hs)).ok w G (setGh τ site g) id := by
    simp only [Obj.ok, List.length_set, hti] at hok ⊢; exact hok
  have e3' := innL_mono (τ' := setGh τ site g) (fun b hb => ⟨hb, rfl⟩) (fun _ _ => ⟨rfl, fun h => h⟩) hτ e3
  obtain ⟨p1, p2, p3, x, hps, hx2, hat2, hset2⟩ := innL_split e3' hrow
  have o3in : (E.Obj.nest (.arr (rows.set row (.hole (.own site)))) (site :: hs)).inner w G (setGh τ site g) id (b1 ++ b3) := by
    simp only [Obj.inner, hti]
    refine ⟨fun c hcm i hi => ?_, .inr ⟨b, xs, t, fz, hb, e2, ?_⟩⟩
    · rcases List.mem_or_eq_of_mem_set hcm with h | rfl
      · exact List.mem_cons_of_mem _ (hids c h i hi)
      · simp only [Inn.ids, V.ids] at hi; simpa using Or.inl hi
    · have h0 : innL w G (setGh τ site g) (b1 ++ b3) (rows.set row (.hole .undef)) (xs.toList.take rows.length) := by
        have := o1in
        simp only [Obj.inner] at this
        rcases this.2 with ⟨h, _⟩ | ⟨b', xs', t', fz', k1, k2, k3⟩
        · have h' := congrArg List.length h
          rw [List.length_set] at h'
          simp at h'
          rw [h'] at hrlt
          simp at hrlt
        · rw [hb] at k1; cases k1
          rw [e2] at k2; cases k2
          rw [List.length_set] at k3
          refine innL_mono (fun b hb => ⟨hb, rfl⟩) (fun _ _ => ⟨rfl, fun h => h⟩) (fun c hcm i hi => ?_) k3
          rcases List.mem_or_eq_of_mem_set hcm with h | rfl
          · exact hτ c h i hi
          · simp [Inn.ids, V.ids] at hi
      obtain ⟨q1, q2, q3, y, hq, hy, hyat, hyset⟩ := innL_split (i := row) (c := .hole .undef) h0 (by rw [List.getElem?_set]; simp [hrlt])
      simp only [Inn.at] at hyat
      have hy' : y = g.hdr := by rw [hx] at hy; exact (Option.some.inj hy).symm
      have := hyset (.hole (.own site)) [] y (by simp only [Inn.at, V.rep, setGh_same]; exact ⟨trivial, hy', hyat.2.2⟩)
      rw [List.set_set, hy', hxs] at this
      rw [hyat.1] at hq
      rw [List.length_set, hq]; exact this
  obtain ⟨m3, _⟩ := Mem.renest (kl := []) m2 s2 ho2 rfl rfl (by simp) rfl (fun _ _ => rfl) o3ok o3in hnd13 (fun k hk => .inl (by simpa using hk))
  refine ⟨g, ?_, ?_⟩
  · have h1 : xs.toList[row]? = some g.hdr := by rw [List.getElem?_take] at hx; split at hx <;> simp_all
    rw [cell_of_heap e2]; simpa using h1
  · have heq : putSt (putSt (putSt st [(id, some (.nest (.arr (rows.set row (.hole .undef))) hs))]) [(site, some (.arr n rs))]) (kills [] ++ [(id, some (.nest (.arr (rows.set row (.hole (.own site)))) (site :: hs)))])
        = putSt st [(id, some (.nest (.arr (rows.set row (.hole (.own site)))) (site :: hs))), (site, some (.arr n rs))] := by
      funext j
      simp only [kills, List.map_nil, List.nil_append, putSt]
      by_cases h1 : j = id
      · subst h1
        have : (j == site) = false := by simpa using hne
        simp [this]
      · have h1' : (j == id) = false := by simpa using h1
        simp [h1']
    rw [heq] at m3; exact m3

theorem repI_ids {w : World} {G : Nat → Prop} {v : V} {x : Value} (h : v.repI w G x) : v.ids = [] := by
  cases v <;> first | rfl | (simp only [V.repI] at h)

theorem innL_holes {w : World} {G : Nat → Prop} {τ : Nat → Gh} {f : Nat → Option Value} : ∀ (vs : List V) (xs : List Value) (o : Nat), vs.length = xs.length → (∀ (i : Nat) (x : Value), xs[i]? = some x → f (o + i) = some x) →
    (∀ (i : Nat) (v : V), vs[i]? = some v → ∃ x, f (o + i) = some x ∧ x.oneCell' = true ∧ v.repI w G x) → innL w G τ [] (vs.map .hole) xs
  | [], [], _, _, _, _ => by simp only [List.map_nil, innL]
  | [], _ :: _, _, h, _, _ => by simp at h
  | _ :: _, [], _, h, _, _ => by simp at h
  | v :: vs, x :: xs, o, hl, hf, hv => by
    simp only [List.map_cons, innL]
    refine ⟨[], [], rfl, ?_, innL_holes vs xs (o + 1) (by simpa using hl) (fun i y hy => by rw [show o + 1 + i = o + (i + 1) by omega]; exact hf (i + 1) y (by simpa using hy)) (fun i d hd => by rw [show o + 1 + i = o + (i + 1) by omega]; exact hv (i + 1) d (by simpa using hd))⟩
    obtain ⟨y, h1, h2, h3⟩ := hv 0 v (by simp)
    rw [hf 0 x (by simp)] at h1
    cases h1
    simp only [Inn.at]
    exact ⟨trivial, rep_of_repI h3, h2⟩

/-- A slice of single cells is a nested object without anything inside. -/
theorem Mem.nestify {base : Nat} {X G : Nat → Prop} {τ : Nat → Gh} {st : Nat → Option E.Obj} {w : World} {id : Nat} {vs : List V}
    (hm : Mem base X G τ st w) (ho : st id = some (.arr 1 (vs.map fun v => [v]))) : Mem base X G τ (putSt st [(id, some (.nest (.arr (vs.map .hole)) []))]) w := by
  obtain ⟨σ, hσ⟩ := hm.sub
  have hok := hm.ok id _ ho
  have hcells : ∀ b, (τ id).blk = some b → repRows w G 1 b 0 (vs.map fun v => [v]) := fun b hb => by
    simp only [Obj.ok, rowsOk] at hok
    rcases hok.2.2 with ⟨e1, _⟩ | ⟨b', xs, t, fz, e1, e2, e3, e4, e5, e6, e7⟩
    · rw [hb] at e1; cases e1
    · rw [hb] at e1; cases e1; exact e7
  have hcell : ∀ b, (τ id).blk = some b → ∀ (i : Nat) (v : V), vs[i]? = some v → ∃ x, w.cell? ⟨b, i, none⟩ = some x ∧ x.oneCell' = true ∧ v.repI w G x := by
    intro b hb i v hv
    obtain ⟨_, h2⟩ := repRows_get (hcells b hb) i [v] (by simp [hv])
    simp only [repCells, and_true] at h2
    simpa using h2
  have hst := fun (i : Nat) (p : E.Obj) (h : putSt st [(id, some (.nest (.arr (vs.map .hole)) []))] i = some p) => putSt_renest (kl := []) h
  have hold : ∀ i p, putSt st [(id, some (.nest (.arr (vs.map .hole)) []))] i = some p → ∃ q, st i = some q := by
    intro i p h
    rcases hst i p h with ⟨rfl, _⟩ | ⟨_, _, h⟩
    · exact ⟨_, ho⟩
    · exact ⟨p, h⟩
  refine ⟨hm.gold, fun i p h => ?_, fun i p b h hb => ?_, fun i j p q b h1 h2 hb1 hb2 => ?_, fun i => if i = id then [] else σ i, ⟨fun i p h hp => ?_, fun i p b h hp hb => ?_, fun i p b h hp hb j q hj => ?_, fun i j p q b h1 h2 hp hq hb1 hb2 => ?_⟩⟩
  · rcases hst i p h with ⟨rfl, rfl⟩ | ⟨_, _, h⟩
    · simp only [Obj.ok, rowsOk, List.length_map, List.length_replicate] at hok ⊢
      obtain ⟨h1, h2, h3⟩ := hok
      refine ⟨h1, h2, ?_⟩
      rcases h3 with h3 | ⟨b, xs, t, fz, e1, e2, e3, e4, e5, e6, e7⟩
      · exact .inl h3
      · refine .inr ⟨b, xs, t, fz, e1, e2, e3, e4, e5, e6, repRows_of fun j r hr => ?_⟩
        have hj : j < vs.length := by simpa using (List.getElem?_eq_some_iff.1 hr).1
        rw [List.getElem?_replicate, if_pos hj] at hr
        cases hr
        obtain ⟨x, k1, k2, _⟩ := hcell b e1 j vs[j] (List.getElem?_eq_getElem hj)
        refine ⟨rfl, ?_⟩
        simp only [repCells, V.repI, and_true]
        exact ⟨x, by simpa using k1, k2⟩
    · exact hm.ok i p h
  · obtain ⟨q, hq⟩ := hold i p h
    exact hm.own i q b hq hb
  · obtain ⟨p', hp'⟩ := hold i p h1
    obtain ⟨q', hq'⟩ := hold j q h2
    exact hm.inj i j p' q' b hp' hq' hb1 hb2
  · rcases hst i p h with ⟨rfl, rfl⟩ | ⟨hi, _, h⟩
    · simp only [if_true]
      refine ⟨?_, List.nodup_nil⟩
      simp only [Obj.inner]
      have hids : innIds [] (vs.map Inn.hole) := by
        intro c hc i hi
        obtain ⟨v, hv, rfl⟩ := List.mem_map.1 hc
        obtain ⟨k, hk⟩ := List.getElem?_of_mem hv
        simp only [Obj.ok, rowsOk, List.length_map] at hok
        rcases hok.2.2 with ⟨_, _, e3⟩ | ⟨b, xs, t, fz, e1, _⟩
        · have := (List.getElem?_eq_some_iff.1 hk).1
          omega
        · obtain ⟨x, _, _, k3⟩ := hcell b e1 k v hk
          rw [Inn.ids, repI_ids k3] at hi
          simp at hi
      refine ⟨hids, ?_⟩
      simp only [Obj.ok, rowsOk, List.length_map] at hok
      rcases hok.2.2 with ⟨_, _, e3⟩ | ⟨b, xs, t, fz, e1, e2, e3, e4, e5, e6, e7⟩
      · left
        have : vs.length = 0 := by omega
        simpa using this
      · right
        have hsz : vs.length ≤ xs.size := by omega
        refine ⟨b, xs, t, fz, e1, e3, ?_⟩
        refine innL_holes (f := fun k => w.cell? ⟨b, k, none⟩) vs _ 0 (by simp; omega) (fun k x hx => ?_) (fun k v hv => ?_)
        · simp only [List.length_map] at hx
          rw [List.getElem?_take] at hx
          split at hx
          · rw [cell_of_heap e3]; simpa using hx
          · simp at hx
        · simpa using hcell b e1 k v hv
    · simp only [hi, if_false]; exact hσ.inner i p h hp
  · rcases hst i p h with ⟨rfl, rfl⟩ | ⟨hi, _, h⟩
    · simp at hb
    · simp only [hi, if_false] at hb; exact hσ.own i p b h hp hb
  · rcases hst i p h with ⟨rfl, rfl⟩ | ⟨hi, _, h⟩
    · simp at hb
    · simp only [hi, if_false] at hb
      obtain ⟨q', hq'⟩ := hold j q hj
      exact hσ.apart i p b h hp hb j q' hq'
  · rcases hst i p h1 with ⟨rfl, rfl⟩ | ⟨hi, _, h1⟩
    · simp at hb1
    · rcases hst j q h2 with ⟨rfl, rfl⟩ | ⟨hj, _, h2⟩
      · simp at hb2
      · simp only [hi, if_false] at hb1
        simp only [hj, if_false] at hb2
        exact hσ.inj i j p q b h1 h2 hp hq hb1 hb2

/-- What lies at a place. -/
theorem nest_cell {base : Nat} {X G : Nat → Prop} {τ : Nat → Gh} {st : Nat → Option E.Obj} {w : World} {id row b : Nat} {rows : List Inn} {hs : List Nat} {c : Inn}
    (hm : Mem base X G τ st w) (ho : st id = some (.nest (.arr rows) hs)) (hb : (τ id).blk = some b) (hrow : rows[row]? = some c) : ∃ x b2, w.cell? ⟨b, row, none⟩ = some x ∧ c.at w G τ b2 x := by
  obtain ⟨σ, hσ⟩ := hm.sub
  obtain ⟨hin, _⟩ := hσ.inner id _ ho rfl
  simp only [Obj.inner] at hin
  rcases hin.2 with ⟨rfl, _⟩ | ⟨b', xs, t, fz, e1, e2, e3⟩
  · simp at hrow
  rw [hb] at e1; cases e1
  obtain ⟨b1, b2, b3, x, _, hx, hat, _⟩ := innL_split e3 hrow
  refine ⟨x, b2, ?_, hat⟩
  have h1 : xs.toList[row]? = some x := by rw [List.getElem?_take] at hx; split at hx <;> simp_all
  rw [cell_of_heap e2]; simpa using h1

theorem oneCellT_spec {P : Program} {t : TypeId} (h : oneCellT P t = true) : isAggB P t = some false ∧ szOf P t = some 1 := by
  unfold oneCellT at h
  split at h
  · rename_i h1 h2; exact ⟨h1, h2⟩
  · cases h

end Go.Proofs.YtinfjnnffmlpmaaGreatDoor.E

/- The engine, part G: loads, addresses, fields, indexes, lengths. -/
namespace Go.Proofs.YtinfjnnffmlpmaaGreatDoor.E
open Go
set_option linter.unusedSimpArgs false

theorem add_plain (b o n : Nat) : Addr.add ⟨b, o, none⟩ n = ⟨b, o + n, none⟩ := Addr.add_lit b o n

theorem isAggB_run {P : Program} {t : TypeId} {r : Bool} (h : isAggB P t = some r) (w : World) : (isAgg t).run P w = .ok r w := by
  unfold isAggB at h
  cases hu : P.underlying t with
  | none => simp [hu] at h
  | some d =>
    simp only [hu] at h
    cases d <;> simp only [Option.some.injEq] at h <;> subst h <;> simp [isAgg, run_underlying hu]

theorem takeCells_load {P : Program} {w : World} {G : Nat → Prop} {τ : Nat → Gh} {t : TypeId} {cells : List V} {xs : List Value} {b o off : Nat} {v : V}
    (hr : repL w G τ cells xs) (hx : ∀ i x, xs[i]? = some x → w.cell? ⟨b, o + i, none⟩ = some x) (h : takeCells P t cells off = some v) :
    ∃ x, (loadVar t ⟨b, o + off, none⟩).run P w = .ok x w ∧ v.rep w G τ x := by
  unfold takeCells at h
  split at h
  · rename_i n ha hn
    cases hb : Nat.ble (off + n) cells.length with
    | false => simp [hb] at h
    | true =>
      simp only [hb, cond_true, Option.some.injEq] at h
      subst h
      have hle := Nat.le_of_ble_eq_true hb
      have hl := repL_length hr
      have hlen : ((xs.drop off).take n).length = n := by simp; omega
      refine ⟨.agg ((xs.drop off).take n).toArray, ?_, ?_⟩
      · have hload := run_loadCells_list (P := P) w ⟨b, o + off, none⟩ ((xs.drop off).take n) (fun j y hj => by
          rw [add_plain]
          have hj' : ((xs.drop off).take n)[j]? = some y := hj
          rw [List.getElem?_take] at hj'
          split at hj'
          · rw [List.getElem?_drop] at hj'
            have := hx (off + j) y hj'
            rwa [show o + off + j = o + (off + j) by omega]
          · simp at hj')
        rw [hlen] at hload
        simp only [loadVar, Sem.run_bind, isAggB_run ha w, Result.andThen_ok, if_true, szOf_run hn w, hload]
        rfl
      · simp only [V.rep]
        exact ⟨_, rfl, by simpa using repL_take n (repL_drop off hr)⟩
  · rename_i ha _
    obtain ⟨x, h1, h2⟩ := repL_get hr off v h
    refine ⟨x, ?_, h2⟩
    have hc := hx off x h1
    simp only [loadVar, Sem.run_bind, isAggB_run ha w, Result.andThen_ok]
    simp [hc]
  · simp at h

theorem rowOf_res {st : Nat → Option E.Obj} {ans : List Ans} {rows : List (List V)} {row : Nat} {cs : List V} {ps : List Prop} {rs : List Nat} (h : (rowOf ans rows row).run st = some ((cs, ps), rs)) (hp : ∀ p ∈ ps, p) :
    rows[row]? = some cs := by
  unfold rowOf at h
  split at h
  · simp only [T.run, Option.some.injEq, Prod.mk.injEq] at h
    obtain ⟨⟨rfl, rfl⟩, _⟩ := h
    exact hp _ (by simp)
  · split at h
    · rename_i c hc
      simp only [T.run, Option.some.injEq, Prod.mk.injEq] at h
      obtain ⟨⟨rfl, rfl⟩, _⟩ := h
      exact hc
    · simp [T.run] at h

theorem run_ask {α : Type} {st : Nat → Option E.Obj} {id : Nat} {k : E.Obj → T α} {a : α} {rs : List Nat} (h : (T.ask id k).run st = some (a, rs)) : ∃ o r, st id = some o ∧ (k o).run st = some (a, r) ∧ rs = id :: r := by
  simp only [T.run] at h
  cases ho : st id with
  | none => simp [ho] at h
  | some o =>
    simp only [ho] at h
    cases hk : (k o).run st with
    | none => simp [hk] at h
    | some p =>
      obtain ⟨c, r⟩ := p
      simp only [hk, Option.some.injEq, Prod.mk.injEq] at h
      exact ⟨o, r, rfl, by rw [← h.1]; exact hk, h.2.symm⟩

/-- A box's cells, a row's cells, as they lie. -/
theorem box_cells {w : World} {G : Nat → Prop} {τ : Nat → Gh} {id b : Nat} {cells : List V} (h : (E.Obj.box cells).ok w G τ id) (hb : (τ id).blk = some b) :
    ∃ xs : List Value, repL w G τ cells xs ∧ ∀ i x, xs[i]? = some x → w.cell? ⟨b, 0 + i, none⟩ = some x := by
  simp only [Obj.ok, rowsOk] at h
  obtain ⟨b', xs, t, fz, h1, h2, _, _, h5⟩ := h
  rw [hb] at h1; cases h1
  exact ⟨xs.toList, h5, fun i x hx => by rw [cell_of_heap h2]; simpa using hx⟩

theorem arr_rows {w : World} {G : Nat → Prop} {τ : Nat → Gh} {id b n : Nat} {rows : List (List V)} (h : (E.Obj.arr n rows).ok w G τ id) (hb : (τ id).blk = some b) : repRows w G n b 0 rows := by
  simp only [Obj.ok, rowsOk] at h
  rcases h.2.2 with ⟨e, _⟩ | ⟨b', xs, t, fz, e1, _, _, _, _, _, e7⟩
  · rw [hb] at e; cases e
  · rw [hb] at e1; cases e1; exact e7

theorem row_cells {w : World} {G : Nat → Prop} {τ : Nat → Gh} {b o row n : Nat} {rows : List (List V)} {cs : List V} (h : repRows w G n b o rows) (hr : rows[row]? = some cs) :
    ∃ xs : List Value, repL w G τ cs xs ∧ ∀ i x, xs[i]? = some x → w.cell? ⟨b, o + row * n + i, none⟩ = some x := by
  obtain ⟨h1, h2⟩ := repRows_get h row cs hr
  obtain ⟨xs, h3, h4⟩ := repCells_get h2
  exact ⟨xs, repL_of_repIL h3, h4⟩

theorem cstAns_spec {ans : List Ans} {id row off : Nat} {c : V} (h : cstAns ans id row off = some c) : row = 0 ∧ Ans.cst id off c ∈ ans := by
  unfold cstAns at h
  split at h
  · rename_i i o c' l
    cases hb : row == 0 && (i == id && o == off) with
    | false => simp [hb] at h
    | true =>
      simp only [hb, cond_true, Option.some.injEq] at h
      simp only [Bool.and_eq_true, beq_iff_eq] at hb
      obtain ⟨h1, h2, h3⟩ := hb
      exact ⟨h1, by rw [← h, ← h2, ← h3]; simp⟩
  · simp at h

theorem evLoad_res {P : Program} {base site : Nat} {X G : Nat → Prop} {τ : Nat → Gh} {st : Nat → Option E.Obj} {w : World} {ids : List Nat} {ans : List Ans} {t : TypeId} {a : V} {x : Value} {e : Eff} {rs : List Nat}
    (hm : Mem base X G τ st w) (hc : Closed ids st) (hnew : ∀ i ∈ e.new, i ∉ ids) (hcl : ∀ i o c, Ans.cst i o c ∈ ans → cellIs (st i) o c) (ha : a.rep w G τ x) (h : (evLoad P site ans t a).run st = some (e, rs)) (hp : ∀ p ∈ e.obs, p) :
    OpRes P base X ids G τ st w (do pure (Next.value (← Instr.loadAt t x))) e := by
  have fin : ∀ {cells : List V} {b o off : Nat} {v : V} {obs : List Prop}, (∃ xs : List Value, repL w G τ cells xs ∧ ∀ i y, xs[i]? = some y → w.cell? ⟨b, o + i, none⟩ = some y) → takeCells P t cells off = some v →
      x = .pointer (some ⟨b, o + off, none⟩) → OpRes P base X ids G τ st w (do pure (Next.value (← Instr.loadAt t x))) ⟨v, [], obs, []⟩ := by
    rintro cells b o off v obs ⟨xs, h1, h2⟩ ht rfl
    obtain ⟨y, h3, h4⟩ := takeCells_load h1 h2 ht
    exact OpRes.pure hm (run_v (by simp [Instr.loadAt, Instr.sureAddr, h3])) h4
  unfold evLoad at h
  split at h
  · rename_i id n row off
    simp only [V.rep] at ha
    obtain ⟨b, hb, hx⟩ := ha
    split at h
    · rename_i c hcst
      cases hoc : oneCellT P t with
      | false => simp [hoc, T.run] at h
      | true =>
        simp only [hoc, cond_true, T.run, Option.some.injEq, Prod.mk.injEq] at h
        obtain ⟨rfl, _⟩ := h
        obtain ⟨t1, t2⟩ := oneCellT_spec hoc
        obtain ⟨hrow, hmem⟩ := cstAns_spec hcst
        subst hrow
        have hcell := hcl id off c hmem
        unfold cellIs at hcell
        split at hcell
        · rename_i cells ho
          have hcc : cells[off]? = some c := hcell
          exact fin (box_cells (hm.ok id _ ho) hb) (by simp only [takeCells, t1, t2]; exact hcc) (by rw [hx]; simp)
        · exact hcell.elim
    obtain ⟨o, r, ho, hh, _⟩ := run_ask h
    clear h
    have h := hh
    clear hh
    have hok := hm.ok id o ho
    split at h
    · rename_i cells
      cases hz : row == 0 with
      | false => simp [hz, T.run] at h
      | true =>
        simp only [hz, cond_true] at h
        split at h
        · rename_i v hv
          simp only [T.run, Option.some.injEq, Prod.mk.injEq] at h
          obtain ⟨rfl, _⟩ := h
          have : row = 0 := by simpa using hz
          subst this
          exact fin (box_cells hok hb) hv (by rw [hx]; simp)
        · simp [T.run] at h
    · rename_i m rows
      cases hn : m == n with
      | false => simp [hn, T.run] at h
      | true =>
        simp only [hn, cond_true] at h
        obtain ⟨⟨cs, ps⟩, r1, r2, h1, h2, _⟩ := T.run_bind_some h
        have hmn : m = n := by simpa using hn
        subst hmn
        split at h2
        · rename_i v hv
          simp only [T.run, Option.some.injEq, Prod.mk.injEq] at h2
          obtain ⟨rfl, _⟩ := h2
          exact fin (row_cells (τ := τ) (arr_rows hok hb) (rowOf_res h1 hp)) hv (by rw [hx]; simp)
        · simp [T.run] at h2
    · simp [T.run] at h
    · simp [T.run] at h
    · rename_i rows hs
      cases hcd : n == 1 && (off == 0 && oneCellT P t) with
      | false => simp [hcd, T.run] at h
      | true =>
        simp only [hcd, cond_true] at h
        simp only [Bool.and_eq_true, beq_iff_eq] at hcd
        obtain ⟨rfl, rfl, hoc⟩ := hcd
        obtain ⟨t1, t2⟩ := oneCellT_spec hoc
        have htk : ∀ y : Value, takeCells P t [.val y] 0 = some (.val y) := fun y => by simp [takeCells, t1, t2]
        have load : ∀ y : Value, w.cell? ⟨b, row, none⟩ = some y → (do pure (Next.value (← Instr.loadAt t x)) : Sem Next).run P w = .ok (.value y) w := by
          intro y hy
          obtain ⟨z, h3, h4⟩ := takeCells_load (G := G) (τ := τ) (cells := [.val y]) (xs := [y]) (b := b) (o := row) (by simp only [repL, V.rep, V.repI]; exact ⟨trivial, trivial⟩) (fun i q hq => by
            cases i with
            | zero => simp only [List.getElem?_cons_zero, Option.some.injEq] at hq; rw [← hq]; simpa using hy
            | succ i => simp at hq) (htk y)
          simp only [V.rep, V.repI] at h4
          rw [hx, Nat.mul_one, Nat.add_zero]
          rw [h4] at h3
          exact run_v (by simpa [Instr.loadAt, Instr.sureAddr] using h3)
        unfold loadInn at h
        split at h
        · simp only [T.run, Option.some.injEq, Prod.mk.injEq] at h
          obtain ⟨rfl, _⟩ := h
          have hrow := hp _ (List.mem_singleton.2 rfl)
          obtain ⟨y, b2, hy, hat⟩ := nest_cell hm ho hb hrow
          simp only [Inn.at] at hat
          exact OpRes.pure hm (load y hy) hat.2.1
        · simp only [T.run, Option.some.injEq, Prod.mk.injEq] at h
          obtain ⟨rfl, _⟩ := h
          have hsite : site ∉ ids := hnew site (by simp)
          have hrow := hp _ (List.mem_singleton.2 rfl)
          obtain ⟨g, hy, hmem⟩ := Mem.open hm hc hsite ho hb hrow
          exact ⟨g.hdr, w, G, setGh τ site g, .inl (load _ hy), by simp only [V.rep, setGh_same], hmem, Ext.refl _ _ _ _, fun i hi => setGh_ne fun e => hsite (e ▸ hi)⟩
        · simp [T.run] at h
    · simp [T.run] at h
  · rename_i n rows row off
    simp only [V.rep] at ha
    obtain ⟨b, o, _, hrr, _, hx⟩ := ha
    obtain ⟨⟨cs, ps⟩, r1, r2, h1, h2, _⟩ := T.run_bind_some h
    split at h2
    · rename_i v hv
      simp only [T.run, Option.some.injEq, Prod.mk.injEq] at h2
      obtain ⟨rfl, _⟩ := h2
      exact fin (row_cells (τ := τ) hrr (rowOf_res h1 hp)) hv hx
    · simp [T.run] at h2
  · simp [T.run] at h

theorem evFieldAddr_res {P : Program} {base : Nat} {X G : Nat → Prop} {τ : Nat → Gh} {st : Nat → Option E.Obj} {w : World} {ids : List Nat} {t : TypeId} {f : Nat} {a : V} {x : Value} {e : Eff} {rs : List Nat}
    (hm : Mem base X G τ st w) (ha : a.rep w G τ x) (h : (evFieldAddr P t a f).run st = some (e, rs)) :
    OpRes P base X ids G τ st w (do pure (Next.value (← Instr.fieldAt t x f))) e := by
  unfold evFieldAddr at h
  split at h
  · rename_i fields hu
    split at h
    · rename_i fd hfd
      split at h
      · rename_i n hn
        cases hz : n == 0 with
        | true => simp [hz, T.run] at h
        | false =>
          simp only [hz, cond_false] at h
          have hn0 : n ≠ 0 := by simpa using hz
          have run : ∀ b o, x = .pointer (some ⟨b, o, none⟩) → (Instr.fieldAt t x f).run P w = .ok (.pointer (some ⟨b, o + fd.offset, none⟩)) w := by
            rintro b o rfl
            simp only [Instr.fieldAt, Sem.run_bind, run_underlying hu, Result.andThen_ok, hfd, Instr.sureAddr, Sem.run_pure, fieldPlace, szOf_run hn w, if_neg hn0, add_plain]
          split at h
          · rename_i id m row off
            simp only [T.run, Option.some.injEq, Prod.mk.injEq] at h
            obtain ⟨rfl, _⟩ := h
            simp only [V.rep] at ha
            obtain ⟨b, hb, hx⟩ := ha
            exact OpRes.pure hm (run_v (run _ _ hx)) (by simp only [V.rep]; exact ⟨b, hb, by simp [Nat.add_assoc]⟩)
          · rename_i m rows row off
            simp only [T.run, Option.some.injEq, Prod.mk.injEq] at h
            obtain ⟨rfl, _⟩ := h
            simp only [V.rep] at ha
            obtain ⟨b, o, h1, h2, h3, hx⟩ := ha
            exact OpRes.pure hm (run_v (run _ _ hx)) (by simp only [V.rep]; exact ⟨b, o, h1, h2, h3, by simp [Nat.add_assoc]⟩)
          · simp [T.run] at h
      · simp [T.run] at h
    · simp [T.run] at h
  · simp [T.run] at h

theorem takeCells_part {P : Program} {w : World} {G : Nat → Prop} {τ : Nat → Gh} {t : TypeId} {cells : List V} {xs : Array Value} {off : Nat} {v : V} (hr : repL w G τ cells xs.toList) (h : takeCells P t cells off = some v) :
    ∃ x, (part t xs off).run P w = .ok x w ∧ v.rep w G τ x := by
  unfold takeCells at h
  split at h
  · rename_i n ha hn
    cases hb : Nat.ble (off + n) cells.length with
    | false => simp [hb] at h
    | true =>
      simp only [hb, cond_true, Option.some.injEq] at h
      subst h
      refine ⟨.agg (xs.extract off (off + n)), ?_, ?_⟩
      · simp only [part, Sem.run_bind, isAggB_run ha w, Result.andThen_ok, if_true, szOf_run hn w]
        rfl
      · simp only [V.rep]
        refine ⟨_, rfl, ?_⟩
        have := repL_take n (repL_drop off hr)
        simpa [List.extract_eq_take_drop] using this
  · rename_i ha _
    obtain ⟨x, h1, h2⟩ := repL_get hr off v h
    refine ⟨x, ?_, h2⟩
    have h3 : xs[off]? = some x := by simpa using h1
    simp only [part, Sem.run_bind, isAggB_run ha w, Result.andThen_ok, h3]
    rfl
  · simp at h

theorem evField_res {P : Program} {base : Nat} {X G : Nat → Prop} {τ : Nat → Gh} {st : Nat → Option E.Obj} {w : World} {ids : List Nat} {t : TypeId} {f : Nat} {a : V} {x : Value} {e : Eff} {rs : List Nat}
    (hm : Mem base X G τ st w) (ha : a.rep w G τ x) (h : (evField P t a f).run st = some (e, rs)) :
    OpRes P base X ids G τ st w (do pure (Next.value (← Instr.field t x f))) e := by
  unfold evField at h
  split at h
  · rename_i fields hu
    split at h
    · rename_i fd hfd
      split at h
      · rename_i cs
        split at h
        · rename_i v hv
          simp only [T.run, Option.some.injEq, Prod.mk.injEq] at h
          obtain ⟨rfl, _⟩ := h
          simp only [V.rep] at ha
          obtain ⟨xs, rfl, hr⟩ := ha
          obtain ⟨y, h1, h2⟩ := takeCells_part hr hv
          refine OpRes.pure hm (run_v ?_) h2
          simp only [Instr.field, Sem.run_bind, run_underlying hu, Result.andThen_ok, hfd, asAgg, Sem.run_pure, h1]
        · simp [T.run] at h
      · simp [T.run] at h
    · simp [T.run] at h
  · simp [T.run] at h

theorem litOf_res {st : Nat → Option E.Obj} {ans : List Ans} {i : Int} {n : Nat} {ps : List Prop} {rs : List Nat} (h : (litOf ans i).run st = some ((n, ps), rs)) (hp : ∀ p ∈ ps, p) : i = (n : Int) := by
  unfold litOf at h
  split at h
  · simp only [T.run, Option.some.injEq, Prod.mk.injEq] at h
    obtain ⟨⟨rfl, rfl⟩, _⟩ := h
    exact hp _ (by simp)
  · split at h
    · simp only [T.run, Option.some.injEq, Prod.mk.injEq] at h
      obtain ⟨⟨rfl, rfl⟩, _⟩ := h
      rfl
    · simp [T.run] at h

theorem evIndexAddr_res {P : Program} {base : Nat} {X G : Nat → Prop} {τ : Nat → Gh} {st : Nat → Option E.Obj} {w : World} {ids : List Nat} {ans : List Ans} {t : TypeId} {a i : V} {x y : Value} {e : Eff} {rs : List Nat}
    (hm : Mem base X G τ st w) (ha : a.rep w G τ x) (hi : i.rep w G τ y) (h : (evIndexAddr P ans t a i).run st = some (e, rs)) (hp : ∀ p ∈ e.obs, p) :
    OpRes P base X ids G τ st w (do pure (Next.value (← Instr.indexAt t x y))) e := by
  unfold evIndexAddr at h
  split at h
  · rename_i len el hu
    split at h
    · rename_i n k j hn
      simp only [V.rep, V.repI] at hi
      subst hi
      obtain ⟨⟨q, ps⟩, r1, r2, h1, h2, _⟩ := T.run_bind_some h
      cases hlt : Nat.blt q len with
      | false => simp [hlt, T.run] at h2
      | true =>
        simp only [hlt, cond_true] at h2
        have hlt' : q < len := by simpa [Nat.blt_eq] using hlt
        have run : j = (q : Int) → ∀ b o, x = .pointer (some ⟨b, o, none⟩) → (Instr.indexAt t x (.int k j)).run P w = .ok (.pointer (some ⟨b, o + q * n, none⟩)) w := by
          rintro rfl b o rfl
          simp only [Instr.indexAt, Sem.run_bind, asIntOf, Sem.run_pure, Result.andThen_ok, run_underlying hu, Instr.sureAddr, szOf_run hn w, Int.toNat_natCast, add_plain]
          rw [if_pos (by constructor <;> omega)]
          simp [szOf_run hn w, add_plain]
        split at h2
        · simp only [T.run, Option.some.injEq, Prod.mk.injEq] at h2
          obtain ⟨rfl, _⟩ := h2
          simp only [V.rep] at ha
          obtain ⟨b, hb, hx⟩ := ha
          exact OpRes.pure hm (run_v (run (litOf_res h1 hp) _ _ hx)) (by simp only [V.rep]; exact ⟨b, hb, by simp [Nat.add_assoc]⟩)
        · simp only [T.run, Option.some.injEq, Prod.mk.injEq] at h2
          obtain ⟨rfl, _⟩ := h2
          simp only [V.rep] at ha
          obtain ⟨b, o, g1, g2, g3, hx⟩ := ha
          exact OpRes.pure hm (run_v (run (litOf_res h1 hp) _ _ hx)) (by simp only [V.rep]; exact ⟨b, o, g1, g2, g3, by simp [Nat.add_assoc]⟩)
        · simp [T.run] at h2
    · simp [T.run] at h
  · rename_i el hu
    split at h
    · rename_i n k j hn
      simp only [V.rep, V.repI] at hi
      subst hi
      cases hz : n == 0 with
      | true => simp [hz, T.run] at h
      | false =>
        simp only [hz, cond_false] at h
        have run : ∀ (len cap : Nat) (b o : Nat), 0 ≤ j → j < (len : Int) → x = .slice (some ⟨b, o, none⟩) len cap → (Instr.indexAt t x (.int k j)).run P w = .ok (.pointer (some ⟨b, o + j.toNat * n, none⟩)) w := by
          rintro len cap b o h1 h2 rfl
          simp only [Instr.indexAt, Sem.run_bind, asIntOf, Sem.run_pure, Result.andThen_ok, run_underlying hu]
          rw [if_pos ⟨h1, h2⟩]
          simp [szOf_run hn w, add_plain]
        split at h
        · rename_i m rows
          cases hmn : m == n with
          | false => simp [hmn, T.run] at h
          | true =>
            simp only [hmn, cond_true, T.run, Option.some.injEq, Prod.mk.injEq] at h
            obtain ⟨rfl, _⟩ := h
            have hmn' : m = n := by simpa using hmn
            subst hmn'
            have h0 : 0 ≤ j := hp _ (by simp)
            have h1 : j < (rows.length : Int) := hp _ (by simp)
            simp only [V.rep, V.repI] at ha
            obtain ⟨ad, cap, hx, hle, hr⟩ := ha
            rcases hr with hr | ⟨b, o, rfl, hg, hrr⟩
            · subst hr; simp at h1; omega
            · exact OpRes.pure hm (run_v (run _ _ _ _ h0 h1 hx)) (by simp only [V.rep]; exact ⟨b, o, hg, hrr, by omega, by simp⟩)
        · rename_i id
          obtain ⟨o, r, ho, h, _⟩ := run_ask h
          split at h
          · rename_i m rows
            cases hmn : m == n with
            | false => simp [hmn, T.run] at h
            | true =>
              simp only [hmn, cond_true, T.run, Option.some.injEq, Prod.mk.injEq] at h
              obtain ⟨rfl, _⟩ := h
              have h0 : 0 ≤ j := hp _ (by simp)
              have h1 : j < (rows.length : Int) := hp _ (by simp)
              simp only [V.rep, Gh.hdr] at ha
              have hok := hm.ok id _ ho
              simp only [Obj.ok, rowsOk] at hok
              obtain ⟨e1, e2, hok⟩ := hok
              rcases hok with ⟨_, _, e3⟩ | ⟨b, xs, ty, fz, e3, e4, _⟩
              · omega
              · rw [e4, e1] at ha
                exact OpRes.pure hm (run_v (run _ _ _ _ h0 h1 ha)) (by simp only [V.rep]; exact ⟨b, e3, by simp⟩)
          · simp [T.run] at h
        · rename_i id m p q
          cases hmn : m == n with
          | false => simp [hmn, T.run] at h
          | true =>
            simp only [hmn, cond_true, T.run, Option.some.injEq, Prod.mk.injEq] at h
            obtain ⟨rfl, _⟩ := h
            have hmn' : m = n := by simpa using hmn
            subst hmn'
            have h0 : 0 ≤ j := hp _ (by simp)
            have h1 : j < ((q - p : Nat) : Int) := hp _ (by simp)
            simp only [V.rep, Gh.part, Gh.fit] at ha
            obtain ⟨hfit, ad, hx, q1, q2, q3⟩ := ha
            rcases hfit with hfit | ⟨b, f1, f2⟩
            · omega
            rcases q3 with q3 | q3
            · rw [f2, Option.map_some, add_plain] at q3
              rw [q3] at hx
              refine OpRes.pure hm (run_v (run _ _ _ _ h0 h1 hx)) (by simp only [V.rep]; exact ⟨b, f1, by rw [Nat.add_mul]; simp⟩)
            · omega
        · simp [T.run] at h
    · simp [T.run] at h
  · simp [T.run] at h

theorem evIndex_res {P : Program} {base : Nat} {X G : Nat → Prop} {τ : Nat → Gh} {st : Nat → Option E.Obj} {w : World} {ids : List Nat} {ans : List Ans} {t : TypeId} {a i : V} {x y : Value} {e : Eff} {rs : List Nat}
    (hm : Mem base X G τ st w) (ha : a.rep w G τ x) (hi : i.rep w G τ y) (h : (evIndex P ans t a i).run st = some (e, rs)) (hp : ∀ p ∈ e.obs, p) :
    OpRes P base X ids G τ st w (do pure (Next.value (← Instr.index t x y))) e := by
  unfold evIndex at h
  split at h
  · rename_i len el k j hu
    simp only [V.rep, V.repI] at hi
    subst hi
    split at h
    · rename_i n cs hn
      obtain ⟨⟨q, ps⟩, r1, r2, h1, h2, _⟩ := T.run_bind_some h
      cases hlt : Nat.blt q len with
      | false => simp [hlt, T.run] at h2
      | true =>
        simp only [hlt, cond_true] at h2
        have hlt' : q < len := by simpa [Nat.blt_eq] using hlt
        split at h2
        · rename_i v hv
          simp only [T.run, Option.some.injEq, Prod.mk.injEq] at h2
          obtain ⟨rfl, _⟩ := h2
          have hj := litOf_res h1 hp
          subst hj
          simp only [V.rep] at ha
          obtain ⟨xs, rfl, hr⟩ := ha
          obtain ⟨z, h3, h4⟩ := takeCells_part hr hv
          refine OpRes.pure hm (run_v ?_) h4
          simp only [Instr.index, Sem.run_bind, asIntOf, Sem.run_pure, Result.andThen_ok, run_underlying hu]
          rw [if_pos (by constructor <;> omega)]
          simp only [Sem.run_bind, szOf_run hn w, Result.andThen_ok, Int.toNat_natCast, h3]
        · simp [T.run] at h2
    · simp [T.run] at h
  · rename_i k j hu
    simp only [V.rep, V.repI] at hi
    subst hi
    split at h
    · rename_i s
      simp only [T.run, Option.some.injEq, Prod.mk.injEq] at h
      obtain ⟨rfl, _⟩ := h
      have h0 : 0 ≤ j := hp _ (by simp)
      have h1 : j < (s.size : Int) := hp _ (by simp)
      simp only [V.rep, V.repI] at ha
      subst ha
      have hlt : j.toNat < s.size := by omega
      have hget : s[j.toNat]? = some (s.data.getD j.toNat 0) := by
        have : s.data.size = s.size := rfl
        simp [getElem?_def, hlt, Array.getD, ByteArray.getElem_eq_getElem_data, this]
      refine OpRes.pure hm (run_v (x := .int .u8 (s.data.getD j.toNat 0).toNat) ?_) (by simp only [V.rep, V.repI])
      simp only [Instr.index, Sem.run_bind, asIntOf, Sem.run_pure, Result.andThen_ok, run_underlying hu, if_pos h0, hget]
    · simp [T.run] at h
  · simp [T.run] at h

end Go.Proofs.YtinfjnnffmlpmaaGreatDoor.E

/- The engine, part H: stores. -/
namespace Go.Proofs.YtinfjnnffmlpmaaGreatDoor.E
open Go
set_option linter.unusedSimpArgs false

theorem run_storeCells_free (P : Program) (g o : Nat) (t : TypeId) (fz : Nat × Nat) : ∀ (vs : List Value) (i : Nat) (cur : Array Value) (w : World), w.heap[g]? = some (.cells cur t fz) → Free fz cur.size → o + i + vs.length ≤ cur.size → (∀ v ∈ vs, v.oneCell' = true) →
    (storeCells ⟨g, o, none⟩ vs i).run P w = .ok () (w.setRow g (cur.toList.take (o + i) ++ vs ++ cur.toList.drop (o + i + vs.length)).toArray)
  | [], i, cur, w, hg, _, _, _ => by
    simp only [storeCells, List.append_nil, List.length_nil, Nat.add_zero, List.take_append_drop, Array.toArray_toList]
    rw [setRow_self w g cur t fz hg]
    rfl
  | v :: rest, i, cur, w, hg, hfz, hl, h1 => by
    have hi : o + i < cur.size := by simp at hl; omega
    have hcell : w.cell? ⟨g, o + i, none⟩ = some cur[o + i] := by simp [World.cell?, hg, hi]
    have hfro : w.frozen? ⟨g, o + i, none⟩ = false := by
      have := hfz (o + i) hi
      simp only [World.frozen?, hg]
      rw [Bool.and_eq_false_iff, decide_eq_false_iff_not, decide_eq_false_iff_not]
      by_cases h : fz.1 ≤ o + i
      · exact .inr fun h2 => this ⟨h, h2⟩
      · exact .inl h
    have hst : (store ((⟨g, o, none⟩ : Addr).add i) v).run P w = .ok () (w.setRow g (cur.setIfInBounds (o + i) v)) := by
      rw [add_plain, run_store P w _ v _ (h1 v (by simp)), hcell]
      simp [hfro, setCell_eq_setRow w g (o + i) cur t fz v hg]
    have ih := run_storeCells_free P g o t fz rest (i + 1) (cur.setIfInBounds (o + i) v) (w.setRow g (cur.setIfInBounds (o + i) v)) (setRow_heap w g cur _ t _ hg) (by simpa using hfz) (by simp at hl ⊢; omega) (fun x hx => h1 x (by simp [hx]))
    simp only [storeCells, Sem.run_bind, hst, Result.andThen_ok, ih, setRow_setRow]
    congr 3
    have e := list_seg_step cur.toList (o + i) v rest (by simp at hl ⊢; omega)
    simpa [Array.toList_setIfInBounds, Nat.add_assoc] using e

theorem repCells_eq {w w' : World} {G G' : Nat → Prop} (hG : ∀ b, G b → G' b ∧ w'.heap[b]? = w.heap[b]?) {b : Nat} : ∀ {cs : List V} {p : Nat}, (∀ i, i < cs.length → w'.cell? ⟨b, p + i, none⟩ = w.cell? ⟨b, p + i, none⟩) → repCells w G b p cs → repCells w' G' b p cs
  | [], _, _, _ => by simp only [repCells]
  | c :: cs, p, hc, h => by
    simp only [repCells] at h ⊢
    obtain ⟨⟨x, hx, h1, hr⟩, h⟩ := h
    refine ⟨⟨x, by have := hc 0 (by simp); simp only [Nat.add_zero] at this; rw [this]; exact hx, h1, repI_mono hG c x hr⟩, repCells_eq hG (fun i hi => ?_) h⟩
    have := hc (i + 1) (by simp; omega)
    rwa [show p + (i + 1) = p + 1 + i by omega] at this

/-- Writing some cells of a block. -/
def splicedA (cur : Array Value) (o : Nat) (vs : List Value) : Array Value := (cur.toList.take o ++ vs ++ cur.toList.drop (o + vs.length)).toArray

theorem splicedA_get {cur : Array Value} {o : Nat} {vs : List Value} (h : o + vs.length ≤ cur.size) (j : Nat) : (splicedA cur o vs)[j]? = if o ≤ j ∧ j < o + vs.length then vs[j - o]? else cur[j]? := by
  unfold splicedA
  simp only [List.getElem?_toArray, List.append_assoc]
  have hlen : (cur.toList.take o).length = o := by simp; omega
  by_cases h1 : j < o
  · rw [List.getElem?_append_left (by omega), List.getElem?_take_of_lt h1, if_neg (by omega)]; simp
  · rw [List.getElem?_append_right (by omega), hlen]
    by_cases h2 : j < o + vs.length
    · rw [List.getElem?_append_left (by omega), if_pos ⟨by omega, h2⟩]
    · rw [List.getElem?_append_right (by omega), if_neg (by omega), List.getElem?_drop, show o + vs.length + (j - o - vs.length) = j by omega]; simp

theorem splicedA_size {cur : Array Value} {o : Nat} {vs : List Value} (h : o + vs.length ≤ cur.size) : (splicedA cur o vs).size = cur.size := by
  unfold splicedA; simp; omega

theorem run_storeVar {P : Program} {w : World} {t u : TypeId} {n b o : Nat} {cur : Array Value} {fz : Nat × Nat} {x : Value} (hn : szOf P t = some n) (hx : x.cells.toList.length = n) (h1 : ∀ y ∈ x.cells.toList, y.oneCell' = true)
    (hg : w.heap[b]? = some (.cells cur u fz)) (hfz : Free fz cur.size) (hl : o + x.cells.toList.length ≤ cur.size) :
    (storeVar t ⟨b, o, none⟩ x).run P w = .ok () (w.setRow b (splicedA cur o x.cells.toList)) := by
  have hs : ¬ x.cells.size ≠ n := by simp at hx ⊢; exact hx
  have := run_storeCells_free P b o u fz x.cells.toList 0 cur w hg hfz (by simpa using hl) h1
  simp only [storeVar, Sem.run_bind, szOf_run hn w, Result.andThen_ok, if_neg hs]
  simpa [splicedA] using this

theorem Ext.setRow {base : Nat} {X G : Nat → Prop} {w : World} {b : Nat} {cs : Array Value} (hb : base ≤ b ∨ X b) (hG : ¬ G b) : Ext base X G w G (w.setRow b cs) :=
  ⟨rfl, rfl, rfl, by simp, fun k hk hx => setRow_other w b k cs (fun e => by subst e; rcases hb with h | h; omega; exact hx h), fun k hk => ⟨hk, setRow_other w b k cs (fun e => hG (e ▸ hk))⟩, fun _ h => .inl h⟩

theorem nilFix_rep {w : World} {G : Nat → Prop} {τ : Nat → Gh} {ans : List Ans} {v : V} {y : Value} (h : v.rep w G τ y) : (nilFix ans v).rep w G τ y := by
  unfold nilFix
  split
  · simp only [V.rep, V.repI] at h ⊢
    exact ⟨none, 0, h, Nat.le_refl _, .inl trivial⟩
  · exact h

theorem evStore_res {P : Program} {base : Nat} {X G : Nat → Prop} {τ : Nat → Gh} {st : Nat → Option E.Obj} {w : World} {ids : List Nat} {ans : List Ans} {t : TypeId} {a v : V} {x y : Value} {e : Eff} {rs : List Nat}
    (hm : Mem base X G τ st w) (ha : a.rep w G τ x) (hv : v.rep w G τ y) (h : (evStore P ans t a v).run st = some (e, rs)) (hp : ∀ p ∈ e.obs, p) :
    OpRes P base X ids G τ st w (do Instr.storeAt t x y; pure Next.skip) e := by
  unfold evStore at h
  split at h
  · rename_i id m row off cs n hcs hn
    cases hsz : cs.length == n with
    | false => simp [hsz, T.run] at h
    | true =>
      simp only [hsz, cond_true] at h
      obtain ⟨hcr, hc1, _, hcids⟩ := cells_rep hcs hv
      have hyl : y.cells.toList.length = n := by rw [← repL_length hcr]; simpa using hsz
      simp only [V.rep] at ha
      obtain ⟨b, hb, rfl⟩ := ha
      obtain ⟨o, r, ho, hh, _⟩ := run_ask h
      clear h
      have h := hh
      clear hh
      have hok := hm.ok id o ho
      have hnG := (Obj.ok_blk hok hb).1
      have hown := hm.own id o b ho hb
      split at h
      · rename_i cells
        cases hz : row == 0 with
        | false => simp [hz, T.run] at h
        | true =>
          simp only [hz, cond_true] at h
          split at h
          · rename_i cells' hsp
            simp only [T.run, Option.some.injEq, Prod.mk.injEq] at h
            obtain ⟨rfl, _⟩ := h
            have hrow : row = 0 := by simpa using hz
            subst hrow
            simp only [Obj.ok, rowsOk] at hok
            obtain ⟨b', xs, u, fz, e1, e2, _, e4, e5⟩ := hok
            rw [hb] at e1; cases e1
            obtain ⟨g1, rfl⟩ := splice_list hsp
            have hlx := repL_length e5
            have hly := repL_length hcr
            have hle : off + y.cells.toList.length ≤ xs.size := by simp at hlx; omega
            have hrun := run_storeVar (P := P) (o := off) hn hyl hc1 e2 e4 hle
            have hG' : ∀ k, G k → G k ∧ (w.setRow b (splicedA xs off y.cells.toList)).heap[k]? = w.heap[k]? := fun k hk => ⟨hk, setRow_other w b k _ (fun e => hnG (e ▸ hk))⟩
            refine ⟨Go.undef, w.setRow b (splicedA xs off y.cells.toList), G, τ, .inr ⟨run_u ?_, rfl⟩, by simp only [V.rep, V.repI], ?_, Ext.setRow hown hnG, fun _ _ => rfl⟩
            · simpa [Instr.storeAt, Instr.sureAddr] using hrun
            · refine Mem.set hm ho hb (by simp) (fun k hk => setRow_other w b k _ hk) ?_
              simp only [Obj.ok, rowsOk]
              refine ⟨b, _, u, fz, hb, setRow_heap w b xs _ u fz e2, hnG, by rw [splicedA_size hle]; exact e4, ?_⟩
              have : (splicedA xs off y.cells.toList).toList = xs.toList.take off ++ y.cells.toList ++ xs.toList.drop (off + cs.length) := by unfold splicedA; simp [hly]
              rw [this]
              have k1 := repL_mono hG' cells _ (fun _ _ => rfl) e5
              exact repL_append (repL_append (repL_take off k1) (repL_mono hG' cs _ (fun _ _ => rfl) hcr)) (repL_drop _ k1)
          · simp [T.run] at h
      · rename_i k rows
        cases hkm : k == m with
        | false => simp [hkm, T.run] at h
        | true =>
          simp only [hkm, cond_true] at h
          have hkm' : k = m := by simpa using hkm
          subst hkm'
          obtain ⟨⟨rc, ps⟩, r1, r2, h1, h2, _⟩ := T.run_bind_some h
          obtain ⟨⟨sc, kl⟩, r3, r4, h3, h4, _⟩ := T.run_bind_some h2
          simp only at h4
          split at h4
          · rename_i cells' hsp
            cases hcon : kl.contains id with
            | true => simp only [hcon, cond_true, T.run, reduceCtorEq] at h4
            | false =>
              simp only [hcon, cond_false, T.run, Option.some.injEq, Prod.mk.injEq] at h4
              obtain ⟨rfl, _⟩ := h4
              have hidk : id ∉ kl := by simpa using hcon
              have hrow := rowOf_res h1 hp
              obtain ⟨g1, rfl⟩ := splice_list hsp
              have hsr := settle_res hm kl h3 (fun _ hi => hi) hc1 (repL_fixRow hcr)
              have hsl := repIL_length hsr
              simp only [Obj.ok, rowsOk] at hok
              obtain ⟨q1, q2, hok⟩ := hok
              rcases hok with ⟨e1, _⟩ | ⟨b', xs, u, fz, e1, e2, e3, _, e5, e6, e7⟩
              · rw [hb] at e1; cases e1
              · rw [hb] at e1; cases e1
                obtain ⟨hrl, hrc⟩ := repRows_get e7 row rc hrow
                have hrlt : row < rows.length := (List.getElem?_eq_some_iff.1 hrow).1
                have hmul : (row + 1) * k ≤ (τ id).cap * k := Nat.mul_le_mul_right k (by omega)
                rw [Nat.add_mul, Nat.one_mul] at hmul
                have hle : row * k + off + y.cells.toList.length ≤ xs.size := by omega
                have hrun := run_storeVar (P := P) (o := row * k + off) hn hyl hc1 e3 (e5.le (by omega)) hle
                have hmg := Mem.give hm kl
                have hstid : putSt st (kills kl) id = some (.arr k rows) := by rw [putSt_kills, if_neg hidk]; exact ho
                have hnG' : ¬ giveG G τ st kl b := (Obj.ok_blk (hmg.ok id _ hstid) hb).1
                have hG' : ∀ j, giveG G τ st kl j → giveG G τ st kl j ∧ (w.setRow b (splicedA xs (row * k + off) y.cells.toList)).heap[j]? = w.heap[j]? := fun j hj => ⟨hj, setRow_other w b j _ (fun e => hnG' (e ▸ hj))⟩
                have hG2 : ∀ j, G j → giveG G τ st kl j ∧ (w.setRow b (splicedA xs (row * k + off) y.cells.toList)).heap[j]? = w.heap[j]? := fun j hj => ⟨.inl hj, (hG' j (.inl hj)).2⟩
                refine ⟨Go.undef, w.setRow b (splicedA xs (row * k + off) y.cells.toList), giveG G τ st kl, τ, .inr ⟨run_u ?_, rfl⟩, by simp only [V.rep, V.repI], ?_, (Ext.give hm kl).trans (Ext.setRow (hmg.own id _ b hstid hb) hnG'), fun _ _ => rfl⟩
                · simpa [Instr.storeAt, Instr.sureAddr] using hrun
                · rw [putSt_append]
                  refine Mem.set hmg hstid hb (by simp) (fun j hj => setRow_other w b j _ hj) ?_
                  simp only [Obj.ok, rowsOk, List.length_set]
                  refine ⟨q1, q2, .inr ⟨b, _, u, fz, hb, e2, setRow_heap w b xs _ u fz e3, hnG', by rw [splicedA_size hle]; exact e5, by rw [splicedA_size hle]; exact e6, ?_⟩⟩
                  have hcell : ∀ j, (w.setRow b (splicedA xs (row * k + off) y.cells.toList)).cell? ⟨b, j, none⟩ = if row * k + off ≤ j ∧ j < row * k + off + y.cells.toList.length then y.cells.toList[j - (row * k + off)]? else w.cell? ⟨b, j, none⟩ := by
                    intro j
                    rw [cell_setRow_same w b j xs _ u fz e3, splicedA_get hle, cell_of_heap e3]
                  refine repRows_of fun i q hq => ?_
                  rw [List.getElem?_set] at hq
                  by_cases hir : row = i
                  · subst hir
                    rw [if_pos rfl, if_pos hrlt] at hq
                    cases hq
                    refine ⟨by simp; omega, ?_⟩
                    have hlt1 : (rc.take off).length = off := by simp; omega
                    have hrc2 : repCells w G b (row * k) (rc.take off ++ rc.drop off) := by rw [List.take_append_drop]; simpa using hrc
                    rw [repCells_append, hlt1] at hrc2
                    have hdrop : rc.drop off = (rc.drop off).take sc.length ++ rc.drop (off + sc.length) := by rw [← List.drop_drop, List.take_append_drop]
                    have hrc3 := hrc2.2
                    rw [hdrop, repCells_append] at hrc3
                    have hlt2 : ((rc.drop off).take sc.length).length = sc.length := by simp; omega
                    rw [hlt2] at hrc3
                    simp only [Nat.zero_add]
                    rw [List.append_assoc, repCells_append, repCells_append, hlt1]
                    refine ⟨repCells_eq hG2 (fun i hi => ?_) hrc2.1, repCells_of _ (repIL_mono hG' hsr) (fun i z hz => ?_), repCells_eq hG2 (fun i hi => ?_) hrc3.2⟩
                    · rw [hcell, if_neg (by rw [hlt1] at hi; omega)]
                    · have hi : i < y.cells.toList.length := (List.getElem?_eq_some_iff.1 hz).1
                      rw [hcell, if_pos ⟨by omega, by omega⟩, show row * k + off + i - (row * k + off) = i by omega]; exact hz
                    · rw [hcell, if_neg (by omega)]
                  · rw [if_neg hir] at hq
                    obtain ⟨hql, hqc⟩ := repRows_get e7 i q hq
                    refine ⟨hql, repCells_eq hG2 (fun j hj => ?_) hqc⟩
                    rw [hcell, if_neg]
                    rintro ⟨p1, p2⟩
                    rcases Nat.lt_or_gt_of_ne hir with hlt | hlt
                    · have : (row + 1) * k ≤ i * k := Nat.mul_le_mul_right k hlt
                      rw [Nat.add_mul] at this; omega
                    · have : (i + 1) * k ≤ row * k := Nat.mul_le_mul_right k hlt
                      rw [Nat.add_mul] at this; omega
          · simp [T.run] at h4
      · simp [T.run] at h
      · simp [T.run] at h
      · rename_i rows hs
        cases hcd : m == 1 && (off == 0 && oneCellT P t) with
        | false => simp [hcd, T.run] at h
        | true =>
          simp only [hcd, cond_true] at h
          simp only [Bool.and_eq_true, beq_iff_eq] at hcd
          obtain ⟨rfl, rfl, hoc⟩ := hcd
          have hn1 : n = 1 := by
            have := (oneCellT_spec hoc).2
            rw [hn] at this
            exact Option.some.inj this
          subst hn1
          obtain ⟨c, rfl⟩ : ∃ c, cs = [c] := by
            match cs, hsz with
            | [c], _ => exact ⟨c, rfl⟩
            | [], h => simp at h
            | _ :: _ :: _, h => simp at h
          · simp only [T.run, Option.some.injEq, Prod.mk.injEq] at h
            obtain ⟨rfl, _⟩ := h
            have hrlt : row < rows.length := hp _ (List.mem_singleton.2 rfl)
            obtain ⟨y0, hy0⟩ : ∃ y0, y.cells.toList = [y0] := by
              match hl : y.cells.toList, hyl with
              | [y0], _ => exact ⟨y0, rfl⟩
              | [], h => simp at h
              | _ :: _ :: _, h => simp at h
            have hcy : c.rep w G τ y0 := by rw [hy0] at hcr; simp only [repL] at hcr; exact hcr.1
            have h1y : y0.oneCell' = true := hc1 y0 (by rw [hy0]; simp)
            have hokn := hok
            simp only [Obj.ok, rowsOk] at hok
            obtain ⟨q1, q2, hok⟩ := hok
            rcases hok with ⟨e1, _⟩ | ⟨b', xs, u, fz, e1, e2, e3, _, e5, e6, e7⟩
            · rw [hb] at e1; cases e1
            rw [hb] at e1; cases e1
            simp only [List.length_replicate] at q2
            have hle : row + [y0].length ≤ xs.size := by simp; omega
            have hrun := run_storeVar (P := P) (o := row * 1 + 0) hn hyl hc1 e3 (e5.le (by omega)) (by rw [hy0]; simpa using hle)
            rw [hy0, Nat.mul_one, Nat.add_zero] at hrun
            have hG' : ∀ k, G k → G k ∧ (w.setRow b (splicedA xs row [y0])).heap[k]? = w.heap[k]? := fun k hk => ⟨hk, setRow_other w b k _ (fun e => hnG (e ▸ hk))⟩
            have hcell : ∀ j, (w.setRow b (splicedA xs row [y0])).cell? ⟨b, j, none⟩ = if row ≤ j ∧ j < row + [y0].length then [y0][j - row]? else w.cell? ⟨b, j, none⟩ := by
              intro j
              rw [cell_setRow_same w b j xs _ u fz e3, splicedA_get hle, cell_of_heap e3]
            obtain ⟨σ, hσ⟩ := hm.sub
            obtain ⟨hin, hnd⟩ := hσ.inner id _ ho rfl
            simp only [Obj.inner] at hin
            obtain ⟨hids, hin⟩ := hin
            rcases hin with ⟨rfl, _⟩ | ⟨b', xs', t', fz', k1, k2, k3⟩
            · simp at hrlt
            rw [hb] at k1; cases k1
            rw [e3] at k2; cases k2
            have k3' := innL_mono (w' := w.setRow b (splicedA xs row [y0])) (τ' := τ) hG' (fun k hk => ⟨setRow_other w b k _ (fun e => hσ.apart id _ k ho rfl hk id _ ho (by rw [hb, e])), fun h => h⟩) (fun _ _ _ _ => rfl) k3
            obtain ⟨b1, b2, b3, x0, hbs, hx0, _, hset⟩ := innL_split k3' (List.getElem?_eq_getElem hrlt)
            have hnew := hset (.hole c) [] y0 (by simp only [Inn.at]; exact ⟨trivial, rep_mono hG' c y0 (fun _ _ => rfl) hcy, h1y⟩)
            have htake : (splicedA xs row [y0]).toList.take rows.length = (xs.toList.take rows.length).set row y0 := by
              apply List.ext_getElem?
              intro i
              have hg := splicedA_get (cur := xs) (o := row) (vs := [y0]) hle i
              rw [List.getElem?_take, List.getElem?_set]
              have hxl : (xs.toList.take rows.length).length = rows.length := by simp; omega
              by_cases hir : row = i
              · subst hir
                rw [if_pos hrlt, if_pos rfl, if_pos (by rw [hxl]; exact hrlt)]
                rw [← Array.getElem?_toList] at hg
                rw [hg]; simp
              · rw [if_neg hir, List.getElem?_take]
                split
                · rw [← Array.getElem?_toList] at hg
                  rw [hg, if_neg (by simp; omega)]; simp
                · rfl
            have hnd13 : (b1 ++ [] ++ b3).Nodup := by
              rw [hbs, List.append_assoc] at hnd
              have h1 := List.nodup_append.1 hnd
              have h2 := List.nodup_append.1 h1.2.1
              rw [List.append_nil, List.nodup_append]
              exact ⟨h1.1, h2.2.1, fun a ha c hc' => h1.2.2 a ha c (by simp [hc'])⟩
            have main := Mem.renest (kl := []) (w' := w.setRow b (splicedA xs row [y0])) (o' := .nest (.arr (rows.set row (.hole c))) (c.ids ++ hs)) hm hσ ho rfl rfl (by simp) (by simp) (fun k hk => setRow_other w b k _ (fun e => hk (by rw [hb, e]))) ?_ (bs' := b1 ++ [] ++ b3) ?_ hnd13 (fun k hk => .inl (by rw [hbs]; simp at hk ⊢; rcases hk with h | h <;> simp [h]))
            · refine ⟨Go.undef, w.setRow b (splicedA xs row [y0]), G, τ, .inr ⟨run_u ?_, rfl⟩, by simp only [V.rep, V.repI], by simpa [kills] using main.1, Ext.setRow hown hnG, fun _ _ => rfl⟩
              simpa [Instr.storeAt, Instr.sureAddr] using hrun
            · simp only [Obj.ok, rowsOk, List.length_set, List.length_replicate]
              refine ⟨q1, q2, .inr ⟨b, _, u, fz, hb, e2, setRow_heap w b xs _ u fz e3, hnG, by rw [splicedA_size hle]; exact e5, by rw [splicedA_size hle]; exact e6, ?_⟩⟩
              refine repRows_of fun i q hq => ?_
              have hil : i < rows.length := by simpa using (List.getElem?_eq_some_iff.1 hq).1
              have hq' : q = [.undef] := by rw [List.getElem?_replicate, if_pos hil] at hq; exact (Option.some.inj hq).symm
              subst hq'
              obtain ⟨_, hrc⟩ := repRows_get e7 i [.undef] (by rw [List.getElem?_replicate, if_pos hil])
              refine ⟨rfl, ?_⟩
              simp only [repCells, V.repI, and_true] at hrc ⊢
              obtain ⟨x1, hx1, hx2⟩ := hrc
              rw [hcell]
              by_cases hri : row ≤ 0 + i * 1 ∧ 0 + i * 1 < row + [y0].length
              · rw [if_pos hri]
                have : 0 + i * 1 - row = 0 := by simp at hri; omega
                rw [this]; exact ⟨y0, rfl, h1y⟩
              · rw [if_neg hri]; exact ⟨x1, hx1, hx2⟩
            · simp only [Obj.inner]
              refine ⟨fun d hd i hi => ?_, .inr ⟨b, _, u, fz, hb, setRow_heap w b xs _ u fz e3, ?_⟩⟩
              · rcases List.mem_or_eq_of_mem_set hd with h | rfl
                · exact List.mem_append_right _ (hids d h i hi)
                · exact List.mem_append_left _ (by simpa only [Inn.ids] using hi)
              · rw [List.length_set, htake]; exact hnew
      · simp [T.run] at h
  · simp [T.run] at h

end Go.Proofs.YtinfjnnffmlpmaaGreatDoor.E

/- The engine, part I: slices: written out, made, cut, appended to. -/
namespace Go.Proofs.YtinfjnnffmlpmaaGreatDoor.E
open Go
set_option linter.unusedSimpArgs false

theorem Mem.heap {base : Nat} {X G : Nat → Prop} {τ : Nat → Gh} {st : Nat → Option E.Obj} {w w' : World} (hm : Mem base X G τ st w) (h : w'.heap = w.heap) : Mem base X G τ st w' :=
  ⟨fun b hb => by rw [h]; exact hm.gold b hb, fun i o hi => Obj.ok_mono (fun b hb => ⟨hb, by rw [h]⟩) (fun b _ => ⟨by rw [h], id⟩) rfl (fun _ _ => rfl) (hm.ok i o hi), hm.own, hm.inj,
    Sub.step (fun i => i) hm.sub (fun b hb => ⟨hb, by rw [h]⟩) (by rw [h]; exact Nat.le_refl _) (fun _ _ h => h) (fun i o hi _ => ⟨hi, rfl, fun _ _ => rfl, fun _ _ => by rw [h]⟩) (fun i j _ _ _ _ _ _ h => h) (fun b _ hg _ _ => ⟨by rw [h], hg⟩) (fun i o b hi hb => .inr ⟨i, o, hi, hb⟩)⟩

/-- More of the world: what was there is as it was; some of what is new is read only. -/
theorem Mem.grown {base : Nat} {X G : Nat → Prop} {τ : Nat → Gh} {st : Nat → Option E.Obj} {w w' : World} (hm : Mem base X G τ st w) (hbase : base ≤ w.heap.size) (hb : RowKit.Below w.heap.size w w')
    (N : Nat → Prop) (hN : ∀ b, N b → w.heap.size ≤ b ∧ b < w'.heap.size) : Mem base X (fun b => G b ∨ N b) τ st w' ∧ Ext base X G w (fun b => G b ∨ N b) w' := by
  have hlt : ∀ i o' b, st i = some o' → (τ i).blk = some b → b < w.heap.size := fun i o' b h hb => by
    obtain ⟨_, _, h2⟩ := Obj.ok_blk (hm.ok i o' h) hb
    exact lt_of_get h2
  have hG : ∀ b, G b → (G b ∨ N b) ∧ w'.heap[b]? = w.heap[b]? := fun b h => ⟨.inl h, hb.block b (hm.gold b h)⟩
  have back : ∀ b, b < w.heap.size → G b ∨ N b → G b := fun b hlt h => h.elim id fun h => by have := (hN b h).1; omega
  refine ⟨⟨fun b h => ?_, fun i o h => ?_, hm.own, hm.inj, ?_⟩, ?_⟩
  · rcases h with h | h
    · have := hm.gold b h; have := hb.size; omega
    · exact (hN b h).2
  · exact Obj.ok_mono hG (fun b k => ⟨hb.block b (hlt i o b h k), back b (hlt i o b h k)⟩) rfl (fun _ _ => rfl) (hm.ok i o h)
  · exact Sub.step (fun i => i) hm.sub hG hb.size (fun _ _ h => h) (fun i o hi _ => ⟨hi, rfl, fun _ _ => rfl, fun b k => hb.block b (hlt i o b hi k)⟩) (fun i j _ _ _ _ _ _ h => h)
      (fun b hl hg _ _ => ⟨hb.block b hl, fun h => hg (back b hl h)⟩) (fun i o b hi hb => .inr ⟨i, o, hi, hb⟩)
  · exact ⟨hb.os, hb.tape, hb.output, hb.size, fun b h _ => hb.block b (by omega), hG, fun b h => h.elim .inl fun h => .inr (.inr (by have := (hN b h).1; omega))⟩

/-- A block that an object owned is read only from now on, and has perhaps turned. -/
theorem Mem.lose {base : Nat} {X G : Nat → Prop} {τ : Nat → Gh} {st : Nat → Option E.Obj} {w w' : World} {id b : Nat} {o : E.Obj} (hm : Mem base X G τ st w) (ho : st id = some o) (hb : (τ id).blk = some b)
    (hsz : w'.heap.size = w.heap.size) (hne : ∀ k, k ≠ b → w'.heap[k]? = w.heap[k]?) : Mem base X (fun k => G k ∨ k = b) τ (putSt st [(id, none)]) w' := by
  have hnG : ¬ G b := (Obj.ok_blk (hm.ok id o ho) hb).1
  have hlt : b < w.heap.size := lt_of_get (Obj.ok_blk (hm.ok id o ho) hb).2.choose_spec
  have hst : ∀ i p, putSt st [(id, none)] i = some p → i ≠ id ∧ st i = some p := by
    intro i p h
    simp only [putSt] at h
    by_cases hi : i = id
    · subst hi; simp at h
    · have : (i == id) = false := by simpa using hi
      simp only [this, cond_false] at h; exact ⟨hi, h⟩
  have hG : ∀ k, G k → (G k ∨ k = b) ∧ w'.heap[k]? = w.heap[k]? := fun k hk => ⟨.inl hk, hne k fun e => hnG (e ▸ hk)⟩
  have hmain : ∀ i p k, i ≠ id → st i = some p → (τ i).blk = some k → k ≠ b := fun i p k hi hp hk e => hi (hm.inj i id p o b hp ho (e ▸ hk) hb)
  refine ⟨fun k hk => ?_, fun i p h => ?_, fun i p k h hk => hm.own i p k (hst i p h).2 hk, fun i j p q k h1 h2 => hm.inj i j p q k (hst i p h1).2 (hst j q h2).2, ?_⟩
  · rcases hk with hk | hk
    · rw [hsz]; exact hm.gold k hk
    · rw [hsz, hk]; exact hlt
  · obtain ⟨hi, h⟩ := hst i p h
    exact Obj.ok_mono hG (fun k hk => ⟨hne k (hmain i p k hi h hk), fun hg => hg.elim (fun h => h) fun e => absurd e (hmain i p k hi h hk)⟩) rfl (fun _ _ => rfl) (hm.ok i p h)
  · refine Sub.step (fun i => i) hm.sub hG (by omega) (fun _ _ h => h) (fun i p h _ => ⟨(hst i p h).2, rfl, fun _ _ => rfl, fun k hk => hne k (hmain i p k (hst i p h).1 (hst i p h).2 hk)⟩) (fun i j _ _ _ _ _ _ h => h)
      (fun k _ hg _ hj => ?_) (fun i p k h hk => .inr ⟨i, p, (hst i p h).2, hk⟩)
    have hkb : k ≠ b := fun e => hj id o ho (e ▸ hb)
    exact ⟨hne k hkb, fun h => h.elim hg hkb⟩

mutual
theorem repRows_same {w w' : World} {G G' : Nat → Prop} (h : ∀ b, G b → G' b ∧ w'.heap[b]? = w.heap[b]?) (sz b : Nat) (hb : ∀ o x, w.cell? ⟨b, o, none⟩ = some x → w'.cell? ⟨b, o, none⟩ = some x) : ∀ (o : Nat) (rs : List (List V)), repRows w G sz b o rs → repRows w' G' sz b o rs
  | _, [], _ => by simp only [repRows]
  | o, r :: rs, hr => by
    simp only [repRows] at hr ⊢
    exact ⟨hr.1, repCells_same h b hb o r hr.2.1, repRows_same h sz b hb (o + sz) rs hr.2.2⟩
theorem repCells_same {w w' : World} {G G' : Nat → Prop} (h : ∀ b, G b → G' b ∧ w'.heap[b]? = w.heap[b]?) (b : Nat) (hb : ∀ o x, w.cell? ⟨b, o, none⟩ = some x → w'.cell? ⟨b, o, none⟩ = some x) : ∀ (o : Nat) (cs : List V), repCells w G b o cs → repCells w' G' b o cs
  | _, [], _ => by simp only [repCells]
  | o, c :: cs, hr => by
    simp only [repCells] at hr ⊢
    obtain ⟨⟨x, hx, h1, hc⟩, hr⟩ := hr
    exact ⟨⟨x, hb o x hx, h1, repI_mono h c x hc⟩, repCells_same h b hb (o + 1) cs hr⟩
end

theorem repIL_append_inv {w : World} {G : Nat → Prop} : ∀ {cs ds : List V} {xs : List Value}, repIL w G (cs ++ ds) xs → repIL w G cs (xs.take cs.length) ∧ repIL w G ds (xs.drop cs.length)
  | [], ds, xs, h => by simpa [repIL] using h
  | c :: cs, ds, [], h => by simp [repIL] at h
  | c :: cs, ds, x :: xs, h => by
    simp only [List.cons_append, repIL] at h
    obtain ⟨h1, h2⟩ := repIL_append_inv h.2
    simp only [List.length_cons, List.take_succ_cons, List.drop_succ_cons, repIL]
    exact ⟨⟨h.1, h1⟩, h2⟩

theorem repIL_append {w : World} {G : Nat → Prop} : ∀ {cs : List V} {xs : List Value} {ds : List V} {ys : List Value}, repIL w G cs xs → repIL w G ds ys → repIL w G (cs ++ ds) (xs ++ ys)
  | [], [], _, _, _, h => by simpa using h
  | [], _ :: _, _, _, hr, _ => by simp only [repIL] at hr
  | _ :: _, [], _, _, hr, _ => by simp only [repIL] at hr
  | c :: cs, x :: xs, _, _, hr, h => by simp only [repIL] at hr; simp only [List.cons_append, repIL]; exact ⟨hr.1, repIL_append hr.2 h⟩

/-- Rows that lie one behind the other. -/
theorem repRows_content {w : World} {G : Nat → Prop} {n b : Nat} : ∀ {rows : List (List V)} {xs : List Value} (o : Nat), (∀ r ∈ rows, r.length = n) → repIL w G rows.flatten xs → (∀ i x, xs[i]? = some x → w.cell? ⟨b, o + i, none⟩ = some x) → repRows w G n b o rows
  | [], _, _, _, _, _ => by simp only [repRows]
  | r :: rs, xs, o, hl, hr, hc => by
    simp only [List.flatten_cons] at hr
    obtain ⟨h1, h2⟩ := repIL_append_inv hr
    have hrn := hl r (by simp)
    simp only [repRows]
    refine ⟨hrn, repCells_of o h1 (fun i x hx => ?_), repRows_content (o + n) (fun q hq => hl q (by simp [hq])) h2 (fun i x hx => ?_)⟩
    · rw [List.getElem?_take] at hx
      split at hx
      · exact hc i x hx
      · simp at hx
    · rw [List.getElem?_drop, hrn] at hx
      have := hc _ x hx
      rwa [show o + (n + i) = o + n + i by omega] at this

theorem repRows_flat {w : World} {G : Nat → Prop} {n b : Nat} : ∀ {rows : List (List V)} {o : Nat}, repRows w G n b o rows → ∃ xs : List Value, repIL w G rows.flatten xs ∧ xs.length = rows.length * n ∧ ∀ i x, xs[i]? = some x → w.cell? ⟨b, o + i, none⟩ = some x
  | [], _, _ => ⟨[], by simp [repIL], by simp, by simp⟩
  | r :: rs, o, h => by
    simp only [repRows] at h
    obtain ⟨x1, h1, h2⟩ := repCells_get h.2.1
    obtain ⟨x2, h3, h4, h5⟩ := repRows_flat h.2.2
    have hl := repIL_length h1
    refine ⟨x1 ++ x2, by simp only [List.flatten_cons]; exact repIL_append h1 h3, by simp [h4, Nat.add_mul]; omega, fun i x hx => ?_⟩
    rw [List.getElem?_append] at hx
    split at hx
    · exact h2 i x hx
    · have := h5 _ x hx
      rwa [show o + n + (i - x1.length) = o + i by omega] at this

/-- A new slice, in a new block, that the call owns. (w1: the world with some draws.) -/
theorem arr_new {P : Program} {base : Nat} {X G : Nat → Prop} {τ : Nat → Gh} {st : Nat → Option E.Obj} {w w1 : World} {ids : List Nat} {site n cap : Nat} {t : TypeId} {c : Array Value} {fz : Nat × Nat} {rows : List (List V)} {s : Sem Next} {ws : List (Nat × Option E.Obj)} {G' : Nat → Prop} {obs : List Prop}
    (hm : Mem base X G' τ (putSt st ws) w) (he : Ext base X G w G' w) (hbase : base ≤ w.heap.size) (hc : Closed ids (putSt st ws)) (hs : site ∉ ids)
    (h1 : w1.heap = w.heap) (h2 : w1.os = w.os) (h3 : w1.tape = w.tape) (h4 : w1.output = w.output)
    (hl : ∀ r ∈ rows, r.length = n) (hle : rows.length ≤ cap) (hsz : c.size = cap * n) (hfz : Free fz (c.size + 1)) (hr : repIL w G' rows.flatten (c.toList.take (rows.length * n)))
    (hrun : s.run P w = .ok (.value (.slice (some ⟨w.heap.size, 0, none⟩) rows.length cap)) (w1.alloc (.cells c t fz))) :
    OpRes P base X ids G τ st w s ⟨.own site, ws ++ [(site, some (.arr n rows))], obs, [site]⟩ := by
  have hm1 := hm.heap h1
  have hsize : w1.heap.size = w.heap.size := by rw [h1]
  have hd : Ext base X G' w G' w1 := ⟨h2, h3, h4, by omega, fun b _ _ => by rw [h1], fun b hb => ⟨hb, by rw [h1]⟩, fun _ hb => .inl hb⟩
  refine ⟨_, _, G', setGh τ site ⟨some w.heap.size, some ⟨w.heap.size, 0, none⟩, rows.length, cap⟩, .inl hrun, ?_, ?_, (he.trans hd).trans (Ext.alloc hm1.gold (by omega) _), fun i hi => setGh_ne fun e => hs (e ▸ hi)⟩
  · simp only [V.rep, setGh_same, Gh.hdr]
  · rw [putSt_append]
    refine Mem.new hm1 (by omega) hc hs (fun b hb => by simp at hb; omega) ?_
    simp only [Obj.ok, rowsOk, setGh_same]
    have hcells : (w1.alloc (.cells c t fz)).heap[w.heap.size]? = some (.cells c t fz) := by rw [← hsize]; exact alloc_new _ _
    refine ⟨trivial, hle, .inr ⟨w.heap.size, c, t, fz, rfl, rfl, hcells, fun hg => absurd (hm.gold _ hg) (Nat.lt_irrefl _), hfz, Nat.le_of_eq hsz.symm, ?_⟩⟩
    refine repRows_content 0 hl (repIL_mono (fun b hb => ⟨hb, by rw [alloc_get w1 _ b (hm1.gold b hb), h1]⟩) hr) (fun i x hx => ?_)
    rw [List.getElem?_take] at hx
    split at hx
    · rw [Nat.zero_add, cell_of_heap hcells]; simpa using hx
    · simp at hx

theorem elemOfSlice_spec {P : Program} {t e : TypeId} {n : Nat} (h : elemOfSlice P t = some (e, n)) : P.underlying t = some (.slice e) ∧ szOf P e = some n := by
  unfold elemOfSlice at h
  split at h
  · rename_i e' hu
    split at h
    · rename_i n' hn
      simp only [Option.some.injEq, Prod.mk.injEq] at h
      obtain ⟨rfl, rfl⟩ := h
      exact ⟨hu, hn⟩
    · simp at h
  · simp at h

theorem flat_len {α : Type} {n : Nat} : ∀ (rows : List (List α)), (∀ r ∈ rows, r.length = n) → rows.flatten.length = rows.length * n
  | [], _ => by simp
  | r :: rows, h => by simp only [List.flatten_cons, List.length_append, List.length_cons, h r (by simp), flat_len rows (fun q hq => h q (by simp [hq])), Nat.add_mul]; omega

/-! ### Written out -/

theorem rowsOf_res {P : Program} {t : TypeId} {base : Nat} {X G : Nat → Prop} {τ : Nat → Gh} {st : Nat → Option E.Obj} {w : World} (hm : Mem base X G τ st w) (all : List Nat) (n : Nat) :
    ∀ {parts : List (Nat × V)} {vals : List (Nat × Value)} {k : Nat} {rows : List (List V)} {kl rs : List Nat}, (rowsOf P t n k parts).run st = some ((rows, kl), rs) → (∀ i ∈ kl, i ∈ all) →
      vals.map (·.1) = parts.map (·.1) → repL w G τ (parts.map (·.2)) (vals.map (·.2)) →
      rows.length = parts.length ∧ (∀ r ∈ rows, r.length = n) ∧ repIL w (giveG G τ st all) rows.flatten (vals.flatMap fun p => p.2.cells.toList) ∧
      ∀ (a : Array Value), (k + parts.length) * n ≤ a.size → ∃ a', Instr.fill (fun i => some (i * n, n)) a vals = some a' ∧
        a'.toList = a.toList.take (k * n) ++ (vals.flatMap fun p => p.2.cells.toList) ++ a.toList.drop ((k + parts.length) * n)
  | [], [], k, rows, kl, rs, h, _, _, _ => by
    simp only [rowsOf, T.run, Option.some.injEq, Prod.mk.injEq] at h
    obtain ⟨⟨rfl, rfl⟩, _⟩ := h
    exact ⟨rfl, by simp, by simp [repIL], fun a _ => ⟨a, rfl, by simp⟩⟩
  | [], _ :: _, _, _, _, _, _, _, h, _ => by simp at h
  | _ :: _, [], _, _, _, _, _, _, h, _ => by simp at h
  | (i, v) :: parts, (j, x) :: vals, k, rows, kl, rs, h, hk, hij, hr => by
    simp only [List.map_cons, List.cons.injEq] at hij
    obtain ⟨rfl, hij⟩ := hij
    simp only [List.map_cons, repL] at hr
    unfold rowsOf at h
    cases hik : j == k with
    | false => simp [hik, T.run] at h
    | true =>
      simp only [hik, cond_true] at h
      have hik' : j = k := by simpa using hik
      subst hik'
      split at h
      · rename_i cs hcs
        cases hn : cs.length == n with
        | false => simp [hn, T.run] at h
        | true =>
          simp only [hn, cond_true] at h
          obtain ⟨⟨sc, k1⟩, r1, r2, h1, h2, _⟩ := T.run_bind_some h
          obtain ⟨⟨rows2, k2⟩, r3, r4, h3, h4, _⟩ := T.run_bind_some h2
          simp only [T.run, Option.some.injEq, Prod.mk.injEq] at h4
          obtain ⟨⟨rfl, rfl⟩, _⟩ := h4
          obtain ⟨hc1, hc2, _, _⟩ := cells_rep hcs hr.1
          have hs := settle_res hm all h1 (fun i hi => hk i (by simp [hi])) hc2 (repL_fixRow hc1)
          obtain ⟨q1, q2, q3, q4⟩ := rowsOf_res hm all n h3 (fun i hi => hk i (by simp [hi])) hij hr.2
          have hn' : cs.length = n := by simpa using hn
          have hxl : x.cells.toList.length = n := by rw [← repL_length hc1]; exact hn'
          refine ⟨by simp [q1], fun r hr' => ?_, ?_, fun a ha => ?_⟩
          · rcases List.mem_cons.1 hr' with rfl | hr'
            · rw [repIL_length hs]; exact hxl
            · exact q2 r hr'
          · simp only [List.flatten_cons, List.flatMap_cons]
            exact repIL_append hs q3
          · simp only [List.length_cons] at ha
            have hmul : (j + 1 + parts.length) * n ≤ a.size := by rwa [show j + 1 + parts.length = j + (parts.length + 1) by omega]
            have hjn : j * n + n ≤ a.size := by
              have : (j + 1) * n ≤ (j + 1 + parts.length) * n := Nat.mul_le_mul_right n (by omega)
              rw [Nat.add_mul] at this; omega
            have hxs : x.cells.size = n := by simpa using hxl
            have hf := foldl_set (j * n) x.cells.toList 0 a (by simp; omega)
            have hset : (x.cells.zipIdx.foldl (fun cs (c, i) => cs.setIfInBounds (j * n + i) c) a).toList = a.toList.take (j * n) ++ x.cells.toList ++ a.toList.drop (j * n + n) := by
              rw [← Array.foldl_toList, Array.toList_zipIdx]
              simp only [Nat.add_zero, hxl] at hf
              exact hf
            have hset2 : (x.cells.zipIdx.foldl (fun cs (c, i) => cs.setIfInBounds (j * n + i) c) a).size = a.size := by
              rw [← Array.length_toList, hset]; simp; omega
            obtain ⟨a', e1, e2⟩ := q4 (x.cells.zipIdx.foldl (fun cs (c, i) => cs.setIfInBounds (j * n + i) c) a) (by rw [hset2]; exact hmul)
            refine ⟨a', ?_, ?_⟩
            · simp only [Instr.fill]
              rw [if_neg (by simp; constructor <;> omega)]
              exact e1
            · have ht1 : (a.toList.take (j * n)).length = j * n := by simp; omega
              rw [e2, hset, List.flatMap_cons]
              have hA : (a.toList.take (j * n) ++ x.cells.toList ++ a.toList.drop (j * n + n)).take ((j + 1) * n) = a.toList.take (j * n) ++ x.cells.toList := by
                rw [List.take_left' (by simp only [List.length_append, ht1, hxl, Nat.add_mul]; omega)]
              have hB : (a.toList.take (j * n) ++ x.cells.toList ++ a.toList.drop (j * n + n)).drop ((j + 1 + parts.length) * n) = a.toList.drop ((j + (parts.length + 1)) * n) := by
                have e3 : (j + 1 + parts.length) * n = (a.toList.take (j * n) ++ x.cells.toList).length + parts.length * n := by simp only [List.length_append, ht1, hxl, Nat.add_mul]; omega
                rw [e3, ← List.drop_drop, List.drop_left, List.drop_drop]
                congr 1
                simp only [Nat.add_mul]; omega
              rw [hA, hB]
              simp [List.append_assoc, Nat.add_comm, Nat.add_left_comm, Nat.add_assoc]
      · simp [T.run] at h

theorem Closed.kills {ids : List Nat} {st : Nat → Option E.Obj} (h : Closed ids st) (l : List Nat) : Closed ids (putSt st (kills l)) := by
  intro i o hi
  rw [putSt_kills] at hi
  by_cases hm : i ∈ l
  · simp [hm] at hi
  · simp only [hm, if_false] at hi; exact h i o hi

theorem evBuildSlice_res {P : Program} {base : Nat} {X G : Nat → Prop} {τ : Nat → Gh} {st : Nat → Option E.Obj} {w : World} {ids : List Nat} {site : Nat} {rd : Operand → V} {ρ : Operand → Value} {t : TypeId} {len : Nat} {parts : Array (Nat × Operand)} {e : Eff} {rs : List Nat}
    (hm : Mem base X G τ st w) (hbase : base ≤ w.heap.size) (hc : Closed ids st) (hnew : ∀ i ∈ e.new, i ∉ ids) (hrd : ∀ p ∈ parts.toList, (rd p.2).rep w G τ (ρ p.2)) (h : (evBuildSlice P rd site t len parts).run st = some (e, rs)) :
    OpRes P base X ids G τ st w (do pure (Next.value (← Instr.buildSlice t len (parts.map fun (i, x) => (i, ρ x))))) e := by
  unfold evBuildSlice at h
  split at h
  · rename_i el n he
    obtain ⟨hu, hn⟩ := elemOfSlice_spec he
    split at h
    · rename_i z hz
      cases hb : Nat.ble 1 n && (z.length == n && (parts.size == len && Nat.ble (len * n) (2 ^ 24))) with
      | false => simp only [hb, cond_false, T.run, reduceCtorEq] at h
      | true =>
        simp only [hb, cond_true] at h
        simp only [Bool.and_eq_true, beq_iff_eq] at hb
        obtain ⟨b1, b2, b3, b4⟩ := hb
        have b1' := Nat.le_of_ble_eq_true b1
        have b4' := Nat.le_of_ble_eq_true b4
        obtain ⟨⟨rows, kl⟩, r1, r2, h1, h2, _⟩ := T.run_bind_some h
        simp only [T.run, Option.some.injEq, Prod.mk.injEq] at h2
        obtain ⟨rfl, _⟩ := h2
        obtain ⟨z0, hz1, rfl, _⟩ := zeroOf_run hz w
        obtain ⟨q1, q2, q3, q4⟩ := rowsOf_res hm kl n (vals := parts.toList.map fun p => (p.1, ρ p.2)) h1 (fun _ hi => hi) (by simp) (parts_rel _ hrd)
        have hlen : rows.length = len := by rw [q1]; simpa using b3
        have hzz : z0.cells.size = n := by simpa using b2
        obtain ⟨a', e1, e2⟩ := q4 ((Array.range (len * n)).map (z0.cells[· % z0.cells.size]!)) (by simp [b3])
        have hsz0 : ((Array.range (len * n)).map (z0.cells[· % z0.cells.size]!)).size = len * n := by simp
        have e3 : a'.toList = (parts.toList.map fun p => (p.1, ρ p.2)).flatMap fun p => p.2.cells.toList := by
          rw [e2]
          have : (parts.toList.map fun p => (p.1, rd p.2)).length = len := by simpa using b3
          rw [this]
          simp
        have hal : a'.size = len * n := by
          rw [← Array.length_toList, e3, ← repIL_length q3]
          rw [← hlen]
          exact flat_len rows q2
        by_cases hl0 : len = 0
        · subst hl0
          have hr0 : rows = [] := by simpa using hlen
          have hp0 : parts = #[] := by simpa using b3
          subst hr0 hp0
          refine arr_new (w1 := w) (c := #[]) (cap := 0) (t := el) (fz := (0, 0)) (Mem.give hm kl) (Ext.give hm kl) hbase (hc.kills kl) (hnew site (by simp)) rfl rfl rfl rfl (by simp) (by simp) (by simp) (fun i hi => by simp) (by simp [repIL]) (run_v ?_)
          simp only [Instr.buildSlice, Sem.run_bind, run_underlying hu, Result.andThen_ok, szOf_run hn w, Nat.zero_mul]
          rw [if_neg (by omega)]
          simp [Instr.fill, newRow, Array.range_zero']
        · have hne : ¬ len * n = 0 := Nat.mul_ne_zero hl0 (by omega)
          refine arr_new (w1 := w) (c := a') (cap := len) (t := el) (fz := (0, 0)) (Mem.give hm kl) (Ext.give hm kl) hbase (hc.kills kl) (hnew site (by simp)) rfl rfl rfl rfl q2 (by omega) hal (fun i _ hi => by omega) (by rw [hlen, ← hal, ← Array.length_toList, List.take_length, e3]; exact q3) (run_v ?_)
          have hparts : (parts.map fun (p : Nat × Operand) => (p.1, ρ p.2)).toList = parts.toList.map fun p => (p.1, ρ p.2) := by simp
          simp only [Instr.buildSlice, Sem.run_bind, run_underlying hu, Result.andThen_ok, szOf_run hn w]
          rw [if_neg (by omega)]
          simp only [Sem.run_bind, if_neg hne, hz1, Result.andThen_ok, Sem.run_pure, hparts, e1]
          simp [newRow, hlen]
    · simp [T.run] at h
  · simp [T.run] at h

end Go.Proofs.YtinfjnnffmlpmaaGreatDoor.E

/- The engine, part J: lengths, cuts, appends, makes. -/
namespace Go.Proofs.YtinfjnnffmlpmaaGreatDoor.E
open Go
set_option linter.unusedSimpArgs false

/-! ### Lengths -/

theorem evLen_res {P : Program} {base : Nat} {X G : Nat → Prop} {τ : Nat → Gh} {st : Nat → Option E.Obj} {w : World} {ids : List Nat} {rd : Operand → V} {o : Oper} {v : V} {x : Value} {e : Eff} {rs : List Nat} {s : Sem Next}
    (hm : Mem base X G τ st w) (hv : v.rep w G τ x) (hs : ∀ a n c, x = .slice a n c → s.run P w = .ok (.value (.int .i64 n)) w)
    (hgen : (genOp P rd o).run st = some (e, rs) → OpRes P base X ids G τ st w s e) (h : (evLen P rd o v).run st = some (e, rs)) : OpRes P base X ids G τ st w s e := by
  unfold evLen at h
  split at h
  · simp only [T.run, Option.some.injEq, Prod.mk.injEq] at h
    obtain ⟨rfl, _⟩ := h
    simp only [V.rep, V.repI] at hv
    exact OpRes.pure hm (hs _ _ _ hv) (by simp only [V.rep, V.repI]; rfl)
  · simp only [T.run, Option.some.injEq, Prod.mk.injEq] at h
    obtain ⟨rfl, _⟩ := h
    simp only [V.rep, V.repI] at hv
    obtain ⟨a, cap, hx, _⟩ := hv
    exact OpRes.pure hm (hs _ _ _ hx) (by simp only [V.rep, V.repI])
  · simp only [T.run, Option.some.injEq, Prod.mk.injEq] at h
    obtain ⟨rfl, _⟩ := h
    simp only [V.rep, Gh.part] at hv
    obtain ⟨_, a, hx, _⟩ := hv
    exact OpRes.pure hm (hs _ _ _ hx) (by simp only [V.rep, V.repI])
  · rename_i id
    obtain ⟨o, r, ho, h, _⟩ := run_ask h
    split at h
    · simp only [T.run, Option.some.injEq, Prod.mk.injEq] at h
      obtain ⟨rfl, _⟩ := h
      simp only [V.rep, Gh.hdr] at hv
      have hok := hm.ok id _ ho
      simp only [Obj.ok, rowsOk] at hok
      rw [hok.1] at hv
      exact OpRes.pure hm (hs _ _ _ hv) (by simp only [V.rep, V.repI])
    · simp [T.run] at h
  · exact hgen h

/-! ### Cuts -/

theorem repRows_cut {w : World} {G : Nat → Prop} {n b o l h : Nat} {rows : List (List V)} (hr : repRows w G n b o rows) : repRows w G n b (o + l * n) ((rows.take h).drop l) := by
  refine repRows_of fun i r hi => ?_
  rw [List.getElem?_drop, List.getElem?_take] at hi
  split at hi
  · obtain ⟨h1, h2⟩ := repRows_get hr _ r hi
    exact ⟨h1, by rwa [show o + l * n + i * n = o + (l + i) * n by rw [Nat.add_mul]; omega]⟩
  · simp at hi

theorem optInt_res {w : World} {G : Nat → Prop} {τ : Nat → Gh} {rd : Operand → V} {ρ : Operand → Value} {d i : Int} {q : Option Operand} (hq : ∀ x, q = some x → (rd x).rep w G τ (ρ x)) (h : optInt d (q.map rd) = some i) :
    (q = none ∧ i = d) ∨ ∃ x k, q = some x ∧ ρ x = .int k i := by
  cases q with
  | none => simp only [Option.map_none, optInt, Option.some.injEq] at h; exact .inl ⟨rfl, h.symm⟩
  | some x =>
    right
    simp only [Option.map_some] at h
    have hr := hq x rfl
    unfold optInt at h
    split at h
    · rename_i hx; simp at hx
    · rename_i k j hx
      simp only [Option.some.injEq] at hx h
      subst h
      rw [hx] at hr
      simp only [V.rep, V.repI] at hr
      exact ⟨x, k, rfl, hr⟩
    · simp at h

theorem run_sliceBound {P : Program} {w : World} {k : IntKind} {i : Int} {y : Nat} {code : BoundsCode} (h0 : 0 ≤ i) (h1 : i ≤ (y : Int)) : (Instr.sliceBound (.int k i) y code).run P w = .ok i.toNat w := by
  simp only [Instr.sliceBound, Sem.run_bind, asIntOf, Sem.run_pure, Result.andThen_ok]
  rw [if_pos ⟨h0, h1⟩]; rfl

theorem run_sliceBounds {P : Program} {w : World} {isSlice : Bool} {len cap : Nat} {ρ : Operand → Value} {lo hi : Option Operand} {l h : Int}
    (hlo : (lo = none ∧ l = 0) ∨ ∃ x k, lo = some x ∧ ρ x = .int k l) (hhi : (hi = none ∧ h = (len : Int)) ∨ ∃ x k, hi = some x ∧ ρ x = .int k h) (h0 : 0 ≤ l) (h1 : l ≤ h) (h2 : h ≤ (len : Int)) (hc : len ≤ cap) :
    (Instr.sliceBounds isSlice len cap (lo.map ρ) (hi.map ρ) none).run P w = .ok (l.toNat, h.toNat, cap) w := by
  have hl : h = (h.toNat : Int) := by omega
  rcases hhi with ⟨rfl, e⟩ | ⟨x, k, rfl, e⟩ <;> rcases hlo with ⟨rfl, e'⟩ | ⟨x', k', rfl, e'⟩
  · subst e' e; simp [Instr.sliceBounds]
  · subst e
    simp only [Option.map_none, Option.map_some, Instr.sliceBounds, Sem.run_bind, Sem.run_pure, Result.andThen_ok, e']
    rw [run_sliceBound h0 h1]; simp
  · subst e'
    simp only [Option.map_none, Option.map_some, Instr.sliceBounds, Sem.run_bind, Sem.run_pure, Result.andThen_ok, e]
    rw [run_sliceBound (by omega) (by omega)]; simp
  · simp only [Option.map_some, Instr.sliceBounds, Sem.run_bind, Sem.run_pure, Result.andThen_ok, e, e']
    rw [run_sliceBound (by omega) (by omega)]
    simp only [Result.andThen_ok]
    rw [run_sliceBound h0 (by omega)]; simp

theorem evSlice_res {P : Program} {base : Nat} {X G : Nat → Prop} {τ : Nat → Gh} {st : Nat → Option E.Obj} {w : World} {ids : List Nat} {rd : Operand → V} {ρ : Operand → Value} {t : TypeId} {v : V} {x : Value} {lo hi : Option Operand} {e : Eff} {rs : List Nat}
    (hm : Mem base X G τ st w) (hv : v.rep w G τ x) (hlo : ∀ y, lo = some y → (rd y).rep w G τ (ρ y)) (hhi : ∀ y, hi = some y → (rd y).rep w G τ (ρ y)) (h : (evSlice P t v (lo.map rd) (hi.map rd)).run st = some (e, rs)) (hp : ∀ p ∈ e.obs, p) :
    OpRes P base X ids G τ st w (do pure (Next.value (← Instr.sliceAt t x (lo.map ρ) (hi.map ρ) none))) e := by
  have core : ∀ {el n : Nat} {rows : List (List V)} {a : Option Addr} {cap : Nat} {l h : Int}, elemOfSlice P t = some (el, n) → x = .slice a rows.length cap → rows.length ≤ cap →
      ((lo = none ∧ l = 0) ∨ ∃ y k, lo = some y ∧ ρ y = .int k l) → ((hi = none ∧ h = (rows.length : Int)) ∨ ∃ y k, hi = some y ∧ ρ y = .int k h) → 0 ≤ l → l ≤ h → h ≤ (rows.length : Int) →
      (Instr.sliceAt t x (lo.map ρ) (hi.map ρ) none).run P w = .ok (.slice (if cap = l.toNat then a else a.map (·.add (l.toNat * n))) (h.toNat - l.toNat) (cap - l.toNat)) w := by
    intro el n rows a cap l h he hx hle hl hh h0 h1 h2
    obtain ⟨hu, hn⟩ := elemOfSlice_spec he
    subst hx
    simp only [Instr.sliceAt, Sem.run_bind, run_underlying hu, Result.andThen_ok, Instr.slice]
    rw [run_sliceBounds hl hh h0 h1 h2 hle]
    simp [szOf_run hn w]
  have rep : ∀ {G' : Nat → Prop} {n : Nat} {rows : List (List V)} {a : Option Addr} {cap : Nat} {l h : Int}, rows.length ≤ cap → (rows = [] ∨ ∃ b o, a = some ⟨b, o, none⟩ ∧ G' b ∧ repRows w G' n b o rows) → 0 ≤ l → l ≤ h → h ≤ (rows.length : Int) →
      (V.sl n ((rows.take h.toNat).drop l.toNat)).rep w G' τ (.slice (if cap = l.toNat then a else a.map (·.add (l.toNat * n))) (h.toNat - l.toNat) (cap - l.toNat)) := by
    intro G' n rows a cap l h hle hr h0 h1 h2
    have hlen : ((rows.take h.toNat).drop l.toNat).length = h.toNat - l.toNat := by simp; omega
    simp only [V.rep, V.repI, hlen]
    refine ⟨_, _, rfl, by omega, ?_⟩
    rcases hr with rfl | ⟨b, o, rfl, hg, hr⟩
    · exact .inl (by simp)
    · by_cases hc : cap = l.toNat
      · exact .inl (by apply List.eq_nil_of_length_eq_zero; rw [hlen]; omega)
      · exact .inr ⟨b, o + l.toNat * n, by rw [if_neg hc]; simp [add_plain], hg, repRows_cut hr⟩
  unfold evSlice at h
  split at h
  · rename_i n rows
    split at h
    · rename_i el m l hh he hl hh'
      cases hmn : m == n with
      | false => simp only [hmn, cond_false, T.run, reduceCtorEq] at h
      | true =>
        simp only [hmn, cond_true, T.run, Option.some.injEq, Prod.mk.injEq] at h
        obtain ⟨rfl, _⟩ := h
        have hmn' : m = n := by simpa using hmn
        subst hmn'
        have p0 : 0 ≤ l := hp _ (by simp)
        have p1 : l ≤ hh := hp _ (by simp)
        have p2 : hh ≤ (rows.length : Int) := hp _ (by simp)
        simp only [V.rep, V.repI] at hv
        obtain ⟨a, cap, hx, hle, hr⟩ := hv
        exact OpRes.pure hm (run_v (core he hx hle (optInt_res hlo hl) (optInt_res hhi hh') p0 p1 p2)) (rep hle hr p0 p1 p2)
    · simp [T.run] at h
  · rename_i id
    obtain ⟨o, r, ho, h, _⟩ := run_ask h
    split at h
    · rename_i n rows
      split at h
      · rename_i el m l hh he hl hh'
        cases hmn : m == n with
        | false => simp only [hmn, cond_false, T.run, reduceCtorEq] at h
        | true =>
          simp only [hmn, cond_true, T.run, Option.some.injEq, Prod.mk.injEq] at h
          obtain ⟨rfl, _⟩ := h
          have hmn' : m = n := by simpa using hmn
          subst hmn'
          have p0 : 0 ≤ l := hp _ (by simp)
          have p1 : l ≤ hh := hp _ (by simp)
          have p2 : hh ≤ (rows.length : Int) := hp _ (by simp)
          simp only [V.rep, Gh.hdr] at hv
          have hg := repI_given hm (l := [id]) (by simp) ho
          simp only [V.repI, Gh.hdr] at hg
          obtain ⟨a, cap, hx, hle, hr⟩ := hg
          refine ⟨_, w, giveG G τ st [id], τ, .inl (run_v (core he (hv.trans hx) hle (optInt_res hlo hl) (optInt_res hhi hh') p0 p1 p2)), rep hle hr p0 p1 p2, ?_, Ext.give hm [id], fun _ _ => rfl⟩
          exact Mem.give hm [id]
      · simp [T.run] at h
    · simp [T.run] at h
  · split at h
    · rename_i el m l hh he hl hh'
      simp only [T.run, Option.some.injEq, Prod.mk.injEq] at h
      obtain ⟨rfl, _⟩ := h
      have p0 : 0 ≤ l := hp _ (by simp)
      have p1 : l ≤ hh := hp _ (by simp)
      have p2 : hh ≤ ((([] : List (List V)).length : Nat) : Int) := hp _ (List.mem_cons_of_mem _ (List.mem_cons_of_mem _ (List.mem_cons_self ..)))
      simp only [V.rep, V.repI] at hv
      have k := core (rows := []) (a := none) (cap := 0) he hv (Nat.le_refl _) (optInt_res hlo hl) (optInt_res hhi hh') p0 p1 p2
      simp only [List.length_nil] at p2
      have e1 : l = 0 := by omega
      have e2 : hh = 0 := by omega
      subst e1 e2
      exact OpRes.pure hm (run_v (x := .slice none 0 0) (by simpa using k)) (by simp only [V.rep, V.repI])
    · simp [T.run] at h
  · split at h
    · rename_i s l hu hl _ _ _
      split at h
      · rename_i hh hh'
        simp only [T.run, Option.some.injEq, Prod.mk.injEq] at h
        obtain ⟨rfl, _⟩ := h
        have p0 : 0 ≤ l := hp _ (by simp)
        have p1 : l ≤ hh := hp _ (by simp)
        have p2 : hh ≤ (s.size : Int) := hp _ (by simp)
        simp only [V.rep, V.repI] at hv
        subst hv
        refine OpRes.pure hm (run_v (x := .string (s.extract l.toNat hh.toNat)) ?_) (by simp only [V.rep, V.repI])
        simp only [Instr.sliceAt, Sem.run_bind, run_underlying hu, Result.andThen_ok, Instr.slice]
        simp only [Option.isSome_none, Bool.false_eq_true, if_false]
        rw [Sem.run_bind, run_sliceBounds (optInt_res hlo hl) (optInt_res hhi hh') p0 p1 p2 (Nat.le_refl _)]
        simp
      · simp [T.run] at h
    · simp [T.run] at h

/-! ### Appends -/

/-- One slice takes another one's block over. -/
theorem Mem.move {base : Nat} {X G : Nat → Prop} {τ : Nat → Gh} {st : Nat → Option E.Obj} {w w' : World} {ids : List Nat} {id site : Nat} {g : Gh} {o o' : E.Obj}
    (hm : Mem base X G τ st w) (hi : st id = some o) (hc : Closed ids st) (hs : site ∉ ids) (hg : g.blk = (τ id).blk) (hsz : w'.heap.size = w.heap.size) (hne : ∀ k, (∀ b, (τ id).blk = some b → k ≠ b) → w'.heap[k]? = w.heap[k]?)
    (hok : o'.ok w' G (setGh τ site g) site) (hpl : o'.plain = true := by rfl) : Mem base X G (setGh τ site g) (putSt st [(id, none), (site, some o')]) w' := by
  have hst : ∀ i p, putSt st [(id, none), (site, some o')] i = some p → (i = site ∧ p = o') ∨ (i ≠ site ∧ i ≠ id ∧ st i = some p) := by
    intro i p h
    simp only [putSt] at h
    by_cases h1 : i = site
    · subst h1; simp at h; exact .inl ⟨rfl, h.symm⟩
    · have h1' : (i == site) = false := by simpa using h1
      simp only [h1', cond_false] at h
      by_cases h2 : i = id
      · subst h2; simp at h
      · have h2' : (i == id) = false := by simpa using h2
        simp only [h2', cond_false] at h
        exact .inr ⟨h1, h2, h⟩
  have hother : ∀ i p b, i ≠ id → st i = some p → (τ i).blk = some b → ∀ b', (τ id).blk = some b' → b ≠ b' := fun i p b hne' h hb b' hb' e => hne' (hm.inj i id p o b h hi hb (e ▸ hb'))
  have hnG : ∀ b, (τ id).blk = some b → ¬ G b := fun b hb => (Obj.ok_blk (hm.ok id o hi) hb).1
  refine ⟨fun k hk => by rw [hsz]; exact hm.gold k hk, fun i p h => ?_, fun i p b h hb => ?_, fun i j p q b h1 h2 hb1 hb2 => ?_, ?_⟩
  rotate_left 3
  · refine Sub.step (fun i => i) hm.sub (fun b hb => ⟨hb, hne b fun b' hb' e => hnG b' hb' (e ▸ hb)⟩) (by omega) (fun _ _ h => h) (fun i p h hp => ?_) (fun i j _ _ _ _ _ _ h => h) (fun b _ hg _ hj => ⟨hne b fun b' hb' e => hj id o hi (e ▸ hb'), hg⟩) (fun i p b h hb => ?_)
    · rcases hst i p h with ⟨_, e⟩ | ⟨n1, n2, h⟩
      · rw [e, hpl] at hp; cases hp
      · exact ⟨h, setGh_ne n1, fun j hj => setGh_ne fun e => hs (e ▸ (hc i p h).2 j hj), fun b hb => hne b (hother i p b n2 h hb)⟩
    · rcases hst i p h with ⟨e, _⟩ | ⟨n1, n2, h⟩
      · rw [e, setGh_same, hg] at hb; exact .inr ⟨id, o, hi, hb⟩
      · rw [setGh_ne n1] at hb; exact .inr ⟨i, p, h, hb⟩
  · rcases hst i p h with ⟨e, e'⟩ | ⟨n1, n2, h⟩
    · rw [e, e']; exact hok
    · exact Obj.ok_mono (fun b hb => ⟨hb, hne b fun b' hb' e => hnG b' hb' (e ▸ hb)⟩) (fun b hb => ⟨hne b (hother i p b n2 h hb), fun h => h⟩) (setGh_ne n1)
        (fun j hj => setGh_ne fun e => hs (e ▸ (hc i p h).2 j hj)) (hm.ok i p h)
  · rcases hst i p h with ⟨e, _⟩ | ⟨n1, n2, h⟩
    · rw [e, setGh_same, hg] at hb; exact hm.own id o b hi hb
    · rw [setGh_ne n1] at hb; exact hm.own i p b h hb
  · rcases hst i p h1 with ⟨e1, _⟩ | ⟨n1, n2, k1⟩ <;> rcases hst j q h2 with ⟨e2, _⟩ | ⟨m1, m2, k2⟩
    · rw [e1, e2]
    · rw [e1, setGh_same, hg] at hb1; rw [setGh_ne m1] at hb2
      exact absurd rfl (hother j q b m2 k2 hb2 b hb1)
    · rw [e2, setGh_same, hg] at hb2; rw [setGh_ne n1] at hb1
      exact absurd rfl (hother i p b n2 k1 hb1 b hb2)
    · rw [setGh_ne n1] at hb1; rw [setGh_ne m1] at hb2; exact hm.inj i j p q b k1 k2 hb1 hb2

theorem lenOf_run (P : Program) (w : World) (a : Option Addr) (n c : Nat) : (Builtin.lenOf (.slice a n c)).run P w = .ok n w := rfl

/-- What is appended, as it is read. -/
theorem rowsAt_res {P : Program} {base : Nat} {X G : Nat → Prop} {τ : Nat → Gh} {st : Nat → Option E.Obj} {w : World} {n : Nat} {v : V} {x : Value} {new : List (List V)} {rs : List Nat}
    (hm : Mem base X G τ st w) (hv : v.rep w G τ x) (h : (rowsAt n v).run st = some (new, rs)) :
    ∃ a c, x = .slice a new.length c ∧ ∃ xs : List Value, (∀ w1 : World, w1.heap = w.heap → (Builtin.firstCells n new.length x).run P w1 = .ok xs.toArray w1) ∧ repIL w G new.flatten xs ∧ xs.length = new.length * n ∧ ∀ r ∈ new, r.length = n := by
  have core : ∀ {rows : List (List V)} {b o c : Nat}, x = .slice (some ⟨b, o, none⟩) rows.length c → repRows w G n b o rows →
      ∃ a c, x = .slice a rows.length c ∧ ∃ xs : List Value, (∀ w1 : World, w1.heap = w.heap → (Builtin.firstCells n rows.length x).run P w1 = .ok xs.toArray w1) ∧ repIL w G rows.flatten xs ∧ xs.length = rows.length * n ∧ ∀ r ∈ rows, r.length = n := by
    intro rows b o c hx hr
    obtain ⟨xs, h1, h2, h3⟩ := repRows_flat hr
    refine ⟨_, _, hx, xs, fun w1 hw1 => ?_, h1, h2, repRows_len hr⟩
    subst hx
    simp only [Builtin.firstCells]
    rw [← h2]
    exact run_loadCells_list w1 _ xs fun j y hj => by rw [add_plain]; have := h3 j y hj; simp only [World.cell?, hw1] at this ⊢; exact this
  unfold rowsAt at h
  split at h
  · simp only [T.run, Option.some.injEq, Prod.mk.injEq] at h
    obtain ⟨rfl, _⟩ := h
    simp only [V.rep, V.repI] at hv
    subst hv
    exact ⟨none, 0, rfl, [], fun _ _ => rfl, by simp [repIL], by simp, by simp⟩
  · rename_i a c
    simp only [T.run, Option.some.injEq, Prod.mk.injEq] at h
    obtain ⟨rfl, _⟩ := h
    simp only [V.rep, V.repI] at hv
    subst hv
    refine ⟨a, c, rfl, [], fun w1 _ => ?_, by simp [repIL], by simp, by simp⟩
    cases a with
    | none => rfl
    | some A => simp only [Builtin.firstCells, List.length_nil, Nat.zero_mul]; rfl
  · rename_i m rows
    cases hmn : m == n with
    | false => simp only [hmn, cond_false, T.run, reduceCtorEq] at h
    | true =>
      simp only [hmn, cond_true, T.run, Option.some.injEq, Prod.mk.injEq] at h
      obtain ⟨rfl, _⟩ := h
      have hmn' : m = n := by simpa using hmn
      subst hmn'
      simp only [V.rep, V.repI] at hv
      obtain ⟨a, c, hx, hle, hr⟩ := hv
      rcases hr with rfl | ⟨b, o, rfl, _, hr⟩
      · refine ⟨_, _, hx, [], fun w1 _ => ?_, by simp [repIL], by simp, by simp⟩
        subst hx
        cases a with
        | none => rfl
        | some a => simp only [Builtin.firstCells, List.length_nil, Nat.zero_mul]; rfl
      · exact core hx hr
  · rename_i id
    obtain ⟨o, r, ho, h, _⟩ := run_ask h
    split at h
    · rename_i m rows
      cases hmn : m == n with
      | false => simp only [hmn, cond_false, T.run, reduceCtorEq] at h
      | true =>
        simp only [hmn, cond_true, T.run, Option.some.injEq, Prod.mk.injEq] at h
        obtain ⟨rfl, _⟩ := h
        have hmn' : m = n := by simpa using hmn
        subst hmn'
        simp only [V.rep, Gh.hdr] at hv
        have hok := hm.ok id _ ho
        simp only [Obj.ok, rowsOk] at hok
        obtain ⟨h1, h2, h3⟩ := hok
        rw [h1] at hv
        rcases h3 with ⟨_, e2, e3⟩ | ⟨b, xs, t, fz, e1, e2, _, _, _, _, e7⟩
        · have hr0 : rows = [] := by apply List.eq_nil_of_length_eq_zero; omega
          subst hr0
          rw [e2] at hv
          exact ⟨none, _, hv, [], fun _ _ => by subst hv; rfl, by simp [repIL], by simp, by simp⟩
        · rw [e2] at hv
          exact core hv e7
    · simp [T.run] at h
  · simp [T.run] at h

theorem strRows_flat {w : World} {G : Nat → Prop} : ∀ l : List UInt8, repIL w G (l.map fun b => intRow .u8 b.toNat).flatten (l.map fun b => .int .u8 b.toNat)
  | [] => by simp [repIL]
  | b :: l => by simp only [List.map_cons, List.flatten_cons, intRow, List.cons_append, List.nil_append, repIL]; exact ⟨⟨by simp only [V.repI], rfl⟩, strRows_flat l⟩

theorem grow_bound {need cap bytes : Nat} (h : need * bytes ≤ 2 ^ 47) (hc : cap < need) : ¬ Builtin.nextslicecap need cap * bytes > 2 ^ 48 := by
  have key : Builtin.nextslicecap need cap ≤ 2 * need := by
    unfold Builtin.nextslicecap
    split
    · omega
    · split
      · omega
      · rename_i h1 h2
        have : ∀ rounds c, c ≤ 2 * need → 256 ≤ c → Builtin.growBy need rounds c ≤ 2 * need := by
          intro rounds
          induction rounds with
          | zero => intro c hc _; simpa [Builtin.growBy] using hc
          | succ r ih =>
            intro c hc h256
            simp only [Builtin.growBy]
            split
            · exact hc
            · exact ih _ (by omega) (by omega)
        exact this 4 cap (by omega) (by omega)
  have : Builtin.nextslicecap need cap * bytes ≤ 2 * need * bytes := Nat.mul_le_mul_right _ key
  rw [Nat.mul_assoc] at this
  omega

theorem bytesOf_run {P : Program} {t : TypeId} {n : Nat} (h : szOf P t = some n) (w : World) : ∃ i, (typeInfo t).run P w = .ok i w ∧ i.bytes = bytesOf P t := by
  unfold szOf at h
  split at h
  · rename_i i hi
    exact ⟨i, by simp [typeInfo, hi], by simp [bytesOf, hi]⟩
  · simp at h

theorem zeroCells_size (z : Array Value) (n : Nat) : (Builtin.zeroCells z n).size = n * z.size := by simp [Builtin.zeroCells]

/-- What append answers: into the block that is there, or into a new one. -/
theorem run_append {P : Program} {w : World} {sT uT el ty : TypeId} {n len cap k : Nat} {base : Option Addr} {x : Value} {old new : List Value} {z : List V}
    (hu : P.underlying sT = some (.slice el)) (hn : szOf P el = some n) (hz : zeroOf P el = some z) (hzl : z.length = n) (hd : P.underlying uT = some .string ∨ ∃ e, P.underlying uT = some (.slice e)) (hb1 : 1 ≤ bytesOf P el)
    (hlen : (Builtin.lenOf x).run P w = .ok k w) (hnew : ∀ w1 : World, w1.heap = w.heap → (Builtin.firstCells n k x).run P w1 = .ok new.toArray w1) (hold : ∀ w1 : World, w1.heap = w.heap → (Builtin.firstCells n len (.slice base len cap)).run P w1 = .ok old.toArray w1)
    (hol : old.length = len * n) (hnl : new.length = k * n) (hsz : (len + k) * bytesOf P el ≤ 2 ^ 47) :
    (len + k ≤ cap ∧ ∀ w', (∀ a, base = some a → (storeCells (a.add (len * n)) new).run P w = .ok () w') → (base = none → w' = w) →
      (Builtin.append_ #[sT, uT] ty #[.slice base len cap, x]).run P w = .ok (.slice base (len + k) cap) w') ∨
    (cap < len + k ∧ ∃ (c : Array Value) (newCap : Nat), len + k ≤ newCap ∧ c.size = newCap * n ∧ c.toList.take ((len + k) * n) = old ++ new ∧
      (Builtin.append_ #[sT, uT] ty #[.slice base len cap, x]).run P w = .ok (.slice (some ⟨w.heap.size, 0, none⟩) (len + k) newCap) (w.drew.alloc (.cells c el (0, 0)))) := by
  obtain ⟨i, hi, hib⟩ := bytesOf_run hn w
  obtain ⟨z0, hz0, hz0', _⟩ := zeroOf_run hz w
  have hz1 : z0.cells.size = n := by rw [hz0'] at hzl; simpa using hzl
  have hargs : (#[sT, uT][0]?, (#[Value.slice base len cap, x] : Array Value)[0]?, (#[Value.slice base len cap, x] : Array Value)[1]?) = (some sT, some (Value.slice base len cap), some x) := rfl
  by_cases hc : len + k ≤ cap
  · left
    refine ⟨hc, fun w' hs hnone => ?_⟩
    simp only [Builtin.append_, hargs, Sem.run_bind, run_underlying hu, Result.andThen_ok, szOf_run hn w]
    rcases hd with hd | ⟨_, hd⟩
    all_goals
      simp only [show (#[sT, uT] : Array TypeId)[1]? = some uT from rfl, Sem.run_bind, run_underlying hd, Sem.run_pure, Result.andThen_ok, Bool.false_eq_true, if_false, hlen, Bool.not_false, if_true, if_pos hc, hnew w rfl]
      cases base with
      | none => simp only [hnone rfl]; rfl
      | some a => simp only [Sem.run_bind, hs a rfl, Result.andThen_ok]; rfl
  · right
    have hc' : cap < len + k := by omega
    refine ⟨hc', ?_⟩
    have hgb := grow_bound hsz hc'
    refine ⟨old.toArray ++ new.toArray ++ Builtin.zeroCells z0.cells ((Question.appendCap (len + k) cap el).cut (w.tape w.drawn (.appendCap (len + k) cap el)) - (len + k)), (Question.appendCap (len + k) cap el).cut (w.tape w.drawn (.appendCap (len + k) cap el)), ?_, ?_, ?_, ?_⟩
    · show len + k ≤ len + k + _; omega
    · have hge : len + k ≤ (Question.appendCap (len + k) cap el).cut (w.tape w.drawn (.appendCap (len + k) cap el)) := by show len + k ≤ len + k + _; omega
      generalize (Question.appendCap (len + k) cap el).cut (w.tape w.drawn (.appendCap (len + k) cap el)) = q at hge
      simp only [Array.size_append, List.size_toArray, zeroCells_size, hz1, hol, hnl]
      rw [← Nat.add_mul, ← Nat.add_mul]; congr 1; omega
    · simp only [Array.toList_append]
      rw [List.take_left' (by simp [hol, hnl, Nat.add_mul])]
    · have hi' : (typeInfo el).run P w.drew = .ok i w.drew := by
        have : P.info? el = some i := by
          unfold typeInfo at hi
          simp only [Sem.run_bind, run_program, Result.andThen_ok] at hi
          cases hq : P.info? el with
          | none => simp [hq] at hi
          | some j => simp only [hq, Sem.run_pure, Result.ok.injEq] at hi; rw [hi.1]
        simp [typeInfo, this]
      obtain ⟨z1, hz1', _, _⟩ := zeroOf_run hz w.drew
      have hzz : (zeroValue el).run P w.drew = .ok z0 w.drew := by
        have h3 := hz0
        have h4 := hz1'
        unfold zeroValue at h3 h4 ⊢
        simp only [Sem.run_bind, hi, hi', Result.andThen_ok] at h3 h4 ⊢
        cases hq : i.zero with
        | none => simp [hq] at h3
        | some j => simp only [hq, Sem.run_pure, Result.ok.injEq] at h3 ⊢; exact ⟨h3.1, trivial⟩
      simp only [Builtin.append_, hargs, Sem.run_bind, run_underlying hu, Result.andThen_ok, szOf_run hn w]
      rcases hd with hd | ⟨_, hd⟩
      all_goals
        simp only [show (#[sT, uT] : Array TypeId)[1]? = some uT from rfl, Sem.run_bind, run_underlying hd, Sem.run_pure, Result.andThen_ok, Bool.false_eq_true, if_false, hlen, Bool.not_false, if_true, if_neg hc, hi, hib, false_or]
        rw [if_neg (by rintro ⟨_, h⟩; omega)]
        simp only [Sem.run_bind, hi, Result.andThen_ok, hib, if_neg hgb]
        simp only [run_choose_drew, Question.forced, Bool.false_eq_true, if_false, Result.andThen_ok, hi', hib, run_askRoom, Sem.run_bind, hold w.drew rfl, hnew w.drew rfl, hzz, newRow, run_newObj_alloc, Sem.run_pure]
        rfl

end Go.Proofs.YtinfjnnffmlpmaaGreatDoor.E

