/- The engine, part B: what a run of the engine is. -/
import Derived.Test.YtfpdlamjlbpmkaaEngA
namespace Go.Proofs.Ytfpdlamjlbpmkaa.E
open Go

/-- A tree that asks for objects on its way. -/
inductive T (α : Type) where
  | ret (a : α)
  | ask (id : Nat) (k : Obj → T α)
  | fail

def T.bind {α β : Type} : T α → (α → T β) → T β
  | .ret a, f => f a
  | .ask id k, f => .ask id fun o => (k o).bind f
  | .fail, _ => .fail

def T.run {α : Type} (st : Nat → Option Obj) : T α → Option (α × List Nat)
  | .ret a => some (a, [])
  | .ask id k => match st id with
    | none => none
    | some o => match (k o).run st with
      | none => none
      | some (a, rs) => some (a, id :: rs)
  | .fail => none

def T.of {α : Type} : Option α → T α
  | some a => .ret a
  | none => .fail

/-- What an operation does: its value, what objects become, what was to hold, which names are new. -/
structure Eff where
  v : V
  ws : List (Nat × Option Obj)
  obs : List Prop
  new : List Nat

def Eff.val (v : V) : Eff := ⟨v, [], [], []⟩

inductive Ans where
  | br (t : Bool)
  | row (cells : List V)
  | idx (n : Nat)
  | str (s : ByteArray)
  | call (pass give : List Nat) (r : V) (objs : List (Option Obj))
  | ext (pass give : List Nat) (r : V) (objs : List (Option Obj))
  | app (F : List V → Option V)
  | be (v : V)
  | beO (rows : List (List V))

/-! ## Scalars -/

def ofCell (x : Value) : V := match x with
  | .slice none 0 0 => .nil
  | x => .val x

def ofVal1 (x : Value) : V := match x with
  | .agg xs => .agg (xs.toList.map ofCell)
  | x => ofCell x

def ofVal (x : Value) : V := match x with
  | .tuple xs => .tup (xs.toList.map ofVal1)
  | x => ofVal1 x

def cellVal : V → Option Value
  | .val x => some x
  | .nil => some (.slice none 0 0)
  | _ => none

def allSome {α β : Type} (f : α → Option β) : List α → Option (List β)
  | [] => some []
  | a :: l => match f a with
    | none => none
    | some b => match allSome f l with
      | none => none
      | some bs => some (b :: bs)

def V.toVal1 : V → Option Value
  | .agg cs => match allSome cellVal cs with
    | none => none
    | some xs => some (.agg xs.toArray)
  | v => cellVal v

def V.toVal : V → Option Value
  | .tup vs => match allSome V.toVal1 vs with
    | none => none
    | some xs => some (.tuple xs.toArray)
  | v => v.toVal1

/-- What a tree of operations comes to if it asks for no memory. -/
def still {α : Type} (P : Program) : Sem α → Option α
  | .pure a => some a
  | .program k => still P (k P)
  | .mark _ k => still P k
  | _ => none

def genOp (P : Program) (rd : Operand → V) (o : Oper) : T Eff :=
  match allSome (fun x => (rd x).toVal) o.op.operands.toList with
  | none => .fail
  | some _ => match still P (execOp (fun x => ((rd x).toVal).getD Go.undef) o) with
    | some (.value v) => .ret (Eff.val (ofVal v))
    | _ => .fail

/-! ## Cells -/

def V.one : V → Bool
  | .agg _ => false
  | .undef => false
  | .tup _ => false
  | .val x => match x with
    | .agg _ => false
    | .tuple _ => false
    | _ => true
  | _ => true

def V.cells : V → Option (List V)
  | .agg cs => bif cs.all V.one then some cs else none
  | v => bif v.one then some [v] else none

def szOf (P : Program) (t : TypeId) : Option Nat := match P.info? t with
  | some i => some i.size
  | none => none

def zeroOf (P : Program) (t : TypeId) : Option (List V) := match P.info? t with
  | some i => match i.zero with
    | some z => bif z.cells.toList.all Value.oneCell' then some (z.cells.toList.map ofCell) else none
    | none => none
  | none => none

def isAggB (P : Program) (t : TypeId) : Option Bool := match P.underlying t with
  | some (.struct _) => some true
  | some (.array _ _) => some true
  | some _ => some false
  | none => none

def takeCells (P : Program) (t : TypeId) (cells : List V) (off : Nat) : Option V :=
  match isAggB P t, szOf P t with
  | some true, some n => bif Nat.ble (off + n) cells.length then some (.agg ((cells.drop off).take n)) else none
  | some false, some _ => cells[off]?
  | _, _ => none

def splice (cells : List V) (off : Nat) (new : List V) : Option (List V) :=
  bif Nat.ble (off + new.length) cells.length then some (cells.take off ++ new ++ cells.drop (off + new.length)) else none

/-- Which cells of a type are slices, and how many cells their elements have. -/
def kinds (P : Program) : Nat → TypeId → Option (List (Option Nat))
  | 0, _ => none
  | d + 1, t => match P.underlying t with
    | some (.slice e) => match szOf P e with
      | some n => some [some n]
      | none => none
    | some (.struct fs) => match allSome (fun (f : Field) => kinds P d f.type) fs.toList with
      | some l => some l.flatten
      | none => none
    | some (.array k e) => match kinds P d e with
      | some l => some (List.replicate k l).flatten
      | none => none
    | some _ => some [none]
    | none => none

def fixCells : List (Option Nat) → List V → List V
  | some n :: ks, .nil :: cs => .sl n [] :: fixCells ks cs
  | _ :: ks, c :: cs => c :: fixCells ks cs
  | [], cs => cs
  | _ :: _, [] => []

/-- A nil slice that is handed on is a slice without rows. -/
def fixV (P : Program) (t : TypeId) (v : V) : V := match v with
  | .agg cs => match kinds P 40 t with
    | some ks => .agg (fixCells ks cs)
    | none => .agg cs
  | .nil => match P.underlying t with
    | some (.slice e) => match szOf P e with
      | some n => .sl n []
      | none => .nil
    | _ => .nil
  | v => v

def fixRow (P : Program) (t : TypeId) (cs : List V) : List V := match kinds P 40 t with
  | some ks => fixCells ks cs
  | none => cs

/-- Cells that lie in a slice's row stand for themselves: a slice that is owned is given up. -/
def settle : List V → T (List V × List Nat)
  | [] => .ret ([], [])
  | c :: cs => match c with
    | .own id => .ask id fun o => match o with
      | .arr n rows => (settle cs).bind fun r => .ret (.sl n rows :: r.1, id :: r.2)
      | _ => .fail
    | .val x => (settle cs).bind fun r => .ret (.val x :: r.1, r.2)
    | .nil => (settle cs).bind fun r => .ret (.nil :: r.1, r.2)
    | .sl n rows => (settle cs).bind fun r => .ret (.sl n rows :: r.1, r.2)
    | _ => .fail

def kills (ids : List Nat) : List (Nat × Option Obj) := ids.map fun i => (i, none)

def evAlloc (P : Program) (site : Nat) (t : TypeId) : T Eff := match zeroOf P t with
  | some cs => .ret ⟨.ptr site 0 0 0, [(site, some (.box cs))], [], [site]⟩
  | none => .fail

def evBox (site : Nat) (v : V) : T Eff := match v.cells with
  | some cs => .ret ⟨.ptr site 0 0 0, [(site, some (.box cs))], [], [site]⟩
  | none => .fail

def fillV (place : Nat → Option (Nat × Nat)) (cells : List V) : List (Nat × V) → Option (List V)
  | [] => some cells
  | (i, v) :: rest => match place i, v.cells with
    | some (off, size), some cs => bif cs.length == size then (match splice cells off cs with
      | some cells' => fillV place cells' rest
      | none => none) else none
    | _, _ => none

def placesOf (P : Program) (t : TypeId) : Option (Nat → Option (Nat × Nat)) := match P.underlying t with
  | some (.struct fields) => match allSome (fun (f : Field) => match szOf P f.type with
      | some n => some (f.offset, n)
      | none => none) fields.toList with
    | some l => some fun i => l[i]?
    | none => none
  | some (.array _ e) => match szOf P e with
    | some n => some fun i => some (i * n, n)
    | none => none
  | _ => none

def evBuild (P : Program) (rd : Operand → V) (t : TypeId) (parts : Array (Nat × Operand)) : T Eff :=
  match zeroOf P t, placesOf P t with
  | some z, some place => match fillV place z (parts.toList.map fun p => (p.1, rd p.2)) with
    | some cs => .ret (Eff.val (.agg cs))
    | none => .fail
  | _, _ => .fail

/-- The rows of a slice that is written out: each place once, in order. -/
def rowsOf (P : Program) (t : TypeId) (n : Nat) : Nat → List (Nat × V) → T (List (List V) × List Nat)
  | _, [] => .ret ([], [])
  | k, (i, v) :: rest => bif i == k then (match v.cells with
    | some cs => bif cs.length == n then (settle (fixRow P t cs)).bind fun r => (rowsOf P t n (k + 1) rest).bind fun rs => .ret (r.1 :: rs.1, r.2 ++ rs.2) else .fail
    | none => .fail) else .fail

def elemOfSlice (P : Program) (t : TypeId) : Option (TypeId × Nat) := match P.underlying t with
  | some (.slice e) => match szOf P e with
    | some n => some (e, n)
    | none => none
  | _ => none

def evBuildSlice (P : Program) (rd : Operand → V) (site : Nat) (t : TypeId) (len : Nat) (parts : Array (Nat × Operand)) : T Eff :=
  match elemOfSlice P t with
  | some (e, n) => match zeroOf P e with
    | some z => bif Nat.ble 1 n && (z.length == n && (parts.size == len && Nat.ble (len * n) (2 ^ 24))) then
      (rowsOf P e n 0 (parts.toList.map fun p => (p.1, rd p.2))).bind fun r => .ret ⟨.own site, kills r.2 ++ [(site, some (.arr n r.1))], [], [site]⟩
      else .fail
    | none => .fail
  | none => .fail

/-! ## Loads, stores, addresses -/

def rowOf (ans : List Ans) (rows : List (List V)) (row : Nat) : T (List V × List Prop) := match ans with
  | .row cells :: _ => .ret (cells, [rows[row]? = some cells])
  | _ => match rows[row]? with
    | some cells => .ret (cells, [])
    | none => .fail

def evLoad (P : Program) (ans : List Ans) (t : TypeId) (a : V) : T Eff := match a with
  | .ptr id n row off => .ask id fun o => match o with
    | .box cells => bif row == 0 then (match takeCells P t cells off with
      | some v => .ret (Eff.val v)
      | none => .fail) else .fail
    | .arr m rows => bif m == n then ((rowOf ans rows row).bind fun r => match takeCells P t r.1 off with
      | some v => .ret ⟨v, [], r.2, []⟩
      | none => .fail) else .fail
    | .blk _ _ _ => .fail
  | .iptr _ rows row off => (rowOf ans rows row).bind fun r => match takeCells P t r.1 off with
      | some v => .ret ⟨v, [], r.2, []⟩
      | none => .fail
  | _ => .fail

def evStore (P : Program) (ans : List Ans) (t : TypeId) (a v : V) : T Eff := match a, v.cells, szOf P t with
  | .ptr id m row off, some cs, some n => bif cs.length == n then .ask id fun o => match o with
      | .box cells => bif row == 0 then (match splice cells off cs with
        | some cells' => .ret ⟨.val Go.undef, [(id, some (.box cells'))], [], []⟩
        | none => .fail) else .fail
      | .arr k rows => bif k == m then ((rowOf ans rows row).bind fun r => (settle (fixRow P t cs)).bind fun s => match splice r.1 off s.1 with
        | some cells' => bif s.2.contains id then .fail else .ret ⟨.val Go.undef, kills s.2 ++ [(id, some (.arr k (rows.set row cells')))], r.2, []⟩
        | none => .fail) else .fail
      | .blk _ _ _ => .fail
    else .fail
  | _, _, _ => .fail

def evFieldAddr (P : Program) (t : TypeId) (a : V) (f : Nat) : T Eff := match P.underlying t with
  | some (.struct fields) => match fields[f]? with
    | some fd => match szOf P fd.type with
      | some n => bif n == 0 then .fail else (match a with
        | .ptr id m row off => .ret (Eff.val (.ptr id m row (off + fd.offset)))
        | .iptr m rows row off => .ret (Eff.val (.iptr m rows row (off + fd.offset)))
        | _ => .fail)
      | none => .fail
    | none => .fail
  | _ => .fail

def evField (P : Program) (t : TypeId) (x : V) (f : Nat) : T Eff := match P.underlying t with
  | some (.struct fields) => match fields[f]? with
    | some fd => match x with
      | .agg cs => match takeCells P fd.type cs fd.offset with
        | some v => .ret (Eff.val v)
        | none => .fail
      | _ => .fail
    | none => .fail
  | _ => .fail

/-- An index: as it stands, or, where it is no numeral, the one that the answer names. -/
def litOf (ans : List Ans) (i : Int) : T (Nat × List Prop) := match ans with
  | .idx n :: _ => .ret (n, [i = (n : Int)])
  | _ => match i with
    | .ofNat n => .ret (n, [])
    | _ => .fail

def evIndexAddr (P : Program) (ans : List Ans) (t : TypeId) (x i : V) : T Eff := match P.underlying t with
  | some (.array len e) => match szOf P e, i with
    | some n, .val (.int _ i) => (litOf ans i).bind fun r => bif Nat.blt r.1 len then (match x with
      | .ptr id m row off => .ret ⟨.ptr id m row (off + r.1 * n), [], r.2, []⟩
      | .iptr m rows row off => .ret ⟨.iptr m rows row (off + r.1 * n), [], r.2, []⟩
      | _ => .fail) else .fail
    | _, _ => .fail
  | some (.slice e) => match szOf P e, i with
    | some n, .val (.int _ i) => bif n == 0 then .fail else (match x with
      | .sl m rows => bif m == n then .ret ⟨.iptr n rows i.toNat 0, [], [0 ≤ i, i < (rows.length : Int)], []⟩ else .fail
      | .own id => .ask id fun o => match o with
        | .arr m rows => bif m == n then .ret ⟨.ptr id n i.toNat 0, [], [0 ≤ i, i < (rows.length : Int)], []⟩ else .fail
        | _ => .fail
      | _ => .fail)
    | _, _ => .fail
  | _ => .fail

def evIndex (P : Program) (ans : List Ans) (t : TypeId) (x i : V) : T Eff := match P.underlying t, i with
  | some (.array len e), .val (.int _ i) => match szOf P e, x with
    | some n, .agg cs => (litOf ans i).bind fun r => bif Nat.blt r.1 len then (match takeCells P e cs (r.1 * n) with
      | some v => .ret ⟨v, [], r.2, []⟩
      | none => .fail) else .fail
    | _, _ => .fail
  | some .string, .val (.int _ i) => match x with
    | .val (.string s) => .ret ⟨.val (.int .u8 (s.data.getD i.toNat 0).toNat), [], [0 ≤ i, i < (s.size : Int)], []⟩
    | _ => .fail
  | _, _ => .fail

/-! ## Slices -/

def bytesOf (P : Program) (t : TypeId) : Nat := match P.info? t with
  | some i => i.bytes
  | none => 0

/-- The rows of a slice, whoever owns it, of n cells each. -/
def rowsAt (n : Nat) (v : V) : T (List (List V)) := match v with
  | .nil => .ret []
  | .val (.slice _ 0 _) => .ret []
  | .sl m rows => bif m == n then .ret rows else .fail
  | .own id => .ask id fun o => match o with
    | .arr m rows => bif m == n then .ret rows else .fail
    | _ => .fail
  | _ => .fail

def evLen (P : Program) (rd : Operand → V) (o : Oper) (x : V) : T Eff := match x with
  | .nil => .ret (Eff.val (.val (.int .i64 0)))
  | .sl _ rows => .ret (Eff.val (.val (.int .i64 rows.length)))
  | .vw _ _ a b => .ret (Eff.val (.val (.int .i64 ((b - a : Nat) : Int))))
  | .own id => .ask id fun o => match o with
    | .arr _ rows => .ret (Eff.val (.val (.int .i64 rows.length)))
    | _ => .fail
  | _ => genOp P rd o

def elemOf (P : Program) (t : TypeId) : TypeId := match P.underlying t with
  | some (.slice e) => e
  | _ => 0

def optInt (d : Int) : Option V → Option Int
  | none => some d
  | some (.val (.int _ i)) => some i
  | some _ => none

def evSlice (P : Program) (t : TypeId) (x : V) (lo hi : Option V) : T Eff := match x with
  | .sl n rows => match elemOfSlice P t, optInt 0 lo, optInt rows.length hi with
    | some (_, m), some l, some h => bif m == n then .ret ⟨.sl n ((rows.take h.toNat).drop l.toNat), [], [0 ≤ l, l ≤ h, h ≤ (rows.length : Int)], []⟩ else .fail
    | _, _, _ => .fail
  | .own id => .ask id fun o => match o with
    | .arr n rows => match elemOfSlice P t, optInt 0 lo, optInt rows.length hi with
      | some (_, m), some l, some h => bif m == n then .ret ⟨.sl n ((rows.take h.toNat).drop l.toNat), [(id, none)], [0 ≤ l, l ≤ h, h ≤ (rows.length : Int)], []⟩ else .fail
      | _, _, _ => .fail
    | _ => .fail
  | .nil => match elemOfSlice P t, optInt 0 lo, optInt (([] : List (List V)).length) hi with
    | some (_, _), some l, some h => .ret ⟨.nil, [], [0 ≤ l, l ≤ h, h ≤ (([] : List (List V)).length : Int)], []⟩
    | _, _, _ => .fail
  | _ => match P.underlying t, x, optInt 0 lo with
    | some .string, .val (.string s), some l => match optInt s.size hi with
      | some h => .ret ⟨.val (.string (s.extract l.toNat h.toNat)), [], [0 ≤ l, l ≤ h, h ≤ (s.size : Int)], []⟩
      | none => .fail
    | _, _, _ => .fail

def intRow (k : IntKind) (n : Int) : List V := [.val (.int k n)]

def strRows (s : ByteArray) : List (List V) := s.data.toList.map fun b => intRow .u8 b.toNat

/-- Rows put behind a slice. -/
def appendTo (P : Program) (site : Nat) (e : TypeId) (n : Nat) (base : V) (new : List (List V)) : T Eff := match base with
    | .nil => .ret ⟨.own site, [(site, some (.arr n new))], [new.length * bytesOf P e ≤ 2 ^ 47], [site]⟩
    | .own id => .ask id fun o => match o with
      | .arr m rows => bif m == n then .ret ⟨.own site, [(id, none), (site, some (.arr n (rows ++ new)))], [(rows.length + new.length) * bytesOf P e ≤ 2 ^ 47], [site]⟩ else .fail
      | _ => .fail
    | _ => .fail

def evAppend (P : Program) (site : Nat) (t u : TypeId) (base x : V) : T Eff := match elemOfSlice P t, P.underlying u, zeroOf P (elemOf P t) with
  | some (e, n), some d, some z => bif Nat.ble 1 n && (z.length == n && Nat.ble 1 (bytesOf P e)) then ((match d, x with
      | .string, .val (.string s) => bif n == 1 then T.ret (strRows s) else .fail
      | .slice _, x => rowsAt n x
      | _, _ => .fail).bind fun new => appendTo P site e n base new) else .fail
  | _, _, _ => .fail

def evMakeSlice (P : Program) (site : Nat) (t : TypeId) (l c : V) : T Eff := match elemOfSlice P t, l, c with
  | some (e, n), .val (.int .i64 l), .val (.int .i64 c) => match zeroOf P e with
    | some z => bif Nat.ble 1 n && (z.length == n && Nat.ble 1 (bytesOf P e)) then .ret ⟨.own site, [(site, some (.arr n (List.replicate l.toNat z)))], [l = c, 0 ≤ l, l.toNat * bytesOf P e ≤ 2 ^ 47], [site]⟩ else .fail
    | none => .fail
  | _, _, _ => .fail

/-! ## Parts of slices that are owned -/

/-- An object's rows, and how far its parts may reach. -/
def Obj.parts : Obj → Option (Nat × List (List V) × Nat)
  | .arr n rows => some (n, rows, rows.length)
  | .blk n rows c => some (n, rows, c)
  | .box _ => none

def Obj.fill (rows : List (List V)) : Obj → Obj
  | .arr n _ => .arr n rows
  | .blk n _ c => .blk n rows c
  | .box cs => .box cs

def flagged : List Ans → Bool
  | .idx _ :: _ => true
  | _ => false

/-- A part of a part. -/
def evPart (P : Program) (t : TypeId) (id n a b : Nat) (lo hi mx : Option V) : T Eff := .ask id fun o => match o.parts, elemOfSlice P t, optInt 0 lo, optInt ((b - a : Nat) : Int) hi with
  | some (m, _, lim), some (_, k), some l, some h => bif m == n && k == n then (match mx with
    | none => .ret ⟨.vw id n (a + l.toNat) (a + h.toNat), [], [0 ≤ l, l ≤ h, a + h.toNat ≤ lim], []⟩
    | some _ => match hi, optInt 0 mx with
      | some _, some x => .ret ⟨.undef, [], [0 ≤ l, l ≤ h, h ≤ x, a + x.toNat ≤ lim], []⟩
      | _, _ => .fail) else .fail
  | _, _, _, _ => .fail

/-- A part of a slice that stays owned. -/
def evPartOwn (P : Program) (t : TypeId) (id : Nat) (lo hi mx : Option V) : T Eff := .ask id fun o => match o with
  | .arr m rows => match elemOfSlice P t, optInt 0 lo, optInt (rows.length : Int) hi with
    | some (_, k), some l, some h => bif m == k then (match mx with
      | none => .ret ⟨.vw id m l.toNat h.toNat, [], [0 ≤ l, l ≤ h, h.toNat ≤ rows.length], []⟩
      | some _ => match hi, optInt 0 mx with
        | some _, some x => .ret ⟨.undef, [], [0 ≤ l, l ≤ h, h ≤ x, x.toNat ≤ rows.length], []⟩
        | _, _ => .fail) else .fail
    | _, _, _ => .fail
  | _ => .fail

/-- A part that begins where the block begins is a slice that is owned. -/
def evSeal (site : Nat) (id n b : Nat) : T Eff := .ask id fun o => match o.parts with
  | some (m, rows, _) => bif m == n then .ret ⟨.own site, [(id, none), (site, some (.arr n (rows.take b)))], [b ≤ rows.length], [site]⟩ else .fail
  | none => .fail

def evMove (site : Nat) (ans : List Ans) (v : V) : T Eff := bif flagged ans then (match v with
  | .vw id n a b => bif a == 0 then evSeal site id n b else .fail
  | .nil => match ans with
    | .idx n :: .idx _ :: .idx _ :: _ => .ret ⟨.vw site n 0 0, [(site, some (.blk n [] 0))], [], [site]⟩
    | .idx n :: .idx _ :: _ => .ret (Eff.val (.sl n []))
    | .idx n :: _ => .ret ⟨.own site, [(site, some (.arr n []))], [], [site]⟩
    | _ => .fail
  | .own id => .ask id fun o => match o, ans with
    | .arr n rows, .idx 1 :: _ => .ret ⟨.sl n rows, kills [id], [], []⟩
    | .arr n rows, _ => .ret ⟨.own site, [(id, none), (site, some (.arr n rows))], [], [site]⟩
    | _, _ => .fail
  | _ => .fail) else .ret (Eff.val v)

def evCap (v : V) : T Eff := match v with
  | .vw id _ a _ => .ask id fun o => match o with
    | .blk _ _ c => .ret (Eff.val (.val (.int .i64 ((c - a : Nat) : Int))))
    | _ => .fail
  | .nil => .ret (Eff.val (.val (.int .i64 0)))
  | _ => .fail

/-- The rows that a part, or another slice, has to give, to something that has room for so many. -/
def srcRows (id n : Nat) (rows : List (List V)) (room : Nat) (v : V) : T (List (List V) × List Prop) := match v with
  | .vw id2 n2 a2 b2 => bif id2 == id then (bif n2 == n then .ret ((rows.drop a2).take (min room (b2 - a2)), [a2 + min room (b2 - a2) ≤ rows.length]) else .fail) else .ask id2 fun o => match o.parts with
    | some (m, rows2, _) => bif n2 == n && m == n then .ret ((rows2.drop a2).take (min room (b2 - a2)), [a2 + min room (b2 - a2) ≤ rows2.length]) else .fail
    | none => .fail
  | .sl n2 rows2 => bif n2 == n then .ret (rows2.take room, []) else .fail
  | .nil => .ret ([], [])
  | .own id2 => bif id2 == id then .fail else .ask id2 fun o => match o with
    | .arr m rows2 => bif m == n then .ret (rows2.take room, []) else .fail
    | _ => .fail
  | _ => .fail

/-- Rows put over others. -/
def over (rows : List (List V)) (a : Nat) (new : List (List V)) : List (List V) := rows.take a ++ new ++ rows.drop (a + new.length)

def evCopy (P : Program) (t : TypeId) (dst src : V) : T Eff := match dst, elemOfSlice P t with
  | .vw id n a b, some (_, k) => .ask id fun o => match o.parts with
    | some (m, rows, lim) => bif m == n && k == n then (srcRows id n rows (b - a) src).bind fun s =>
        .ret ⟨.val (.int .i64 (s.1.length : Int)), [(id, some (o.fill (over rows a s.1)))], [a ≤ rows.length, b ≤ lim] ++ s.2, []⟩ else .fail
    | none => .fail
  | _, _ => .fail

def evClear (P : Program) (t : TypeId) (v : V) : T Eff := match v, elemOfSlice P t, zeroOf P (elemOf P t) with
  | .vw id n a b, some (_, k), some z => .ask id fun o => match o.parts with
    | some (m, rows, lim) => bif m == n && (k == n && z.length == n) then .ret ⟨.undef, [(id, some (o.fill (over rows a (List.replicate (b - a) z))))], [a ≤ rows.length, b ≤ lim], []⟩ else .fail
    | none => .fail
  | _, _, _ => .fail

/-- Rows put behind a part, where there is room. -/
def evAppendIn (P : Program) (t u : TypeId) (id n a b : Nat) (x : V) : T Eff := match elemOfSlice P t, elemOfSlice P u with
  | some (_, k), some (_, k') => .ask id fun o => match o.parts with
    | some (m, rows, lim) => bif m == n && (k == n && k' == n) then (match x with
      | .vw id2 n2 a2 b2 => bif id2 == id && n2 == n then .ret ⟨.vw id n a (b + (b2 - a2)), [(id, some (o.fill (over rows b ((rows.drop a2).take (b2 - a2)))))], [b ≤ rows.length, b2 ≤ rows.length, b + (b2 - a2) ≤ lim], []⟩ else .fail
      | _ => .fail) else .fail
    | none => .fail
  | _, _ => .fail

/-- A part of a slice that is owned, put behind another one. -/
def evAppendVw (P : Program) (site : Nat) (t u : TypeId) (base : V) (id2 n2 a2 b2 : Nat) : T Eff := match elemOfSlice P t, P.underlying u, zeroOf P (elemOf P t) with
  | some (e, n), some (.slice _), some z => bif Nat.ble 1 n && (z.length == n && (Nat.ble 1 (bytesOf P e) && n2 == n)) then (.ask id2 fun o => match o.parts with
    | some (m, rows2, _) => bif m == n then (appendTo P site e n base ((rows2.drop a2).take (b2 - a2))).bind fun e => .ret ⟨e.v, e.ws, (b2 ≤ rows2.length) :: e.obs, e.new⟩ else .fail
    | none => .fail) else .fail
  | _, _, _ => .fail

/-- A part, and so many zeros behind it, where there is no room. -/
def evGrow (P : Program) (site : Nat) (t : TypeId) (id n a b : Nat) (x : Int) : T Eff := match elemOfSlice P t with
  | some (e, k) => match zeroOf P e with
    | some z => .ask id fun o => match o with
      | .blk m rows c => bif m == n && (k == n && (z.length == n && (Nat.ble 1 n && Nat.ble 1 (bytesOf P e)))) then .ret ⟨.own site, [(site, some (.arr n ((rows.take b).drop a ++ List.replicate x.toNat z)))], [b ≤ rows.length, 0 ≤ x, c < b + x.toNat, (b - a + x.toNat) * bytesOf P e ≤ 2 ^ 47], [site]⟩ else .fail
      | _ => .fail
    | none => .fail
  | none => .fail

def isIntT (P : Program) (t : TypeId) : Bool := match P.underlying t with
  | some (.int _) => true
  | _ => false

/-! ## What is computed, in other words -/

def recastW : List (Nat × Option Obj) → List (List V) → Option (List (Nat × Option Obj) × List Prop)
  | [(i, some (.arr n r0))], r => some ([(i, some (.arr n r))], [r0 = r])
  | [(i, some (.blk n r0 c))], r => some ([(i, some (.blk n r c))], [r0 = r])
  | x :: y :: l, r => match recastW (y :: l) r with
    | some (l', ps) => some (x :: l', ps)
    | none => none
  | _, _ => none

def recast1 (a : Ans) (e : Eff) : T Eff := match a with
  | .be v => match e.v, v with
    | .val (.int k x), .val (.int k' y) => bif decide (k = k') then .ret { e with v := v, obs := e.obs ++ [x = y] } else .fail
    | .val (.string x), .val (.string y) => .ret { e with v := v, obs := e.obs ++ [x = y] }
    | .sl n x, .sl n' y => bif n == n' then .ret { e with v := v, obs := e.obs ++ [x = y] } else .fail
    | .vw id n a b, .vw id' n' a' b' => bif id == id' && n == n' then .ret { e with v := v, obs := e.obs ++ [a = a', b = b'] } else .fail
    | _, _ => .fail
  | .beO rows => match recastW e.ws rows with
    | some (ws, ps) => .ret { e with ws := ws, obs := e.obs ++ ps }
    | none => .fail
  | _ => .ret e

def recast : List Ans → Eff → T Eff
  | [], e => .ret e
  | a :: l, e => (recast1 a e).bind (recast l)

/-! ## Calls -/

/-- Where a name stands in a list. -/
def idx : List Nat → Nat → Option Nat
  | [], _ => none
  | a :: l, i => bif a == i then some 0 else (match idx l i with
    | some j => some (j + 1)
    | none => none)

mutual
def pass (ids : List Nat) (lend : Bool) : V → T V
  | .own id => match idx ids id with
    | some j => .ret (.own j)
    | none => bif lend then .ask id (fun o => match o with
      | .arr n rows => .ret (.sl n rows)
      | _ => .fail) else .fail
  | .ptr id n r o => match idx ids id with
    | some j => .ret (.ptr j n r o)
    | none => .fail
  | .vw id n a b => match idx ids id with
    | some j => .ret (.vw j n a b)
    | none => .fail
  | .agg cs => (passL ids lend cs).bind fun cs => .ret (.agg cs)
  | .clo fn f c => (passL ids lend f).bind fun f => (passL ids lend c).bind fun c => .ret (.clo fn f c)
  | .tup _ => .fail
  | .val x => .ret (.val x)
  | .nil => .ret .nil
  | .sl n rows => .ret (.sl n rows)
  | .iptr n rows r o => .ret (.iptr n rows r o)
  | .undef => .ret .undef
def passL (ids : List Nat) (lend : Bool) : List V → T (List V)
  | [] => .ret []
  | c :: cs => (pass ids lend c).bind fun c => (passL ids lend cs).bind fun cs => .ret (c :: cs)
end

def passObjs (all : List Nat) : List Nat → T (List Obj)
  | [] => .ret []
  | id :: ids => .ask id fun o => match o with
    | .box cells => (passL all false cells).bind fun cs => (passObjs all ids).bind fun os => .ret (.box cs :: os)
    | .arr n rows => (passObjs all ids).bind fun os => .ret (.arr n rows :: os)
    | .blk n rows c => (passObjs all ids).bind fun os => .ret (.blk n rows c :: os)

mutual
def back (ids : List Nat) : V → Option V
  | .own j => match ids[j]? with
    | some id => some (.own id)
    | none => none
  | .ptr j n r o => match ids[j]? with
    | some id => some (.ptr id n r o)
    | none => none
  | .vw j n a b => match ids[j]? with
    | some id => some (.vw id n a b)
    | none => none
  | .agg cs => match backL ids cs with
    | some cs => some (.agg cs)
    | none => none
  | .tup cs => match backL ids cs with
    | some cs => some (.tup cs)
    | none => none
  | .clo fn f c => match backL ids f, backL ids c with
    | some f, some c => some (.clo fn f c)
    | _, _ => none
  | .val x => some (.val x)
  | .nil => some .nil
  | .sl n rows => some (.sl n rows)
  | .iptr n rows r o => some (.iptr n rows r o)
  | .undef => some .undef
def backL (ids : List Nat) : List V → Option (List V)
  | [] => some []
  | c :: cs => match back ids c, backL ids cs with
    | some c, some cs => some (c :: cs)
    | _, _ => none
end

def backObj (ids : List Nat) : Option Obj → Option (Option Obj)
  | none => some none
  | some (.arr n rows) => some (some (.arr n rows))
  | some (.blk n rows c) => some (some (.blk n rows c))
  | some (.box cells) => match backL ids cells with
    | some cs => some (some (.box cs))
    | none => none

mutual
/-- The names that occur in a term. -/
def V.ids : V → List Nat
  | .own id => [id]
  | .ptr id _ _ _ => [id]
  | .vw id _ _ _ => [id]
  | .agg cs => idsL cs
  | .tup cs => idsL cs
  | .clo _ f c => idsL f ++ idsL c
  | .val _ => []
  | .nil => []
  | .sl _ _ => []
  | .iptr _ _ _ _ => []
  | .undef => []
def idsL : List V → List Nat
  | [] => []
  | c :: cs => c.ids ++ idsL cs
end

mutual
/-- Nothing in it reads memory that stays. -/
def V.flat : V → Bool
  | .sl _ _ => false
  | .iptr _ _ _ _ => false
  | .agg cs => flatL cs
  | .tup cs => flatL cs
  | .clo _ f c => flatL f && flatL c
  | .own _ => true
  | .ptr _ _ _ _ => true
  | .vw _ _ _ _ => true
  | .val _ => true
  | .nil => true
  | .undef => true
def flatL : List V → Bool
  | [] => true
  | c :: cs => c.flat && flatL cs
end

def FlatRows (rows : List (List V)) : Prop := ∀ r ∈ rows, flatL r = true

def flatObj : Option Obj → List Prop
  | none => []
  | some (.arr _ rows) => [FlatRows rows]
  | some (.blk _ rows _) => [FlatRows rows]
  | some (.box cells) => [flatL cells = true]

def idsObj : Obj → List Nat
  | .box cells => idsL cells
  | .arr _ _ => []
  | .blk _ _ _ => []

/-- Behind a call: blocks that are not named are as they were; what is read stays. -/
structure Ext (base : Nat) (X G : Nat → Prop) (w : World) (G' : Nat → Prop) (w' : World) : Prop where
  os : w'.os = w.os
  tape : w'.tape = w.tape
  output : w'.output = w.output
  size : w.heap.size ≤ w'.heap.size
  block : ∀ b, b < base → ¬ X b → w'.heap[b]? = w.heap[b]?
  keep : ∀ b, G b → G' b ∧ w'.heap[b]? = w.heap[b]?
  grow : ∀ b, G' b → G b ∨ X b ∨ base ≤ b

/-- Objects one by one: all are there, none twice, none of them in what is read only. -/
structure Mem (base : Nat) (X G : Nat → Prop) (τ : Nat → Gh) (st : Nat → Option Obj) (w : World) : Prop where
  gold : ∀ b, G b → b < w.heap.size
  ok : ∀ id o, st id = some o → o.ok w G τ id
  own : ∀ id o b, st id = some o → (τ id).blk = some b → base ≤ b ∨ X b
  inj : ∀ i j o o' b, st i = some o → st j = some o' → (τ i).blk = some b → (τ j).blk = some b → i = j

def objsAt (objs : List Obj) (i : Nat) : Option Obj := objs[i]?
def objsAt' (objs : List (Option Obj)) (i : Nat) : Option Obj := match objs[i]? with
  | some o => o
  | none => none

/-- THE CONTRACT: called with such arguments, and such objects behind the pointers among them, function f gives such a result, and the objects are such then (further ones are new). -/
structure Contract (P : Program) (f : FuncId) (args : List V) (objs : List Obj) (r : V) (objs' : List (Option Obj)) : Prop where
  goes : ∃ fn, P.funcs[f]? = some fn ∧ fn.name ≠ "runtime.NumGoroutine" ∧ fn.body.isSome = true
  calls : ∀ (w : World) (G X : Nat → Prop) (τ : Nat → Gh) (vals : Array Value),
    Mem w.heap.size X G τ (objsAt objs) w → (∀ b, X b → ∃ i o, objsAt objs i = some o ∧ (τ i).blk = some b) → repL w G τ args vals.toList →
    Calls P f vals w fun e w' => ∃ v G' τ', e = .returned v ∧ Ext w.heap.size X G w G' w' ∧ (∀ i, i < objs.length → τ' i = τ i) ∧
      r.rep w' G' τ' v ∧ Mem w.heap.size X G' τ' (objsAt' objs') w'

/-- A function without a body, for which the model stands in: called with such arguments it gives such a result. -/
structure ExtC (P : Program) (g : FuncId) (args : List V) (objs : List Obj) (r : V) (objs' : List (Option Obj)) : Prop where
  calls : ∀ (w : World) (G X : Nat → Prop) (τ : Nat → Gh) (vals : Array Value),
    Mem w.heap.size X G τ (objsAt objs) w → (∀ b, X b → ∃ i o, objsAt objs i = some o ∧ (τ i).blk = some b) → repL w G τ args vals.toList →
    ∃ v w' G' τ', (callFunc g vals).run P w = .ok (.value v) w' ∧ Ext w.heap.size X G w G' w' ∧ (∀ i, i < objs.length → τ' i = τ i) ∧
      r.rep w' G' τ' v ∧ Mem w.heap.size X G' τ' (objsAt' objs') w'

end Go.Proofs.Ytfpdlamjlbpmkaa.E
