/- The engine, part C: a run over operations, regions, code, a function. -/
import Derived.Test.YtfpdlamjlbpmkaaEngB
namespace Go.Proofs.Ytfpdlamjlbpmkaa.E
open Go

/-- A frame, at the level of terms: its slots, its objects, the names that are in use. -/
structure S where
  n : Nat
  env : Nat → V
  st : Nat → Option Obj
  ids : List Nat

def mkEnv : List (Nat × V) → Nat → V
  | [], _ => .undef
  | (k, v) :: l, t => bif t == k then v else mkEnv l t

def mkSt : List (Nat × Obj) → Nat → Option Obj
  | [], _ => none
  | (k, o) :: l, i => bif i == k then some o else mkSt l i

def rdO (env : Nat → V) : Operand → V
  | .tmp t => env t
  | .const v => ofVal v
  | .global _ => .undef
  | .func f => .clo (.func f) [] []

def putEnv (env : Nat → V) (dst : Option Nat) (v : V) : Nat → V := match dst with
  | none => env
  | some d => fun t => bif t == d then v else env t

def putSt (st : Nat → Option Obj) : List (Nat × Option Obj) → Nat → Option Obj
  | [] => st
  | (i, o) :: l => putSt (fun j => bif j == i then o else st j) l

def newIds (site : Nat) : Nat → List Nat
  | 0 => []
  | k + 1 => newIds site k ++ [site + 1 + k]

def zipWs : List Nat → List (Option Obj) → List (Nat × Option Obj)
  | i :: is, o :: os => (i, o) :: zipWs is os
  | _, _ => []

def backObjs (ids : List Nat) : List (Option Obj) → Option (List (Option Obj))
  | [] => some []
  | o :: os => match backObj ids o, backObjs ids os with
    | some o, some os => some (o :: os)
    | _, _ => none

def flatObjs : List (Option Obj) → List Prop
  | [] => []
  | o :: os => flatObj o ++ flatObjs os

def disjoint (a b : List Nat) : Bool := a.all fun i => !b.contains i
def subset (a b : List Nat) : Bool := a.all fun i => b.contains i
def nodupB : List Nat → Bool
  | [] => true
  | a :: l => !l.contains a && nodupB l

def evCallX (P : Program) (site : Nat) (x : Bool) (ps give : List Nat) (r : V) (objs' : List (Option Obj)) (g : FuncId) (full : List V) : T Eff :=
    let lent := (idsL full).filter fun i => !ps.contains i
    (passL ps true full).bind fun as => (passObjs ps ps).bind fun objs =>
      let new := newIds site (objs'.length - ps.length)
      let ids := ps ++ new
      match back ids r, backObjs ids objs' with
      | some r', some os => bif nodupB ps && disjoint give ps && Nat.ble ps.length objs'.length && subset give lent then
          .ret ⟨r', zipWs ids os ++ kills give,
            (match x with | true => ExtC P g as objs r objs' | false => Contract P g as objs r objs') :: (bif subset lent give then [] else (r.flat = true) :: flatObjs objs'), new⟩
        else .fail
      | _, _ => .fail

def evCall0 (P : Program) (site : Nat) (ans : List Ans) (f : V) (args : List V) : T Eff := match f, ans with
  | .clo (.func g) first caps, .call ps give r objs' :: _ => evCallX P site false ps give r objs' g (first ++ (args ++ caps))
  | .clo (.func g) first caps, .ext ps give r objs' :: _ => evCallX P site true ps give r objs' g (first ++ (args ++ caps))
  | _, _ => .fail

def evCall (P : Program) (site : Nat) (ans : List Ans) (f : V) (args : List V) : T Eff := match f, ans with
  | .clo (.func _) first caps, .app F :: _ => (passL [] true (first ++ (args ++ caps))).bind fun as => match F as with
    | some r => evCall0 P site [.call [] [] r []] f args
    | none => .fail
  | _, _ => evCall0 P site ans f args

def fixAll (P : Program) : List TypeId → List V → List V
  | t :: ts, v :: vs => fixV P t v :: fixAll P ts vs
  | _, vs => vs

def nilCmp : V → V → Option Bool
  | .ptr _ _ _ _, .val (.pointer none) => some false
  | .iptr _ _ _ _, .val (.pointer none) => some false
  | .val (.pointer none), .ptr _ _ _ _ => some false
  | .val (.pointer none), .iptr _ _ _ _ => some false
  | _, _ => none

/-- Whether a slice with rows is nil: no. -/
def sliceNil (P : Program) (fl : Bool) (op : BinOp) (t : TypeId) (x y : V) : Option (T Eff) := match x, y with
  | .val (.int k a), .val (.int k' b) => bif fl && decide (k = k') then (match op with
    | .quo => some (.ret ⟨.val (.int k (k.wrap (a.tdiv b))), [], [b ≠ 0], []⟩)
    | .rem => some (.ret ⟨.val (.int k (a.tmod b)), [], [b ≠ 0], []⟩)
    | _ => none) else none
  | .sl _ rows, .nil => match op, P.underlying t with
    | .eql, some (.slice _) => some (.ret ⟨.val (.bool false), [], [rows ≠ []], []⟩)
    | .neq, some (.slice _) => some (.ret ⟨.val (.bool true), [], [rows ≠ []], []⟩)
    | _, _ => none
  | .own id, .nil => match op, P.underlying t with
    | .eql, some (.slice _) => some (.ask id fun o => match o with
      | .arr _ rows => .ret ⟨.val (.bool false), [], [rows ≠ []], []⟩
      | _ => .fail)
    | .neq, some (.slice _) => some (.ask id fun o => match o with
      | .arr _ rows => .ret ⟨.val (.bool true), [], [rows ≠ []], []⟩
      | _ => .fail)
    | _, _ => none
  | _, _ => none

def eqFields (g : Field → Option Bool) : List Field → Option Bool
  | [] => some true
  | f :: fs => bif f.name == "_" then eqFields g fs else (match g f, eqFields g fs with
    | some b, some r => some (b && r)
    | _, _ => none)

def eqElems (g : Nat → Option Bool) : Nat → Nat → Option Bool
  | _, 0 => some true
  | i, n + 1 => match g i, eqElems g (i + 1) n with
    | some b, some r => some (b && r)
    | _, _ => none

/-- Whether two are equal, part by part. -/
def eqV (P : Program) : Nat → TypeId → V → V → Option Bool
  | 0, _, _, _ => none
  | d + 1, t, u, v => match P.underlying t with
    | some .bool => match u, v with
      | .val (.bool a), .val (.bool b) => some (a == b)
      | _, _ => none
    | some (.int _) => match u, v with
      | .val (.int k a), .val (.int k' b) => bif decide (k = k') then some (decide (a = b)) else none
      | _, _ => none
    | some .string => match u, v with
      | .val (.string a), .val (.string b) => some (a == b)
      | _, _ => none
    | some (.struct fs) => match u, v with
      | .agg cs, .agg ds => bif P.stoodInHeld t then none else eqFields (fun f => match takeCells P f.type cs f.offset, takeCells P f.type ds f.offset with
        | some a, some b => eqV P d f.type a b
        | _, _ => none) fs.toList
      | _, _ => none
    | some (.array n e) => match u, v, szOf P e with
      | .agg cs, .agg ds, some m => eqElems (fun i => match takeCells P e cs (i * m), takeCells P e ds (i * m) with
        | some a, some b => eqV P d e a b
        | _, _ => none) 0 n
      | _, _, _ => none
    | _ => none

/-- Comparing structs and arrays. -/
def aggCmp (P : Program) (op : BinOp) (t : TypeId) (u v : V) : Option (Option Bool) := match u, v with
  | .agg cs, .agg ds => bif P.eqGuardType P.depth t then some none else (match op, eqV P 10000 t (.agg cs) (.agg ds) with
    | .eql, some b => some (some b)
    | .neq, some b => some (some (!b))
    | _, _ => some none)
  | _, _ => none

/-- Function g tells whether two slices meet. -/
def IsOverlaps (P : Program) (g : FuncId) (n : Nat) : Prop := ∃ fn t r e, P.funcs[g]? = some fn ∧ (fn.name == "runtime.NumGoroutine") = false ∧ fn.body.isNone = true ∧ Extern.findNext fn = none ∧
  Extern.find fn = some (Extern.SlicesOverlaps.overlaps #[t, t] #[r]) ∧ P.underlying t = some (.slice e) ∧ szOf P e = some n ∧ 1 ≤ n

/-- Whether a slice that is owned meets a part of another one: it does not. -/
def evOverlaps (P : Program) (ans : List Ans) (f : Operand) (args : List V) : Option (T Eff) := match f, args with
  | .func g, [.own i, .vw j n a b] => bif flagged ans && i != j then some (.ask i fun o => match o with
    | .arr m rows => .ask j fun o2 => match o2.parts with
      | some (k, _, _) => bif m == n && k == n then .ret ⟨.val (.bool false), [], [IsOverlaps P g n, 0 < rows.length, a < b], []⟩ else .fail
      | none => .fail
    | _ => .fail) else none
  | _, _ => none

def evSliceOp (P : Program) (ans : List Ans) (t : TypeId) (x : V) (lo hi mx : Option V) : T Eff := match x with
  | .vw id n a b => evPart P t id n a b lo hi mx
  | .own id => bif flagged ans then evPartOwn P t id lo hi mx else (match mx with
    | none => evSlice P t (.own id) lo hi
    | some _ => .fail)
  | v => match mx with
    | none => evSlice P t v lo hi
    | some _ => .fail

/-- What is handed in: as it is, when the answers begin with a flag. -/
def fixQ (P : Program) (ans : List Ans) (ts : List TypeId) (vs : List V) : List V := bif flagged ans then vs else fixAll P ts vs
def cutQ (ans : List Ans) : List Ans := bif flagged ans then ans.tail else ans

def evAppendOp (P : Program) (site : Nat) (t u : TypeId) (b x : V) : T Eff := match b with
  | .vw id n p q => bif isIntT P u then (match x with
    | .val (.int .i64 k) => evGrow P site t id n p q k
    | _ => .fail) else evAppendIn P t u id n p q x
  | v => match x with
    | .vw id2 n2 a2 b2 => evAppendVw P site t u v id2 n2 a2 b2
    | x => evAppend P site t u v x

def evalOp (P : Program) (rd : Operand → V) (site : Nat) (ans : List Ans) (o : Oper) : T Eff := match o.op with
  | .move x => evMove site ans (rd x)
  | .assign x => evMove site ans (rd x)
  | .alloc t => evAlloc P site t
  | .box _ x => evBox site (rd x)
  | .build t ps => evBuild P rd t ps
  | .buildSlice t n ps => evBuildSlice P rd site t n ps
  | .load t a => evLoad P ans t (rd a)
  | .store t a x => evStore P ans t (rd a) (rd x)
  | .nilCheck x => match rd x with
    | .ptr i n r k => .ret (Eff.val (.ptr i n r k))
    | .iptr n rows r k => .ret (Eff.val (.iptr n rows r k))
    | _ => .fail
  | .binOp op t x y _ => match sliceNil P (flagged ans) op t (rd x) (rd y) with
    | some t => t
    | none => match nilCmp (rd x) (rd y) with
      | some b => match op, P.underlying t with
        | .eql, some (.pointer _) => .ret (Eff.val (.val (.bool b)))
        | .neq, some (.pointer _) => .ret (Eff.val (.val (.bool (!b))))
        | _, _ => .fail
      | none => match aggCmp P op t (rd x) (rd y) with
        | some (some b) => .ret (Eff.val (.val (.bool b)))
        | some none => .fail
        | none => genOp P rd o
  | .unOp _ _ _ => genOp P rd o
  | .convert _ _ _ => genOp P rd o
  | .pick _ _ _ => genOp P rd o
  | .extract x i => match rd x with
    | .tup vs => match vs[i]? with
      | some v => .ret (Eff.val v)
      | none => .fail
    | _ => .fail
  | .field t x f => evField P t (rd x) f
  | .index t x i => evIndex P ans t (rd x) (rd i)
  | .fieldAddr t x f => evFieldAddr P t (rd x) f
  | .indexAddr t x i => evIndexAddr P ans t (rd x) (rd i)
  | .slice t x lo hi mx => evSliceOp P ans t (rd x) (lo.map rd) (hi.map rd) (mx.map rd)
  | .makeSlice t l c => evMakeSlice P site t (rd l) (rd c)
  | .makeFunc fn first caps => .ret (Eff.val (.clo fn (first.toList.map rd) (caps.toList.map rd)))
  | .call c => match c.callee with
    | .value f => match evOverlaps P ans f (c.args.toList.map rd) with
      | some t => t
      | none => evCall P site (cutQ ans) (rd f) (fixQ P ans c.argTypes.toList (c.args.toList.map rd))
    | .builtin .len => match c.args.toList, c.argTypes.toList with
      | [x], [t] => match P.underlying t with
        | some (.slice _) => evLen P rd o (rd x)
        | _ => genOp P rd o
      | _, _ => .fail
    | .builtin .append => match c.args.toList, c.argTypes.toList with
      | [b, x], [t, u] => evAppendOp P site t u (rd b) (rd x)
      | _, _ => .fail
    | .builtin .cap => match c.args.toList, c.argTypes.toList with
      | [x], [t] => match P.underlying t with
        | some (.slice _) => evCap (rd x)
        | _ => .fail
      | _, _ => .fail
    | .builtin .copy => match c.args.toList, c.argTypes.toList with
      | [d, x], [t, _] => evCopy P t (rd d) (rd x)
      | _, _ => .fail
    | .builtin .clear => match c.args.toList, c.argTypes.toList with
      | [x], [t] => evClear P t (rd x)
      | _, _ => .fail
    | .builtin .min => genOp P rd o
    | .builtin .max => genOp P rd o
    | _ => .fail
  | _ => .fail

/-- A bool that a way hangs on is the one that the script names. -/
def decided (br : Option Bool) (e : Eff) : T Eff := match br with
  | none => .ret e
  | some t => match e.v with
    | .val (.bool b) => .ret { e with v := .val (.bool t), obs := e.obs ++ [b = t] }
    | _ => .fail

def Script := List (Nat × List Ans × Option Bool)

def ansOf (i : Nat) : List (Nat × List Ans × Option Bool) → List Ans × Option Bool
  | [] => ([], none)
  | (j, a, b) :: l => bif i == j then (a, b) else ansOf i l

def guardOf (ops : Array Oper) (env : Nat → V) (o : Oper) : Option Bool := match o.guard with
  | none => some true
  | some (j, want) => match ops[j]? with
    | none => none
    | some oj => match oj.dst with
      | none => none
      | some d => match env d with
        | .val (.bool b) => some (b == want)
        | .val (.tuple _) => some false
        | _ => none

def looksOf (ops : Array Oper) (o : Oper) : List Nat :=
  (o.op.operands.toList.filterMap fun x => match x with
    | .tmp t => some t
    | _ => none) ++
  (match o.guard with
   | some (g, _) => match ops[g]? with
     | some og => match og.dst with
       | some d => [d]
       | none => []
     | none => []
   | none => [])

/-- What an operation did, and what it looked at. -/
structure Log where
  ran : Bool
  v : V
  ws : List (Nat × Option Obj)
  new : List Nat
  rs : List Nat
  obs : List Prop

def Log.touch (l : Log) : List Nat := l.ws.map (·.1)
def Log.vids (l : Log) : List Nat := l.v.ids ++ (l.touch ++ (l.ws.flatMap fun w => match w.2 with
  | some o => idsObj o
  | none => []))

def site (rid i : Nat) : Nat := (rid * 200 + i + 1) * 1000

/-- One operation, as it stands. -/
def logOp (P : Program) (rid : Nat) (ops : Array Oper) (sc : List (Nat × List Ans × Option Bool)) (i : Nat) (o : Oper) (env : Nat → V) (st : Nat → Option Obj) : Option Log :=
  match guardOf ops env o with
  | none => none
  | some false => some ⟨false, .val Go.undef, [], [], [], []⟩
  | some true => match ((evalOp P (rdO env) (site rid i) (ansOf i sc).1 o).bind fun e => (recast (ansOf i sc).1 e).bind (decided (ansOf i sc).2)).run st with
    | none => none
    | some (e, rs) => some ⟨true, e.v, e.ws, e.new, rs, e.obs⟩

def dstOk (n : Nat) (dst : Option Nat) : Bool := match dst with
  | none => true
  | some d => Nat.blt d n

def runOps (P : Program) (rid : Nat) (ops : Array Oper) (sc : List (Nat × List Ans × Option Bool)) : List Nat → S → Option (S × List Log)
  | [], σ => some (σ, [])
  | i :: is, σ => match ops[i]? with
    | none => none
    | some o => match logOp P rid ops sc i o σ.env σ.st with
      | none => none
      | some l => bif dstOk σ.n o.dst && nodupB l.new && disjoint l.new σ.ids && subset l.vids (l.new ++ σ.ids) then
          (match runOps P rid ops sc is ⟨σ.n, putEnv σ.env o.dst l.v, putSt σ.st l.ws, l.new ++ σ.ids⟩ with
          | none => none
          | some (σ', ls) => some (σ', l :: ls))
        else none

/-- Which operations are surely ahead of one: bit by bit. -/
def aheadOf (ops : Array Oper) : List Nat := ops.toList.foldl (fun acc o =>
  acc ++ [o.after.toList.foldl (fun s e => bif Region.binds .any e then s ||| 2 ^ e.on ||| acc.getD e.on 0 else s) 0]) []

def clash (ops : Array Oper) (oi oj : Oper) (li lj : Log) : Bool :=
  (match oi.dst with
   | some d => (looksOf ops oj).contains d || (match oj.dst with
     | some d' => d == d'
     | none => false)
   | none => false) ||
  (match oj.dst with
   | some d => (looksOf ops oi).contains d
   | none => false) ||
  !disjoint li.touch (lj.rs ++ lj.touch) || !disjoint lj.touch li.rs

/-- No two operations that may change places meet. -/
def calmAt (ops : Array Oper) (ah : List Nat) (os : List (Nat × Oper × Log)) : Bool :=
  os.all fun x => os.all fun y =>
    (bif Nat.blt x.1 y.1 && !(ah.getD y.1 0).testBit x.1 then !clash ops x.2.1 y.2.1 x.2.2 y.2.2 else true) &&
    (bif x.1 != y.1 && !(ah.getD y.1 0).testBit x.1 then disjoint x.2.2.new y.2.2.vids else true)

/-- Whatever an operation waits for stands ahead of it. -/
def edgesBack (ops : Array Oper) : Bool := (ops.toList.zipIdx).all fun x => x.1.after.toList.all fun e => !Region.binds .any e || Nat.blt e.on x.2

def obsAll : List Log → List Prop
  | [] => []
  | l :: ls => l.obs ++ obsAll ls

def touchedAll : List Log → List Nat
  | [] => []
  | l :: ls => l.touch ++ touchedAll ls

def S.more (σ : S) (l : List Nat) : S := ⟨σ.n, σ.env, σ.st, l ++ σ.ids⟩

def runRegion (P : Program) (rid : Nat) (ops : Array Oper) (draw : Bool) (sc : List (Nat × List Ans × Option Bool)) (σ : S) : Option (S × List Prop) :=
  match runOps P rid ops sc (List.range ops.size) σ with
  | none => none
  | some (σ', ls) => bif draw then (bif edgesBack ops && calmAt ops (aheadOf ops) ((List.range ops.size).zip (ops.toList.zip ls)) then some (σ'.more (touchedAll ls), obsAll ls) else none) else some (σ'.more (touchedAll ls), obsAll ls)

inductive Ex where
  | normal
  | exit (id : Nat)
  | ret

inductive Fr where
  | slot (t id n : Nat)
  | cell (box off id n : Nat)

/-- A frame written out. -/
structure SL where
  env : List (Nat × V)
  st : List (Nat × Obj)
  ids : List Nat

def SL.toS (s : SL) (n : Nat) : S := ⟨n, mkEnv s.env, mkSt s.st, s.ids⟩

/-- What of a frame is kept: which slots, which objects under which names, and where a nil slice becomes one that is owned. -/
structure Norm where
  live : List Nat
  ren : List (Nat × Nat)
  fresh : List Fr

mutual
/-- One of two, as a Bool says. -/
def mergeV (B : Bool) : V → V → V
  | .val (.int k m), .val (.int k' m') => bif decide (k = k') then .val (.int k (bif B then m else m')) else .undef
  | .val (.bool a), .val (.bool a') => .val (.bool (bif B then a else a'))
  | .val (.string a), .val (.string a') => .val (.string (bif B then a else a'))
  | .val (.pointer none), .val (.pointer none) => .val (.pointer none)
  | .agg cs, .agg cs' => match mergeL B cs cs' with
    | some l => .agg l
    | none => .undef
  | .nil, .nil => .nil
  | .sl n rows, .sl n' rows' => bif n == n' then .sl n (bif B then rows else rows') else .undef
  | .nil, .sl n rows => .sl n (bif B then [] else rows)
  | .sl n rows, .nil => .sl n (bif B then rows else [])
  | .own i, .own j => bif i == j then .own i else .undef
  | .ptr i n r o, .ptr i' n' r' o' => bif i == i' && (n == n' && o == o') then .ptr i n (bif B then r else r') o else .undef
  | .clo (.func g) f c, .clo (.func g') f' c' => bif g == g' then (match mergeL B f f', mergeL B c c' with
    | some f, some c => .clo (.func g) f c
    | _, _ => .undef) else .undef
  | _, _ => .undef
def mergeL (B : Bool) : List V → List V → Option (List V)
  | [], [] => some []
  | c :: cs, d :: ds => match mergeL B cs ds with
    | some l => some (mergeV B c d :: l)
    | none => none
  | _, _ => none
end

def mergeO (B : Bool) : Option Obj → Option Obj → Option Obj
  | some (.box cs), some (.box ds) => match mergeL B cs ds with
    | some l => some (.box l)
    | none => none
  | some (.arr n rows), some (.arr n' rows') => bif n == n' then some (.arr n (bif B then rows else rows')) else none
  | _, _ => none

def freshIds (σ σ1 : S) : List Nat := σ1.ids.take (σ1.ids.length - σ.ids.length)

/-- Two frames that began as one. -/
def mergeS (B : Bool) (σ : S) (D : List Nat) (σ1 σ2 : S) : S :=
  let pre := freshIds σ σ1 ++ freshIds σ σ2
  ⟨σ.n, fun t => bif D.contains t then mergeV B (σ1.env t) (σ2.env t) else σ.env t, fun i => bif pre.contains i then mergeO B (σ1.st i) (σ2.st i) else σ.st i, pre ++ σ.ids⟩

def allP : List Prop → Prop
  | [] => True
  | [p] => p
  | p :: l => p ∧ allP l

def orP (B : Bool) (ps qs : List Prop) : List Prop := (match ps with
  | [] => []
  | ps => [B = true → allP ps]) ++ (match qs with
  | [] => []
  | qs => [B = false → allP qs])

inductive Fk where
  | leaf (as : List (Nat × List Ans × Option Bool))
  | node (B : Bool) (l r : Fk)

def dstsOps (ops : Array Oper) : List Nat := ops.toList.filterMap (·.dst)

def runFk (P : Program) (rid : Nat) (ops : Array Oper) (draw : Bool) (au : List (Nat × List Ans × Option Bool)) : Fk → S → Option (S × List Prop)
  | .leaf as, σ => runRegion P rid ops draw (as ++ au) σ
  | .node B l r, σ => match runFk P rid ops draw au l σ, runFk P rid ops draw au r σ with
    | some (σ1, ps), some (σ2, qs) => some (mergeS B σ (dstsOps ops) σ1 σ2, orP B ps qs)
    | _, _ => none

def dstsC : Code → List Nat
  | .region _ ops _ => dstsOps ops
  | .seq a b => dstsC a ++ dstsC b
  | .cond _ a b => dstsC a ++ dstsC b
  | .block _ a => dstsC a
  | .loop a => dstsC a
  | .scope a => dstsC a
  | _ => []

/-- Scripts: what a region's operations are answered; a loop that is passed by what is known of it; a loop that is gone through. -/
inductive It where
  | reg (id : Nat) (as : List (Nat × List Ans × Option Bool))
  | cut (nm : Norm) (e : Ex) (s : SL)
  | unroll (k : Nat)
  | whole (nm : Norm) (e : Ex) (s : SL)
  | tail (id : Nat) (nm : Norm) (e : Ex) (s : SL)
  | regs (id : Nat) (fk : Fk)
  | fork (t : Nat) (sc1 sc2 : List It)
  | both (id : Nat) (B : Bool) (sc1 sc2 : List It)
  | tab (T : List (Nat × (List V → Option V)))

def It.plain : It → Bool
  | .cut _ _ _ => false
  | .whole _ _ _ => false
  | .tail _ _ _ _ => false
  | _ => true

/-- At a script's end: what functions are known to give. -/
def tabOf : List It → List (Nat × (List V → Option V))
  | [] => []
  | [.tab T] => T
  | _ :: l => tabOf l

def tabTail (sc : List It) : List It := [.tab (tabOf sc)]

def doneSc : List It → Bool
  | [] => true
  | [.tab _] => true
  | _ => false

def tabGet (g : Nat) : List (Nat × (List V → Option V)) → Option (List V → Option V)
  | [] => none
  | (f, F) :: l => bif f == g then some F else tabGet g l

def autoAns (T : List (Nat × (List V → Option V))) : Nat → List Oper → List (Nat × List Ans × Option Bool)
  | _, [] => []
  | i, o :: l => match o.op with
    | .call c => match c.callee with
      | .value (.func g) => match tabGet g T with
        | some F => (i, [.app F], none) :: autoAns T (i + 1) l
        | none => autoAns T (i + 1) l
      | _ => autoAns T (i + 1) l
    | _ => autoAns T (i + 1) l

/-- The frame's relation. -/
structure St (base : Nat) (X G : Nat → Prop) (τ : Nat → Gh) (σ : S) (a : Act) (w : World) : Prop where
  mem : Mem base X G τ σ.st w
  base : base ≤ w.heap.size
  size : a.tmps.size = σ.n
  env : ∀ t, (σ.env t).rep w G τ (a.tmps.getD t Go.undef)
  ids : ∀ t, ∀ i ∈ (σ.env t).ids, i ∈ σ.ids
  objs : ∀ i o, σ.st i = some o → i ∈ σ.ids ∧ ∀ j ∈ idsObj o, j ∈ σ.ids
  defers : a.defers = []

def Ex.at (e : Ex) : Exit := match e with
  | .normal => .normal
  | .exit id => .exit id
  | .ret => .ret

/-- THE TRIPLE: a piece of code leads from such a frame to such a frame. (k: so many names are the caller's: they stay.) -/
def CodeC (P : Program) (k n : Nat) (c : Code) (s : SL) (e : Ex) (s' : SL) : Prop :=
  ∀ base X G τ a w, St base X G τ (s.toS n) a w → c.wp P (fun e' a' w' => e' = e.at ∧ ∃ G' τ', St base X G' τ' (s'.toS n) a' w' ∧ Ext base X G w G' w' ∧ ∀ i, i < k → τ' i = τ i) a w

/-- At a loop's head. -/
def loopWp (P : Program) (c : Code) (Q : Exit → Act → World → Prop) (a : Act) (w : World) : Prop :=
  ∀ (b : Frame) (k : List Item) (cs : List Frame), ∃ e a' w', Q e a' w' ∧ Arrives P (lone (b.at a (.code c :: .inLoop c :: k)) cs w) b k cs e a' w'

/-- The triple for a loop, by its body. -/
def LoopC (P : Program) (k n : Nat) (c : Code) (s : SL) (e : Ex) (s' : SL) : Prop :=
  ∀ base X G τ a w, St base X G τ (s.toS n) a w → loopWp P c (fun e' a' w' => e' = e.at ∧ ∃ G' τ', St base X G' τ' (s'.toS n) a' w' ∧ Ext base X G w G' w' ∧ ∀ i, i < k → τ' i = τ i) a w

def renId (ren : List (Nat × Nat)) (i : Nat) : Option Nat := match ren with
  | [] => none
  | (a, b) :: l => bif i == a then some b else renId l i

mutual
def renV (ren : List (Nat × Nat)) : V → Option V
  | .own j => match renId ren j with
    | some id => some (.own id)
    | none => none
  | .ptr j n r o => match renId ren j with
    | some id => some (.ptr id n r o)
    | none => none
  | .vw j n a b => match renId ren j with
    | some id => some (.vw id n a b)
    | none => none
  | .agg cs => match renL ren cs with
    | some cs => some (.agg cs)
    | none => none
  | .tup cs => match renL ren cs with
    | some cs => some (.tup cs)
    | none => none
  | .clo fn f c => match renL ren f, renL ren c with
    | some f, some c => some (.clo fn f c)
    | _, _ => none
  | .val x => some (.val x)
  | .nil => some .nil
  | .sl n rows => some (.sl n rows)
  | .iptr n rows r o => some (.iptr n rows r o)
  | .undef => some .undef
def renL (ren : List (Nat × Nat)) : List V → Option (List V)
  | [] => some []
  | c :: cs => match renV ren c, renL ren cs with
    | some c, some cs => some (c :: cs)
    | _, _ => none
end

def frSlot : List Fr → Nat → Option (Nat × Nat)
  | .slot t id n :: l, u => bif u == t then some (id, n) else frSlot l u
  | .cell _ _ _ _ :: l, u => frSlot l u
  | [], _ => none

def frCell : List Fr → Nat → Nat → Option (Nat × Nat)
  | .cell b o id n :: l, c, q => bif c == b && q == o then some (id, n) else frCell l c q
  | .slot _ _ _ :: l, c, q => frCell l c q
  | [], _, _ => none

/-- A slot's or a cell's value, renamed; a nil slice that is to be owned: its name. -/
def renAt (ren : List (Nat × Nat)) (fr : Option (Nat × Nat)) (v : V) : Option (V × List (Nat × Obj)) := match fr, v with
  | some (id, n), .nil => some (.own id, [(id, .arr n [])])
  | _, v => match renV ren v with
    | some v' => some (v', [])
    | none => none

def renCells (ren : List (Nat × Nat)) (fr : List Fr) (b : Nat) : Nat → List V → Option (List V × List (Nat × Obj))
  | _, [] => some ([], [])
  | o, c :: cs => match renAt ren (frCell fr b o) c, renCells ren fr b (o + 1) cs with
    | some (c', l), some (cs', l') => some (c' :: cs', l ++ l')
    | _, _ => none

def normEnv (σ : S) (nm : Norm) : List Nat → Option (List (Nat × V) × List (Nat × Obj))
  | [] => some ([], [])
  | t :: ts => match renAt nm.ren (frSlot nm.fresh t) (σ.env t), normEnv σ nm ts with
    | some (v, l), some (e, l') => some ((t, v) :: e, l ++ l')
    | _, _ => none

def normSt (σ : S) (nm : Norm) : List (Nat × Nat) → Option (List (Nat × Obj) × List (Nat × Obj))
  | [] => some ([], [])
  | (a, b) :: r => match σ.st a, normSt σ nm r with
    | some (.arr n rows), some (s, l) => some ((b, .arr n rows) :: s, l)
    | some (.blk n rows c), some (s, l) => some ((b, .blk n rows c) :: s, l)
    | some (.box cs), some (s, l) => match renCells nm.ren nm.fresh a 0 cs with
      | some (cs', l') => some ((b, .box cs') :: s, l' ++ l)
      | none => none
    | _, _ => none

def normIds (k : Nat) (ren : List (Nat × Nat)) : Bool := ren.all fun p => bif Nat.blt p.2 k then p.1 == p.2 else true

def norm (k : Nat) (σ : S) (nm : Norm) : Option SL := match normEnv σ nm nm.live, normSt σ nm nm.ren with
  | some (env, l1), some (st, l2) =>
    let fr := l1 ++ l2
    let ids := st.map (·.1) ++ fr.map (·.1)
    bif nodupB ids && (normIds k nm.ren && nodupB (nm.ren.map (·.1))) && (fr.all fun p => Nat.ble k p.1) && (env.all fun p => subset p.2.ids ids) && (st.all fun p => subset (idsObj p.2) ids) then some ⟨env, st ++ fr, ids ++ List.range k⟩ else none
  | _, _ => none

abbrev Res := Option (Ex × S × List It × List Prop)

def Ex.same : Ex → Ex → Bool
  | .normal, .normal => true
  | .exit i, .exit j => i == j
  | .ret, .ret => true
  | _, _ => false

def mergeR (B : Bool) (σ : S) (D : List Nat) (rest : List It) (r1 r2 : Res) : Res := match r1, r2 with
  | some (e1, σ1, s1, ps), some (e2, σ2, s2, qs) => bif doneSc s1 && doneSc s2 && e1.same e2 then some (e1, mergeS B σ D σ1 σ2, rest, orP B ps qs) else none
  | _, _ => none

def inBlk (id : Nat) : Res → Res
  | some (.exit id', σ', sc', ps) => bif id' == id then some (.normal, σ', sc', ps) else some (.exit id', σ', sc', ps)
  | r => r

def iter (f : List It → S → Res) : Nat → List It → S → Res
  | 0, _, _ => none
  | m + 1, sc, σ => match f sc σ with
    | none => none
    | some (.normal, σ', sc', ps) => match iter f m sc' σ' with
      | none => none
      | some (e, σ2, sc2, qs) => some (e, σ2, sc2, ps ++ qs)
    | some (e, σ', sc', ps) => some (e, σ', sc', ps)

def isTmp (t : Nat) : Operand → Bool
  | .tmp u => u == t
  | _ => false

/-- With which region a piece of code begins. -/
def firstReg : Code → Nat
  | .region id _ _ => id
  | .seq a b => match a with
    | .skip => firstReg b
    | a => firstReg a
  | .block _ a => firstReg a
  | .loop a => firstReg a
  | .scope a => firstReg a
  | _ => 1000000000

/-- All that is left of a sequence, passed by what is known of it. -/
def tailAt (P : Program) (k : Nat) (b : Code) (sc : List It) (σ : S) : Option Res := match sc with
  | .tail id nm e s :: rest => bif firstReg b == id then some (match norm k σ nm with
    | some s0 => bif subset (List.range k) s.ids then some (e, s.toS σ.n, rest, [CodeC P k σ.n b s0 e s]) else none
    | none => none) else none
  | _ => none

def runC (P : Program) (k : Nat) : Code → List It → S → Res
  | .skip, sc, σ => some (.normal, σ, sc, [])
  | .region id ops draw, sc, σ => match sc with
    | .reg id' as :: rest => bif id' == id then (match runRegion P id ops draw (as ++ autoAns (tabOf sc) 0 ops.toList) σ with
      | some (σ', ps) => some (.normal, σ', rest, ps)
      | none => none) else (match runRegion P id ops draw (autoAns (tabOf sc) 0 ops.toList) σ with
      | some (σ', ps) => some (.normal, σ', sc, ps)
      | none => none)
    | .regs id' fk :: rest => bif id' == id then (match runFk P id ops draw (autoAns (tabOf sc) 0 ops.toList) fk σ with
      | some (σ', ps) => some (.normal, σ', rest, ps)
      | none => none) else (match runRegion P id ops draw (autoAns (tabOf sc) 0 ops.toList) σ with
      | some (σ', ps) => some (.normal, σ', sc, ps)
      | none => none)
    | _ => match runRegion P id ops draw (autoAns (tabOf sc) 0 ops.toList) σ with
      | some (σ', ps) => some (.normal, σ', sc, ps)
      | none => none
  | .seq a b, sc, σ => match runC P k a sc σ with
    | none => none
    | some (.normal, σ', sc', ps) => match tailAt P k b sc' σ' with
      | some none => none
      | some (some (e, σ2, sc2, qs)) => some (e, σ2, sc2, ps ++ qs)
      | none => match runC P k b sc' σ' with
        | none => none
        | some (e, σ2, sc2, qs) => some (e, σ2, sc2, ps ++ qs)
    | some (e, σ', sc', ps) => some (e, σ', sc', ps)
  | .cond c a b, sc, σ => match sc with
    | .whole nm e s :: rest => match norm k σ nm with
      | some s0 => bif subset (List.range k) s.ids then some (e, s.toS σ.n, rest, [CodeC P k σ.n (.cond c a b) s0 e s]) else none
      | none => none
    | .fork t sc1 sc2 :: rest => bif isTmp t c then (match rdO σ.env c with
      | .val (.bool B) => bif sc1.all It.plain && sc2.all It.plain then mergeR B σ (dstsC a ++ dstsC b) rest (runC P k a (sc1 ++ tabTail sc) σ) (runC P k b (sc2 ++ tabTail sc) σ) else none
      | _ => none) else (match rdO σ.env c with
      | .val (.bool true) => runC P k a sc σ
      | .val (.bool false) => runC P k b sc σ
      | _ => none)
    | _ => match rdO σ.env c with
      | .val (.bool true) => runC P k a sc σ
      | .val (.bool false) => runC P k b sc σ
      | _ => none
  | .block id body, sc, σ => match sc with
    | .both id' B sc1 sc2 :: rest => bif id' == id then (bif sc1.all It.plain && sc2.all It.plain then mergeR B σ (dstsC body) rest (inBlk id (runC P k body (sc1 ++ tabTail sc) σ)) (inBlk id (runC P k body (sc2 ++ tabTail sc) σ)) else none) else inBlk id (runC P k body sc σ)
    | _ => inBlk id (runC P k body sc σ)
  | .loop body, sc, σ => match sc with
    | .cut nm e s :: rest => match norm k σ nm with
      | some s0 => bif subset (List.range k) s.ids then some (e, s.toS σ.n, rest, [LoopC P k σ.n body s0 e s]) else none
      | none => none
    | .unroll m :: rest => iter (fun sc σ => runC P k body sc σ) m rest σ
    | _ => none
  | .exit id, sc, σ => some (.exit id, σ, sc, [])
  | .scope body, sc, σ => runC P k body sc σ
  | .ret, sc, σ => some (.ret, σ, sc, [])
  | _, _, _ => none

/-- From a frame that is written out to one that is written out. -/
def runTo (P : Program) (k n : Nat) (c : Code) (sc : List It) (s : SL) (nm : Norm) : Option (Ex × SL × List Prop) := bif subset (List.range k) s.ids then (match runC P k c sc (s.toS n) with
  | some (e, σ, rest, ps) => bif doneSc rest then (match norm k σ nm with
    | some s' => some (e, s', ps)
    | none => none) else none
  | none => none) else none

/-- The pieces of a function's code, by their place: 'false' the first part, 'true' the second. -/
def subC : Code → List Bool → Code
  | c, [] => c
  | .seq a b, x :: r => bif x then subC b r else subC a r
  | .cond _ a b, x :: r => bif x then subC b r else subC a r
  | .block _ a, _ :: r => subC a r
  | .loop a, _ :: r => subC a r
  | .scope a, _ :: r => subC a r
  | c, _ => c

def codeAt (P : Program) (f : FuncId) (path : List Bool) : Code := match P.funcs[f]? with
  | some fn => match fn.body with
    | some c => subC c path
    | none => .skip
  | none => .skip

/-- What a function's result variables hold. -/
def resultOf (P : Program) (σ : S) : ResultVar → Option V
  | .tmp t => some (σ.env t)
  | .cell a t => match σ.env a with
    | .ptr id _ 0 off => match σ.st id with
      | some (.box cells) => takeCells P t cells off
      | _ => none
    | _ => none

def passTop (ids : List Nat) : V → T V
  | .tup vs => (passL ids true vs).bind fun vs => .ret (.tup vs)
  | v => pass ids true v

def finObjs (st : Nat → Option Obj) (names : List Nat) : List Nat → Option (List (Option Obj))
  | [] => some []
  | id :: l => match finObjs st names l with
    | none => none
    | some os => match st id with
      | none => some (none :: os)
      | some (.arr n rows) => some (some (.arr n rows) :: os)
      | some (.blk n rows c) => some (some (.blk n rows c) :: os)
      | some (.box cells) => match (passL names false cells).run st with
        | some (cs, _) => some (some (.box cs) :: os)
        | none => none

/-- A function, from its arguments (and the objects behind them) to its result. 'exports': the objects of its own that it gives away; other slices that it owns stay as they are from now on. -/
def runF (P : Program) (f : FuncId) (args : List V) (objs : List Obj) (sc : List It) (exports : List Nat) : Option (V × List (Option Obj) × List Prop) := match P.funcs[f]? with
  | some fn => match fn.body with
    | some c =>
      let k := objs.length
      bif subset (idsL args) (List.range k) && (objs.all fun o => subset (idsObj o) (List.range k)) && (fn.name != "runtime.NumGoroutine") then
        (match runC P k c sc ⟨max args.length fn.ntmps, fun t => args.getD t .undef, objsAt objs, List.range k⟩ with
        | some (e, σ, rest, ps) => bif doneSc rest && (match e with
            | .exit _ => false
            | _ => true) then (match allSome (resultOf P σ) fn.results.toList with
            | some vs =>
              let names := List.range k ++ exports
              let vs := fixAll P fn.resultTypes.toList vs
              let v : V := match vs with
                | [v] => v
                | vs => .tup vs
              match (passTop names v).run σ.st, finObjs σ.st names names with
              | some (v, _), some os => bif nodupB names then some (v, os, ps) else none
              | _, _ => none
            | none => none) else none
        | none => none)
      else none
    | none => none
  | none => none

end Go.Proofs.Ytfpdlamjlbpmkaa.E
