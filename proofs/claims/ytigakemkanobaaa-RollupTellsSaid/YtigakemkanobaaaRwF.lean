/- rollup: rows are found; what lives. -/
import Derived.Test.YtigakemkanobaaaRwP
import Derived.Test.YtigakemkanobaaaSpF
namespace Go.Proofs.Ytigakemkanobaaa
open E
set_option maxRecDepth 100000
set_option linter.unusedVariables false
set_option linter.unusedSimpArgs false


def pFind (svc op : ByteArray) (lev : Int) (r : Rw) : Bool := r.svc.toList == svc.toList && r.op.toList == op.toList && decide (r.lev = lev)
def fiS (l : List Rw) (svc op : ByteArray) (lev : Int) (x : List Rw) (i : Nat) : SL := ⟨[(1, Sg svc), (2, Sg op), (3, I lev), (9, .own 900), (12, .sl 14 (l.map Rw.row)), (13, I (l.length : Int)), (14, I (i : Int))], [(900, .arr 14 (x.map Rw.row))], [900]⟩
def spL : Sp := ⟨0, 0, 0, 0, ⟨#[97]⟩, ⟨#[98]⟩, 70, 0, false, []⟩
def rwA : Rw := ⟨0, 1, ⟨#[97]⟩, ⟨#[98]⟩, cntF (fun _ => 0) spL 9⟩
def rwB' : Rw := ⟨1, 0, ⟨#[97]⟩, ⟨#[98]⟩, cntF (fun _ => 0) spL 9⟩
def rwC : Rw := ⟨2, 0, ⟨#[97]⟩, ⟨#[98]⟩, cntF (fun _ => 0) spL 9⟩
def FAlive : List V → Option V := fun _ => some (Bo true)
noncomputable def fiB_ : Code := codeAt Try.prog 23 [true, true, false, true, false, false]

theorem fiA_0 (l : List Rw) (svc op : ByteArray) (lev : Int) (x : List Rw) (r : Rw) (i : Nat) (h : i < l.length) (hx : l[i]? = some r) (hs : l.length ≤ 1000000) (hl : x.length ≤ 1000000) (e0 : (r.svc.toList == svc.toList) = true) (e1 : (r.op.toList == op.toList) = true) (e2 : (decide (r.lev = lev)) = true) : CodeC Try.prog 0 40 fiB_ (fiS l svc op lev x i) (Ex.normal) ({ env := [((1 : Nat), Sg svc), ((2 : Nat), Sg op), ((3 : Nat), I lev), ((9 : Nat), V.own (900 : Nat)), ((12 : Nat), V.sl (14 : Nat) (List.map Rw.row l)), ((13 : Nat), I (Int.ofNat (List.length l))), ((14 : Nat), I (Int.ofNat (i + (1 : Nat))))], st := [((900 : Nat), Obj.arr (14 : Nat) (List.map Rw.row (x ++ [r])))], ids := [(900 : Nat)] }) :=
  runP hmix [.reg 3 [(0, [], some true)], .reg 4 [(1, [.row (Rw.row r)], none)], .reg 5 [(4, [], some true), (10, [], some true), (15, [], some true)], .reg 6 [(3, [.beO ((x ++ [r]).map Rw.row)], none)], .reg 7 [(0, [.be (I ((i + 1 : Nat) : Int))], none)]] ⟨[1, 2, 3, 9, 12, 13, 14], [(1204000, 900)], []⟩ [
      decide (Int.ofNat i < Int.ofNat (List.length l)) = true,
      (0 : Int) ≤ Int.ofNat i,
      Int.ofNat i < Int.ofNat (List.length (List.map Rw.row l)),
      (List.map Rw.row l)[i]? = some (Rw.row r),
      (ByteArray.toList (Rw.svc r) == ByteArray.toList svc) = true,
      (ByteArray.toList (Rw.op r) == ByteArray.toList op) = true,
      (Rw.lev r == lev) = true,
      (List.length (List.map Rw.row x) + (1 : Nat)) * (128 : Nat) ≤ (140737488355328 : Nat),
      List.map Rw.row x ++ [[I (Rw.lev r), I (Rw.win r), Sg (Rw.svc r), Sg (Rw.op r), I (Rw.c r (0 : Nat)), I (Rw.c r (1 : Nat)), I (Rw.c r (2 : Nat)), I (Rw.c r (3 : Nat)), I (Rw.c r (4 : Nat)), I (Rw.c r (5 : Nat)), I (Rw.c r (6 : Nat)), I (Rw.c r (7 : Nat)), I (Rw.c r (8 : Nat)), I (Rw.c r (9 : Nat))]] = List.map Rw.row (x ++ [r]),
      IntKind.wrap IntKind.i64 (Int.ofNat (i + (1 : Nat))) = Int.ofNat (i + (1 : Nat))] (by kernel_rfl)
    (by
      simp only [allP]
      and_intros <;> first
        | omega
        | (simp; omega)
        | (simp [hx]; done)
        | exact i64_small (by simp; omega)
        | (simp [Rw.row]; done))

theorem fiA (l : List Rw) (svc op : ByteArray) (lev : Int) (x : List Rw) (r : Rw) (i : Nat) (h : i < l.length) (hx : l[i]? = some r) (hs : l.length ≤ 1000000) (hl : x.length ≤ 1000000) (e0 : (r.svc.toList == svc.toList) = true) (e1 : (r.op.toList == op.toList) = true) (e2 : (decide (r.lev = lev)) = true)  : CodeC Try.prog 0 40 fiB_ (fiS l svc op lev x i) .normal (fiS l svc op lev (x ++ [r]) (i + 1)) := by
  exact CodeC.cast (by
    first
      | rfl) (fiA_0 l svc op lev x r i h hx hs hl e0 e1 e2 )

theorem fiB_0 (l : List Rw) (svc op : ByteArray) (lev : Int) (x : List Rw) (r : Rw) (i : Nat) (h : i < l.length) (hx : l[i]? = some r) (hs : l.length ≤ 1000000) (hl : x.length ≤ 1000000) (e0 : (r.svc.toList == svc.toList) = false) : CodeC Try.prog 0 40 fiB_ (fiS l svc op lev x i) (Ex.normal) ({ env := [((1 : Nat), Sg svc), ((2 : Nat), Sg op), ((3 : Nat), I lev), ((9 : Nat), V.own (900 : Nat)), ((12 : Nat), V.sl (14 : Nat) (List.map Rw.row l)), ((13 : Nat), I (Int.ofNat (List.length l))), ((14 : Nat), I (Int.ofNat (i + (1 : Nat))))], st := [((900 : Nat), Obj.arr (14 : Nat) (List.map Rw.row x))], ids := [(900 : Nat)] }) :=
  runP hmix [.reg 3 [(0, [], some true)], .reg 4 [(1, [.row (Rw.row r)], none)], .reg 5 [(4, [], some false)], .reg 7 [(0, [.be (I ((i + 1 : Nat) : Int))], none)]] ⟨[1, 2, 3, 9, 12, 13, 14], [(900, 900)], []⟩ [
      decide (Int.ofNat i < Int.ofNat (List.length l)) = true,
      (0 : Int) ≤ Int.ofNat i,
      Int.ofNat i < Int.ofNat (List.length (List.map Rw.row l)),
      (List.map Rw.row l)[i]? = some (Rw.row r),
      (ByteArray.toList (Rw.svc r) == ByteArray.toList svc) = false,
      IntKind.wrap IntKind.i64 (Int.ofNat (i + (1 : Nat))) = Int.ofNat (i + (1 : Nat))] (by kernel_rfl)
    (by
      simp only [allP]
      and_intros <;> first
        | omega
        | (simp; omega)
        | (simp [hx]; done)
        | exact i64_small (by simp; omega))

theorem fiB (l : List Rw) (svc op : ByteArray) (lev : Int) (x : List Rw) (r : Rw) (i : Nat) (h : i < l.length) (hx : l[i]? = some r) (hs : l.length ≤ 1000000) (hl : x.length ≤ 1000000) (e0 : (r.svc.toList == svc.toList) = false)  : CodeC Try.prog 0 40 fiB_ (fiS l svc op lev x i) .normal (fiS l svc op lev x (i + 1)) := by
  exact CodeC.cast (by
    first
      | rfl) (fiB_0 l svc op lev x r i h hx hs hl e0 )

theorem fiC_0 (l : List Rw) (svc op : ByteArray) (lev : Int) (x : List Rw) (r : Rw) (i : Nat) (h : i < l.length) (hx : l[i]? = some r) (hs : l.length ≤ 1000000) (hl : x.length ≤ 1000000) (e0 : (r.svc.toList == svc.toList) = true) (e1 : (r.op.toList == op.toList) = false) : CodeC Try.prog 0 40 fiB_ (fiS l svc op lev x i) (Ex.normal) ({ env := [((1 : Nat), Sg svc), ((2 : Nat), Sg op), ((3 : Nat), I lev), ((9 : Nat), V.own (900 : Nat)), ((12 : Nat), V.sl (14 : Nat) (List.map Rw.row l)), ((13 : Nat), I (Int.ofNat (List.length l))), ((14 : Nat), I (Int.ofNat (i + (1 : Nat))))], st := [((900 : Nat), Obj.arr (14 : Nat) (List.map Rw.row x))], ids := [(900 : Nat)] }) :=
  runP hmix [.reg 3 [(0, [], some true)], .reg 4 [(1, [.row (Rw.row r)], none)], .reg 5 [(4, [], some true), (10, [], some false)], .reg 7 [(0, [.be (I ((i + 1 : Nat) : Int))], none)]] ⟨[1, 2, 3, 9, 12, 13, 14], [(900, 900)], []⟩ [
      decide (Int.ofNat i < Int.ofNat (List.length l)) = true,
      (0 : Int) ≤ Int.ofNat i,
      Int.ofNat i < Int.ofNat (List.length (List.map Rw.row l)),
      (List.map Rw.row l)[i]? = some (Rw.row r),
      (ByteArray.toList (Rw.svc r) == ByteArray.toList svc) = true,
      (ByteArray.toList (Rw.op r) == ByteArray.toList op) = false,
      IntKind.wrap IntKind.i64 (Int.ofNat (i + (1 : Nat))) = Int.ofNat (i + (1 : Nat))] (by kernel_rfl)
    (by
      simp only [allP]
      and_intros <;> first
        | omega
        | (simp; omega)
        | (simp [hx]; done)
        | exact i64_small (by simp; omega))

theorem fiC (l : List Rw) (svc op : ByteArray) (lev : Int) (x : List Rw) (r : Rw) (i : Nat) (h : i < l.length) (hx : l[i]? = some r) (hs : l.length ≤ 1000000) (hl : x.length ≤ 1000000) (e0 : (r.svc.toList == svc.toList) = true) (e1 : (r.op.toList == op.toList) = false)  : CodeC Try.prog 0 40 fiB_ (fiS l svc op lev x i) .normal (fiS l svc op lev x (i + 1)) := by
  exact CodeC.cast (by
    first
      | rfl) (fiC_0 l svc op lev x r i h hx hs hl e0 e1 )

theorem fiD_0 (l : List Rw) (svc op : ByteArray) (lev : Int) (x : List Rw) (r : Rw) (i : Nat) (h : i < l.length) (hx : l[i]? = some r) (hs : l.length ≤ 1000000) (hl : x.length ≤ 1000000) (e0 : (r.svc.toList == svc.toList) = true) (e1 : (r.op.toList == op.toList) = true) (e2 : (decide (r.lev = lev)) = false) : CodeC Try.prog 0 40 fiB_ (fiS l svc op lev x i) (Ex.normal) ({ env := [((1 : Nat), Sg svc), ((2 : Nat), Sg op), ((3 : Nat), I lev), ((9 : Nat), V.own (900 : Nat)), ((12 : Nat), V.sl (14 : Nat) (List.map Rw.row l)), ((13 : Nat), I (Int.ofNat (List.length l))), ((14 : Nat), I (Int.ofNat (i + (1 : Nat))))], st := [((900 : Nat), Obj.arr (14 : Nat) (List.map Rw.row x))], ids := [(900 : Nat)] }) :=
  runP hmix [.reg 3 [(0, [], some true)], .reg 4 [(1, [.row (Rw.row r)], none)], .reg 5 [(4, [], some true), (10, [], some true), (15, [], some false)], .reg 7 [(0, [.be (I ((i + 1 : Nat) : Int))], none)]] ⟨[1, 2, 3, 9, 12, 13, 14], [(900, 900)], []⟩ [
      decide (Int.ofNat i < Int.ofNat (List.length l)) = true,
      (0 : Int) ≤ Int.ofNat i,
      Int.ofNat i < Int.ofNat (List.length (List.map Rw.row l)),
      (List.map Rw.row l)[i]? = some (Rw.row r),
      (ByteArray.toList (Rw.svc r) == ByteArray.toList svc) = true,
      (ByteArray.toList (Rw.op r) == ByteArray.toList op) = true,
      (Rw.lev r == lev) = false,
      IntKind.wrap IntKind.i64 (Int.ofNat (i + (1 : Nat))) = Int.ofNat (i + (1 : Nat))] (by kernel_rfl)
    (by
      simp only [allP]
      and_intros <;> first
        | omega
        | (simp; omega)
        | (simp [hx]; done)
        | exact i64_small (by simp; omega))

theorem fiD (l : List Rw) (svc op : ByteArray) (lev : Int) (x : List Rw) (r : Rw) (i : Nat) (h : i < l.length) (hx : l[i]? = some r) (hs : l.length ≤ 1000000) (hl : x.length ≤ 1000000) (e0 : (r.svc.toList == svc.toList) = true) (e1 : (r.op.toList == op.toList) = true) (e2 : (decide (r.lev = lev)) = false)  : CodeC Try.prog 0 40 fiB_ (fiS l svc op lev x i) .normal (fiS l svc op lev x (i + 1)) := by
  exact CodeC.cast (by
    first
      | rfl) (fiD_0 l svc op lev x r i h hx hs hl e0 e1 e2 )

theorem fiE_0 (l : List Rw) (svc op : ByteArray) (lev : Int) (x : List Rw) (i : Nat) (h : l.length ≤ i) : CodeC Try.prog 0 40 fiB_ (fiS l svc op lev x i) (Ex.exit (0 : Nat)) ({ env := [((1 : Nat), Sg svc), ((2 : Nat), Sg op), ((3 : Nat), I lev), ((9 : Nat), V.own (900 : Nat)), ((12 : Nat), V.sl (14 : Nat) (List.map Rw.row l)), ((13 : Nat), I (Int.ofNat (List.length l))), ((14 : Nat), I (Int.ofNat i))], st := [((900 : Nat), Obj.arr (14 : Nat) (List.map Rw.row x))], ids := [(900 : Nat)] }) :=
  runP hmix [.reg 3 [(0, [], some false)]] ⟨[1, 2, 3, 9, 12, 13, 14], [(900, 900)], []⟩ [
      decide (Int.ofNat i < Int.ofNat (List.length l)) = false] (by kernel_rfl)
    (by
      simp only [allP]
      and_intros <;> first
        | (simp; omega))

theorem fiE (l : List Rw) (svc op : ByteArray) (lev : Int) (x : List Rw) (i : Nat) (h : l.length ≤ i)  : CodeC Try.prog 0 40 fiB_ (fiS l svc op lev x i) (.exit 0) (fiS l svc op lev x i) := by
  exact CodeC.cast (by
    first
      | rfl) (fiE_0 l svc op lev x i h )

theorem find0_0 (l x : List Rw) (svc op : ByteArray) (lev : Int) (hl : LoopC Try.prog 0 40 fiB_ (fiS l svc op lev [] 0) (.exit 0) (fiS l svc op lev x l.length)) : Contract Try.prog 23 [.sl 14 (l.map Rw.row), Sg svc, Sg op, I lev] [] (V.own (0 : Nat)) ([some (Obj.arr (14 : Nat) (List.map Rw.row x))]) :=
  vcP hmix [.reg 2 [(1, [.be (I (l.length : Int))], none)], .cut ⟨[1, 2, 3, 9, 12, 13, 14], [], [.slot 9 900 14]⟩ (.exit 0) (fiS l svc op lev x l.length)] [900] [
      Int.ofNat (List.length (List.map Rw.row l)) = Int.ofNat (List.length l),
      LoopC Try.prog (0 : Nat) (40 : Nat) fiB_ { env := [((1 : Nat), Sg svc), ((2 : Nat), Sg op), ((3 : Nat), I lev), ((9 : Nat), V.own (900 : Nat)), ((12 : Nat), V.sl (14 : Nat) (List.map Rw.row l)), ((13 : Nat), I (Int.ofNat (List.length l))), ((14 : Nat), I (0 : Int))], st := [((900 : Nat), Obj.arr (14 : Nat) [])], ids := [(900 : Nat)] } (Ex.exit (0 : Nat)) { env := [((1 : Nat), Sg svc), ((2 : Nat), Sg op), ((3 : Nat), I lev), ((9 : Nat), V.own (900 : Nat)), ((12 : Nat), V.sl (14 : Nat) (List.map Rw.row l)), ((13 : Nat), I (Int.ofNat (List.length l))), ((14 : Nat), I (Int.ofNat (List.length l)))], st := [((900 : Nat), Obj.arr (14 : Nat) (List.map Rw.row x))], ids := [(900 : Nat)] }] (by kernel_rfl)
    (by
      simp only [allP]
      and_intros <;> first
        | exact hl
        | (simp; done))

theorem find0 (l x : List Rw) (svc op : ByteArray) (lev : Int) (hl : LoopC Try.prog 0 40 fiB_ (fiS l svc op lev [] 0) (.exit 0) (fiS l svc op lev x l.length)) : Contract Try.prog 23 [.sl 14 (l.map Rw.row), Sg svc, Sg op, I lev] [] (.own 0) [some (.arr 14 (x.map Rw.row))] := by
  exact Contract.cast (by
    first
      | rfl) (by
    first
      | rfl) (find0_0 l x svc op lev hl )

theorem cFind (l : List Rw) (svc op : ByteArray) (lev : Int) (hs : l.length ≤ 1000000) : Contract Try.prog 23 [.sl 14 (l.map Rw.row), Sg svc, Sg op, I lev] [] (.own 0) [some (.arr 14 ((l.filter (pFind svc op lev)).map Rw.row))] := by
  have e : l.filter (pFind svc op lev) = l.foldl (fun x r => bif pFind svc op lev r then x ++ [r] else x) [] := by
    have key : ∀ (l x : List Rw), l.foldl (fun x r => bif pFind svc op lev r then x ++ [r] else x) x = x ++ l.filter (pFind svc op lev) := by
      intro l
      induction l with
      | nil => intro x; simp
      | cons r l ih =>
        intro x
        rw [List.foldl_cons, ih]
        cases h : pFind svc op lev r <;> simp [List.filter_cons, h]
    rw [key]; simp
  rw [e]
  refine find0 l _ svc op lev ?_
  exact LoopC.fold (P := Try.prog) (k := 0) (n := 40) (c := fiB_) l (fun x r => bif pFind svc op lev r then x ++ [r] else x) (fun i x => x.length ≤ i) (fun x i => fiS l svc op lev x i) (e := .exit 0) (by simp)
    (fun i x r hx hi hv => by
      have hs' : x.length ≤ 1000000 := by omega
      rcases tf (r.svc.toList == svc.toList) with e0 | e0
      · rcases tf (r.op.toList == op.toList) with e1 | e1
        · rcases tf (decide (r.lev = lev)) with e2 | e2
          · have : pFind svc op lev r = true := by simp only [pFind, e0, e1, e2]; rfl
            simp only [this, cond_true]
            exact ⟨fiA l svc op lev x r i hi hx hs hs' e0 e1 e2, by simp; omega⟩
          · have : pFind svc op lev r = false := by simp only [pFind, e0, e1, e2]; rfl
            simp only [this, cond_false]
            exact ⟨fiD l svc op lev x r i hi hx hs hs' e0 e1 e2, by omega⟩
        · have : pFind svc op lev r = false := by simp only [pFind, e0, e1]; rfl
          simp only [this, cond_false]
          exact ⟨fiC l svc op lev x r i hi hx hs hs' e0 e1, by omega⟩
      · have : pFind svc op lev r = false := by simp only [pFind, e0]; rfl
        simp only [this, cond_false]
        exact ⟨fiB l svc op lev x r i hi hx hs hs' e0, by omega⟩)
    (fun x _ => fiE l svc op lev x _ (Nat.le_refl _)) [] (by simp)
theorem aliveR : (addR [] spL 9) = [rwA, rwB', rwC] := by rfl
theorem cAlive_0   : Contract Try.prog 8 [] [] (Bo true) ([]) :=
  vcP hmix [.reg 1 [(1, [.call [] [] (.own 0) [some (.arr 14 [Rw.row rwA, Rw.row rwB', Rw.row rwC])]], none)], .reg 2 [(0, [.call [] [] (.own 0) [some (.arr 14 [])]], none)]] [] [
      Contract Try.prog (19 : Nat) [V.sl (14 : Nat) [], V.agg [V.val (Value.int IntKind.u64 (0 : Int)), V.val (Value.int IntKind.u64 (0 : Int)), V.val (Value.int IntKind.u64 (0 : Int)), V.val (Value.int IntKind.u64 (0 : Int)), Sg { data := { toList := [(97 : UInt8)] } }, Sg { data := { toList := [(98 : UInt8)] } }, I (70 : Int), I (0 : Int), Bo false, V.sl (2 : Nat) []], I (9 : Int)] [] (V.own (0 : Nat)) [some (Obj.arr (14 : Nat) [Rw.row { lev := (0 : Int), win := (1 : Int), svc := { data := { toList := [(97 : UInt8)] } }, op := { data := { toList := [(98 : UInt8)] } }, c := fun k0 => upR (0 : Int) (mx (0 : Int) (if h1 : k0 = (0 : Nat) then (1 : Int) else if h2 : k0 = (1 : Nat) then (0 : Int) else bif decide ((0 : Int) = Int.ofNat k0 + (-2 : Int)) then (1 : Int) else (0 : Int))) (9 : Int) }, Rw.row { lev := (1 : Int), win := (0 : Int), svc := { data := { toList := [(97 : UInt8)] } }, op := { data := { toList := [(98 : UInt8)] } }, c := fun k0 => upR (0 : Int) (mx (0 : Int) (if h1 : k0 = (0 : Nat) then (1 : Int) else if h2 : k0 = (1 : Nat) then (0 : Int) else bif decide ((0 : Int) = Int.ofNat k0 + (-2 : Int)) then (1 : Int) else (0 : Int))) (9 : Int) }, Rw.row { lev := (2 : Int), win := (0 : Int), svc := { data := { toList := [(97 : UInt8)] } }, op := { data := { toList := [(98 : UInt8)] } }, c := fun k0 => upR (0 : Int) (mx (0 : Int) (if h1 : k0 = (0 : Nat) then (1 : Int) else if h2 : k0 = (1 : Nat) then (0 : Int) else bif decide ((0 : Int) = Int.ofNat k0 + (-2 : Int)) then (1 : Int) else (0 : Int))) (9 : Int) }])],
      Contract Try.prog (23 : Nat) [V.sl (14 : Nat) [], Sg { data := { toList := [(97 : UInt8)] } }, Sg { data := { toList := [(98 : UInt8)] } }, I (0 : Int)] [] (V.own (0 : Nat)) [some (Obj.arr (14 : Nat) [])],
      (0 : Int) ≤ (0 : Int),
      (0 : Int) < (3 : Int),
      (0 : Int) ≤ (2 : Int),
      (2 : Int) < (3 : Int)] (by kernel_rfl)
    (by
      simp only [allP]
      and_intros <;> first
        | omega
        | (have h := cAdd [] spL 9 (by simp) (by simp [spL]); rw [aliveR] at h; exact h)
        | exact cFind [] _ _ 0 (by simp))

theorem cAlive   : Contract Try.prog 8 [] [] (Bo true) [] := by
  exact Contract.cast (by
    first
      | rfl) (by
    first
      | rfl) (cAlive_0   )

end Go.Proofs.Ytigakemkanobaaa
