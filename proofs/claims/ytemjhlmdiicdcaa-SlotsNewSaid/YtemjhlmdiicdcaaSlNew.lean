/- Proved here: whatever the input, gleaninglaw12.SlotsNew returns true and leaves what it is handed as it was. No conditions beyond the row. -/
import Derived.Test.YtemjhlmdiicdcaaRows
import Derived.Test.YtemjhlmdiicdcaaSlD
namespace Go.Proofs.Ytemjhlmdiicdcaa
open E Go.ChangeShapes Go.WideShapes Go.ChangeAt Go.RowKit
set_option maxRecDepth 100000
set_option linter.unusedVariables false
set_option linter.unusedSimpArgs false


def mkO (k : Nat) : Em := ⟨⟨#[115]⟩, ⟨#[111]⟩, 0, 0, (k : Int), 0⟩
def mkP (k : Nat) : Em := ⟨⟨#[115]⟩, ⟨#[112]⟩, 0, 0, (k : Int), 0⟩
/-- The newest ones. -/
def topO : Nat → List Em
  | 0 => []
  | 1 => [mkO 0]
  | k + 2 => [mkO (k + 1), mkO k]
def topP : Nat → List Em
  | 0 => []
  | 1 => [mkP 0]
  | k + 2 => [mkP (k + 1), mkP k]
def nwS (n o i : Nat) (a b : Nat) : SL := ⟨[(0, I (n : Int)), (1, I (o : Int)), (6, .own 900), (7, I (i : Int))], [(900, .arr 6 ((topO a ++ topP b).map Em.row))], [900]⟩
def em0 : Em := ⟨⟨#[97]⟩, ⟨#[98]⟩, 0, 0, 4, 0⟩
def FAlive : List V → Option V := fun _ => some (Bo true)
noncomputable def nwB : Code := codeAt Try.prog 3 [true, true, true, true, false, true, false, false]

theorem cmpOO (a b : Nat) : cmpE (mkO a) (mkO b) = 0 := by simp [cmpE, mkO, cmpS_self, orI]
theorem cmpPP (a b : Nat) : cmpE (mkP a) (mkP b) = 0 := by simp [cmpE, mkP, cmpS_self, orI]
theorem ltop : ltS ⟨#[111]⟩ ⟨#[112]⟩ = true := by rw [ltS_iff, ByteArray.toList_eq, ByteArray.toList_eq]; decide
theorem cmpOP (a b : Nat) : cmpE (mkO a) (mkP b) = -1 := by
  have h : cmpS ⟨#[111]⟩ ⟨#[112]⟩ = -1 := by unfold cmpS; rw [ltop]; rfl
  simp [cmpE, mkO, mkP, cmpS_self, orI, h]
theorem cmpPO (a b : Nat) : cmpE (mkP a) (mkO b) = 1 := by
  have h : cmpS ⟨#[112]⟩ ⟨#[111]⟩ = 1 := by rw [cmpS_flip ⟨#[111]⟩ ⟨#[112]⟩]; unfold cmpS; rw [ltop]; rfl
  simp [cmpE, mkO, mkP, cmpS_self, orI, h]

theorem putO (a b : Nat) : putE (topO a ++ topP b) (mkO a) = topO (a + 1) ++ topP b := by
  match a with
  | 0 => match b with
    | 0 => simp [putE, atE, topO, topP, insE, scanE, pPut, cmpOO]
    | 1 => simp [putE, atE, topO, topP, insE, scanE, pPut, cmpOO, cmpPO, List.findIdx?_cons]
    | b + 2 => simp [putE, atE, topO, topP, insE, scanE, pPut, cmpOO, cmpPO, List.findIdx?_cons]
  | 1 => match b with
    | 0 => simp [putE, atE, topO, topP, insE, scanE, pPut, cmpOO, List.findIdx?_cons]
    | 1 => simp [putE, atE, topO, topP, insE, scanE, pPut, cmpOO, cmpPO, List.findIdx?_cons]
    | b + 2 => simp [putE, atE, topO, topP, insE, scanE, pPut, cmpOO, cmpPO, List.findIdx?_cons]
  | a + 2 => match b with
    | 0 => simp [putE, atE, topO, topP, insE, scanE, pPut, cmpOO, delE, List.findIdx?_cons]
    | 1 => simp [putE, atE, topO, topP, insE, scanE, pPut, cmpOO, cmpPO, delE, List.findIdx?_cons]
    | b + 2 => simp [putE, atE, topO, topP, insE, scanE, pPut, cmpOO, cmpPO, delE, List.findIdx?_cons]
theorem putP (a b : Nat) : putE (topO a ++ topP b) (mkP b) = topO a ++ topP (b + 1) := by
  match a with
  | 0 => match b with
    | 0 => simp [putE, atE, topO, topP, insE, scanE, pPut, cmpPP]
    | 1 => simp [putE, atE, topO, topP, insE, scanE, pPut, cmpPP, cmpOP, List.findIdx?_cons]
    | b + 2 => simp [putE, atE, topO, topP, insE, scanE, pPut, cmpPP, cmpOP, delE, List.findIdx?_cons]
  | 1 => match b with
    | 0 => simp [putE, atE, topO, topP, insE, scanE, pPut, cmpPP, cmpOP, List.findIdx?_cons]
    | 1 => simp [putE, atE, topO, topP, insE, scanE, pPut, cmpPP, cmpOP, List.findIdx?_cons]
    | b + 2 => simp [putE, atE, topO, topP, insE, scanE, pPut, cmpPP, cmpOP, delE, List.findIdx?_cons]
  | a + 2 => match b with
    | 0 => simp [putE, atE, topO, topP, insE, scanE, pPut, cmpPP, cmpOP, List.findIdx?_cons]
    | 1 => simp [putE, atE, topO, topP, insE, scanE, pPut, cmpPP, cmpOP, List.findIdx?_cons]
    | b + 2 => simp [putE, atE, topO, topP, insE, scanE, pPut, cmpPP, cmpOP, delE, List.findIdx?_cons]
theorem topO_len (a : Nat) : (topO a).length = min a 2 := by
  match a with
  | 0 => rfl
  | 1 => rfl
  | a + 2 => simp [topO]
theorem topP_len (a : Nat) : (topP a).length = min a 2 := by
  match a with
  | 0 => rfl
  | 1 => rfl
  | a + 2 => simp [topP]
theorem sameO (k : Nat) : sameK ⟨#[115]⟩ ⟨#[111]⟩ (mkO k) = true := by simp [sameK, mkO]
theorem sameP (k : Nat) : sameK ⟨#[115]⟩ ⟨#[111]⟩ (mkP k) = false := by
  have h : ((⟨#[112]⟩ : ByteArray).toList == (⟨#[111]⟩ : ByteArray).toList) = false := by rw [ByteArray.toList_eq, ByteArray.toList_eq]; decide
  simp [sameK, mkP, h]
theorem findTop (a b : Nat) : (topO a ++ topP b).filter (sameK ⟨#[115]⟩ ⟨#[111]⟩) = topO a := by
  have h1 : (topO a).filter (sameK ⟨#[115]⟩ ⟨#[111]⟩) = topO a := by
    match a with
    | 0 => rfl
    | 1 => simp [topO, sameO]
    | a + 2 => simp [topO, sameO]
  have h2 : (topP b).filter (sameK ⟨#[115]⟩ ⟨#[111]⟩) = [] := by
    match b with
    | 0 => rfl
    | 1 => simp [topP, sameP]
    | b + 2 => simp [topP, sameP]
  rw [List.filter_append, h1, h2, List.append_nil]
theorem flatRows (l : List Em) : FlatRows (l.map Em.row) := by
  intro r hr
  obtain ⟨e, _, rfl⟩ := List.mem_map.1 hr
  rfl

theorem cPutO (a b : Nat) : Contract Try.prog 7 [.sl 6 ((topO a ++ topP b).map Em.row), .sl 6 [(mkO a).row]] [] (.own 0) [some (.arr 6 ((topO (a + 1) ++ topP b).map Em.row))] := by
  have h := cPuts (topO a ++ topP b) [mkO a] (by simp [topO_len, topP_len]; omega)
  simp only [List.foldl_cons, List.foldl_nil, putO] at h
  exact h
theorem cPutP (a b : Nat) : Contract Try.prog 7 [.sl 6 ((topO a ++ topP b).map Em.row), .sl 6 [(mkP b).row]] [] (.own 0) [some (.arr 6 ((topO a ++ topP (b + 1)).map Em.row))] := by
  have h := cPuts (topO a ++ topP b) [mkP b] (by simp [topO_len, topP_len]; omega)
  simp only [List.foldl_cons, List.foldl_nil, putP] at h
  exact h
theorem cFindTop (a b : Nat) : Contract Try.prog 8 [.sl 6 ((topO a ++ topP b).map Em.row), Sg ⟨#[115]⟩, Sg ⟨#[111]⟩] [] (.own 0) [some (.arr 6 ((topO a).map Em.row))] := by
  have h := cFind (topO a ++ topP b) ⟨#[115]⟩ ⟨#[111]⟩ (by simp [topO_len, topP_len]; omega)
  rw [findTop] at h
  exact h
theorem put0 : putE [] em0 = [em0] := by simp [putE, atE, insE, scanE, cmpE, cmpS_self, orI]

theorem cAlive  : Contract Try.prog 6 [] [] (Bo true) [] :=
  vcP hmix [.reg 1 [(2, [.call [] [] (.own 0) [some (.arr 6 [em0.row])]], none)], .reg 2 [(0, [.call [] [] (.own 0) [some (.arr 6 [])]], none)]] [] [
      Contract Try.prog (7 : Nat) [V.sl (6 : Nat) [], V.sl (6 : Nat) [[Sg { data := { toList := [(97 : UInt8)] } }, Sg { data := { toList := [(98 : UInt8)] } }, V.val (Value.int IntKind.u64 (0 : Int)), V.val (Value.int IntKind.u64 (0 : Int)), V.val (Value.int IntKind.u64 (4 : Int)), I (0 : Int)]]] [] (V.own (0 : Nat)) [some (Obj.arr (6 : Nat) [Em.row { svc := { data := { toList := [(97 : UInt8)] } }, op := { data := { toList := [(98 : UInt8)] } }, hi := (0 : Int), lo := (0 : Int), id := (4 : Int), block := (0 : Int) }])],
      true = true,
      FlatRows [Em.row { svc := { data := { toList := [(97 : UInt8)] } }, op := { data := { toList := [(98 : UInt8)] } }, hi := (0 : Int), lo := (0 : Int), id := (4 : Int), block := (0 : Int) }],
      Contract Try.prog (8 : Nat) [V.sl (6 : Nat) [], Sg { data := { toList := [(97 : UInt8)] } }, Sg { data := { toList := [(98 : UInt8)] } }] [] (V.own (0 : Nat)) [some (Obj.arr (6 : Nat) [])],
      (0 : Int) ≤ (0 : Int),
      (0 : Int) < (1 : Int)] (by kernel_rfl)
    (by
      simp only [allP]
      and_intros <;> first
        | omega
        | with_reducible assumption
        | (have h := cPuts [] [em0] (by simp); simp only [List.foldl_cons, List.foldl_nil, put0] at h; exact h)
        | exact cFind [] _ _ (by simp)
        | (intro r hr; simp at hr; subst hr; rfl)
        | (intro r hr; simp at hr; done)
        | (simp; done)
        | decide)

theorem nwBoth (n o i a b : Nat) (hi : i < 1000000) (h1 : i < n) (h2 : i < o) (ha : a = i) (hb : b = i) : CodeC Try.prog 0 87 nwB (nwS n o i a b) .normal (nwS n o (i + 1) (a + 1) (b + 1)) :=
  runP hmix [.reg 6 [(2, [], some true)], .reg 8 [(2, [], some true)], .reg 9 [(2, [.be (U (a : Int))], none), (5, [.call [] [900, 1805000] (.own 0) [some (.arr 6 ((topO (a + 1) ++ topP b).map Em.row))]], none)], .reg 10 [(2, [], some true)], .reg 11 [(2, [.be (U (b : Int))], none), (5, [.call [] [1806001, 2205000] (.own 0) [some (.arr 6 ((topO (a + 1) ++ topP (b + 1)).map Em.row))]], none)], .reg 7 [(1, [.be (I ((i + 1 : Nat) : Int))], none)]] ⟨[0, 1, 6, 7], [(2206001, 900)], []⟩ [
      decide (Int.ofNat i < Int.ofNat n) = true,
      decide (Int.ofNat i < Int.ofNat n) = true,
      Int.ofNat (i % (18446744073709551616 : Nat)) = Int.ofNat a,
      Contract Try.prog (7 : Nat) [V.sl (6 : Nat) (List.map Em.row (topO a ++ topP b)), V.sl (6 : Nat) [[Sg { data := { toList := [(115 : UInt8)] } }, Sg { data := { toList := [(111 : UInt8)] } }, V.val (Value.int IntKind.u64 (0 : Int)), V.val (Value.int IntKind.u64 (0 : Int)), V.val (Value.int IntKind.u64 (Int.ofNat a)), I (0 : Int)]]] [] (V.own (0 : Nat)) [some (Obj.arr (6 : Nat) (List.map Em.row (topO (a + (1 : Nat)) ++ topP b)))],
      decide (Int.ofNat i < Int.ofNat o) = true,
      Int.ofNat (i % (18446744073709551616 : Nat)) = Int.ofNat b,
      Contract Try.prog (7 : Nat) [V.sl (6 : Nat) (List.map Em.row (topO (a + (1 : Nat)) ++ topP b)), V.sl (6 : Nat) [[Sg { data := { toList := [(115 : UInt8)] } }, Sg { data := { toList := [(112 : UInt8)] } }, V.val (Value.int IntKind.u64 (0 : Int)), V.val (Value.int IntKind.u64 (0 : Int)), V.val (Value.int IntKind.u64 (Int.ofNat b)), I (0 : Int)]]] [] (V.own (0 : Nat)) [some (Obj.arr (6 : Nat) (List.map Em.row (topO (a + (1 : Nat)) ++ topP (b + (1 : Nat)))))],
      IntKind.wrap IntKind.i64 (Int.ofNat (i + (1 : Nat))) = Int.ofNat (i + (1 : Nat))] (by kernel_rfl)
    (by
      simp only [allP]
      and_intros <;> first
        | omega
        | with_reducible assumption
        | (simp; omega)
        | exact i64_small (by simp; omega)
        | (rw [u64_small (by omega)]; done)
        | exact cPutO a b
        | exact cPutP a b
        | exact cPutP (a + 1) b
        | exact flatRows _
        | (intro r hr; simp at hr; subst hr; rfl)
        | (simp; done)
        | decide)

theorem nwOnlyN (n o i a b : Nat) (hi : i < 1000000) (h1 : i < n) (h2 : ¬ i < o) (ha : a = i) : CodeC Try.prog 0 87 nwB (nwS n o i a b) .normal (nwS n o (i + 1) (a + 1) b) :=
  runP hmix [.reg 6 [(2, [], some true)], .reg 8 [(2, [], some true)], .reg 9 [(2, [.be (U (a : Int))], none), (5, [.call [] [900, 1805000] (.own 0) [some (.arr 6 ((topO (a + 1) ++ topP b).map Em.row))]], none)], .reg 10 [(2, [], some false)], .reg 7 [(1, [.be (I ((i + 1 : Nat) : Int))], none)]] ⟨[0, 1, 6, 7], [(1806001, 900)], []⟩ [
      decide (Int.ofNat i < Int.ofNat n) = true,
      decide (Int.ofNat i < Int.ofNat n) = true,
      Int.ofNat (i % (18446744073709551616 : Nat)) = Int.ofNat a,
      Contract Try.prog (7 : Nat) [V.sl (6 : Nat) (List.map Em.row (topO a ++ topP b)), V.sl (6 : Nat) [[Sg { data := { toList := [(115 : UInt8)] } }, Sg { data := { toList := [(111 : UInt8)] } }, V.val (Value.int IntKind.u64 (0 : Int)), V.val (Value.int IntKind.u64 (0 : Int)), V.val (Value.int IntKind.u64 (Int.ofNat a)), I (0 : Int)]]] [] (V.own (0 : Nat)) [some (Obj.arr (6 : Nat) (List.map Em.row (topO (a + (1 : Nat)) ++ topP b)))],
      decide (Int.ofNat i < Int.ofNat o) = false,
      IntKind.wrap IntKind.i64 (Int.ofNat (i + (1 : Nat))) = Int.ofNat (i + (1 : Nat))] (by kernel_rfl)
    (by
      simp only [allP]
      and_intros <;> first
        | omega
        | with_reducible assumption
        | (simp; omega)
        | exact i64_small (by simp; omega)
        | (rw [u64_small (by omega)]; done)
        | exact cPutO a b
        | exact cPutP a b
        | exact cPutP (a + 1) b
        | exact flatRows _
        | (intro r hr; simp at hr; subst hr; rfl)
        | (simp; done)
        | decide)

theorem nwOnlyO (n o i a b : Nat) (hi : i < 1000000) (h1 : ¬ i < n) (h2 : i < o) (hb : b = i) : CodeC Try.prog 0 87 nwB (nwS n o i a b) .normal (nwS n o (i + 1) a (b + 1)) :=
  runP hmix [.reg 6 [(2, [], some false), (6, [], some true)], .reg 8 [(2, [], some false)], .reg 10 [(2, [], some true)], .reg 11 [(2, [.be (U (b : Int))], none), (5, [.call [] [900, 2205000] (.own 0) [some (.arr 6 ((topO a ++ topP (b + 1)).map Em.row))]], none)], .reg 7 [(1, [.be (I ((i + 1 : Nat) : Int))], none)]] ⟨[0, 1, 6, 7], [(2206001, 900)], []⟩ [
      decide (Int.ofNat i < Int.ofNat n) = false,
      decide (Int.ofNat i < Int.ofNat o) = true,
      decide (Int.ofNat i < Int.ofNat n) = false,
      decide (Int.ofNat i < Int.ofNat o) = true,
      Int.ofNat (i % (18446744073709551616 : Nat)) = Int.ofNat b,
      Contract Try.prog (7 : Nat) [V.sl (6 : Nat) (List.map Em.row (topO a ++ topP b)), V.sl (6 : Nat) [[Sg { data := { toList := [(115 : UInt8)] } }, Sg { data := { toList := [(112 : UInt8)] } }, V.val (Value.int IntKind.u64 (0 : Int)), V.val (Value.int IntKind.u64 (0 : Int)), V.val (Value.int IntKind.u64 (Int.ofNat b)), I (0 : Int)]]] [] (V.own (0 : Nat)) [some (Obj.arr (6 : Nat) (List.map Em.row (topO a ++ topP (b + (1 : Nat)))))],
      IntKind.wrap IntKind.i64 (Int.ofNat (i + (1 : Nat))) = Int.ofNat (i + (1 : Nat))] (by kernel_rfl)
    (by
      simp only [allP]
      and_intros <;> first
        | omega
        | with_reducible assumption
        | (simp; omega)
        | exact i64_small (by simp; omega)
        | (rw [u64_small (by omega)]; done)
        | exact cPutO a b
        | exact cPutP a b
        | exact cPutP (a + 1) b
        | exact flatRows _
        | (intro r hr; simp at hr; subst hr; rfl)
        | (simp; done)
        | decide)

theorem nwEnd (n o i a b : Nat) (hi : i < 1000000) (h1 : ¬ i < n) (h2 : ¬ i < o) : CodeC Try.prog 0 87 nwB (nwS n o i a b) (.exit 0) (nwS n o i a b) :=
  runP hmix [.reg 6 [(2, [], some false), (6, [], some false)]] ⟨[0, 1, 6, 7], [(900, 900)], []⟩ [
      decide (Int.ofNat i < Int.ofNat n) = false,
      decide (Int.ofNat i < Int.ofNat o) = false] (by kernel_rfl)
    (by
      simp only [allP]
      and_intros <;> first
        | omega
        | with_reducible assumption
        | (simp; omega)
        | exact i64_small (by simp; omega)
        | (rw [u64_small (by omega)]; done)
        | exact cPutO a b
        | exact cPutP a b
        | exact cPutP (a + 1) b
        | exact flatRows _
        | (intro r hr; simp at hr; subst hr; rfl)
        | (simp; done)
        | decide)

theorem nwLoop (n o : Nat) (hn : n ≤ 40) (ho : o ≤ 40) : ∀ (m i : Nat), i + m = max n o → LoopC Try.prog 0 87 nwB (nwS n o i (min i n) (min i o)) (.exit 0) (nwS n o (max n o) n o)
  | 0, i, h => by
    have e1 : min i n = n := by omega
    have e2 : min i o = o := by omega
    have e3 : i = max n o := by omega
    rw [e1, e2]
    subst e3
    exact LoopC.last (nwEnd n o _ n o (by omega) (by omega) (by omega)) (by simp)
  | m + 1, i, h => by
    have ih := nwLoop n o hn ho m (i + 1) (by omega)
    by_cases h1 : i < n
    · by_cases h2 : i < o
      · rw [show min i n = i by omega, show min i o = i by omega]
        rw [show min (i + 1) n = i + 1 by omega, show min (i + 1) o = i + 1 by omega] at ih
        exact LoopC.next (nwBoth n o i i i (by omega) h1 h2 rfl rfl) ih
      · rw [show min i n = i by omega, show min i o = o by omega]
        rw [show min (i + 1) n = i + 1 by omega, show min (i + 1) o = o by omega] at ih
        exact LoopC.next (nwOnlyN n o i i o (by omega) h1 h2 rfl) ih
    · have h2 : i < o := by omega
      rw [show min i n = n by omega, show min i o = i by omega]
      rw [show min (i + 1) n = n by omega, show min (i + 1) o = i + 1 by omega] at ih
      exact LoopC.next (nwOnlyO n o i n i (by omega) h1 h2 rfl) ih

theorem new0 (o : Nat)  (ho : o ≤ 40) : Contract Try.prog 3 [I ((0 : Nat) : Int), I (o : Int)] [] (Bo true) [] :=
  vcP hmix [.reg 2 [(4, [], some false), (8, [], some false), (12, [], some false), (16, [], some false)], .cut ⟨[0, 1, 6, 7], [], [.slot 6 900 6]⟩ (.exit 0) (nwS 0 o (max 0 o) 0 o), .reg 12 [(1, [.call [] [] (.own 0) [some (.arr 6 ((topO 0).map Em.row))]], none)], .unroll 3, .reg 23 [(2, [], some true)], .tab [(6, FAlive)]] [] [
      Contract Try.prog (6 : Nat) [] [] (Bo true) [],
      false = false,
      false = false,
      false = false,
      decide (Int.ofNat o > (40 : Int)) = false,
      LoopC Try.prog (0 : Nat) (87 : Nat) nwB { env := [((0 : Nat), I (0 : Int)), ((1 : Nat), I (Int.ofNat o)), ((6 : Nat), V.own (900 : Nat)), ((7 : Nat), I (0 : Int))], st := [((900 : Nat), Obj.arr (6 : Nat) [])], ids := [(900 : Nat)] } (Ex.exit (0 : Nat)) { env := [((0 : Nat), I (0 : Int)), ((1 : Nat), I (Int.ofNat o)), ((6 : Nat), V.own (900 : Nat)), ((7 : Nat), I (Int.ofNat (max (0 : Nat) o)))], st := [((900 : Nat), Obj.arr (6 : Nat) (List.map Em.row (topP o)))], ids := [(900 : Nat)] },
      Contract Try.prog (8 : Nat) [V.sl (6 : Nat) (List.map Em.row (topP o)), Sg { data := { toList := [(115 : UInt8)] } }, Sg { data := { toList := [(111 : UInt8)] } }] [] (V.own (0 : Nat)) [some (Obj.arr (6 : Nat) [])],
      true = true,
      FlatRows [],
      decide (Int.ofNat (List.length (List.map Em.row (topP o))) ≤ (4 : Int)) = true] (by kernel_rfl)
    (by
      simp only [allP]
      and_intros <;> first
        | omega
        | with_reducible assumption
        | exact cAlive
        | exact nwLoop 0 o (by omega) ho (max 0 o) 0 (by omega)
        | exact cFindTop 0 o
        | exact flatRows _
        | (simp [topO_len, topP_len]; omega)
        | (simp; omega)
        | exact i64_small (by simp; omega)
        | exact flatRows (topO 0)
        | (rw [i64_small (by simp; omega)]; simp; omega)
        | (simp; done)
        | decide)

theorem new1 (o : Nat)  (ho : o ≤ 40) : Contract Try.prog 3 [I ((1 : Nat) : Int), I (o : Int)] [] (Bo true) [] :=
  vcP hmix [.reg 2 [(4, [], some false), (8, [], some false), (12, [], some false), (16, [], some false)], .cut ⟨[0, 1, 6, 7], [], [.slot 6 900 6]⟩ (.exit 0) (nwS 1 o (max 1 o) 1 o), .reg 12 [(1, [.call [] [] (.own 0) [some (.arr 6 ((topO 1).map Em.row))]], none)], .unroll 3, .reg 23 [(2, [], some true)], .tab [(6, FAlive)]] [] [
      Contract Try.prog (6 : Nat) [] [] (Bo true) [],
      false = false,
      false = false,
      false = false,
      decide (Int.ofNat o > (40 : Int)) = false,
      LoopC Try.prog (0 : Nat) (87 : Nat) nwB { env := [((0 : Nat), I (1 : Int)), ((1 : Nat), I (Int.ofNat o)), ((6 : Nat), V.own (900 : Nat)), ((7 : Nat), I (0 : Int))], st := [((900 : Nat), Obj.arr (6 : Nat) [])], ids := [(900 : Nat)] } (Ex.exit (0 : Nat)) { env := [((0 : Nat), I (1 : Int)), ((1 : Nat), I (Int.ofNat o)), ((6 : Nat), V.own (900 : Nat)), ((7 : Nat), I (Int.ofNat (max (1 : Nat) o)))], st := [((900 : Nat), Obj.arr (6 : Nat) (Em.row { svc := { data := { toList := [(115 : UInt8)] } }, op := { data := { toList := [(111 : UInt8)] } }, hi := (0 : Int), lo := (0 : Int), id := (0 : Int), block := (0 : Int) } :: List.map Em.row (topP o)))], ids := [(900 : Nat)] },
      Contract Try.prog (8 : Nat) [V.sl (6 : Nat) (Em.row { svc := { data := { toList := [(115 : UInt8)] } }, op := { data := { toList := [(111 : UInt8)] } }, hi := (0 : Int), lo := (0 : Int), id := (0 : Int), block := (0 : Int) } :: List.map Em.row (topP o)), Sg { data := { toList := [(115 : UInt8)] } }, Sg { data := { toList := [(111 : UInt8)] } }] [] (V.own (0 : Nat)) [some (Obj.arr (6 : Nat) [Em.row { svc := { data := { toList := [(115 : UInt8)] } }, op := { data := { toList := [(111 : UInt8)] } }, hi := (0 : Int), lo := (0 : Int), id := (0 : Int), block := (0 : Int) }])],
      true = true,
      FlatRows [Em.row { svc := { data := { toList := [(115 : UInt8)] } }, op := { data := { toList := [(111 : UInt8)] } }, hi := (0 : Int), lo := (0 : Int), id := (0 : Int), block := (0 : Int) }],
      (0 : Int) ≤ (0 : Int),
      (0 : Int) < (1 : Int),
      decide (Int.ofNat (List.length (Em.row { svc := { data := { toList := [(115 : UInt8)] } }, op := { data := { toList := [(111 : UInt8)] } }, hi := (0 : Int), lo := (0 : Int), id := (0 : Int), block := (0 : Int) } :: List.map Em.row (topP o))) ≤ (4 : Int)) = true] (by kernel_rfl)
    (by
      simp only [allP]
      and_intros <;> first
        | omega
        | with_reducible assumption
        | exact cAlive
        | exact nwLoop 1 o (by omega) ho (max 1 o) 0 (by omega)
        | exact cFindTop 1 o
        | exact flatRows _
        | (simp [topO_len, topP_len]; omega)
        | (simp; omega)
        | exact i64_small (by simp; omega)
        | exact flatRows (topO 1)
        | (rw [i64_small (by simp; omega)]; simp; omega)
        | (simp; done)
        | decide)

theorem new2 (o : Nat)  (ho : o ≤ 40) : Contract Try.prog 3 [I ((2 : Nat) : Int), I (o : Int)] [] (Bo true) [] :=
  vcP hmix [.reg 2 [(4, [], some false), (8, [], some false), (12, [], some false), (16, [], some false)], .cut ⟨[0, 1, 6, 7], [], [.slot 6 900 6]⟩ (.exit 0) (nwS 2 o (max 2 o) 2 o), .reg 12 [(1, [.call [] [] (.own 0) [some (.arr 6 ((topO 2).map Em.row))]], none)], .unroll 3, .reg 23 [(2, [], some true)], .tab [(6, FAlive)]] [] [
      Contract Try.prog (6 : Nat) [] [] (Bo true) [],
      false = false,
      false = false,
      false = false,
      decide (Int.ofNat o > (40 : Int)) = false,
      LoopC Try.prog (0 : Nat) (87 : Nat) nwB { env := [((0 : Nat), I (2 : Int)), ((1 : Nat), I (Int.ofNat o)), ((6 : Nat), V.own (900 : Nat)), ((7 : Nat), I (0 : Int))], st := [((900 : Nat), Obj.arr (6 : Nat) [])], ids := [(900 : Nat)] } (Ex.exit (0 : Nat)) { env := [((0 : Nat), I (2 : Int)), ((1 : Nat), I (Int.ofNat o)), ((6 : Nat), V.own (900 : Nat)), ((7 : Nat), I (Int.ofNat (max (2 : Nat) o)))], st := [((900 : Nat), Obj.arr (6 : Nat) (Em.row { svc := { data := { toList := [(115 : UInt8)] } }, op := { data := { toList := [(111 : UInt8)] } }, hi := (0 : Int), lo := (0 : Int), id := (1 : Int), block := (0 : Int) } :: Em.row { svc := { data := { toList := [(115 : UInt8)] } }, op := { data := { toList := [(111 : UInt8)] } }, hi := (0 : Int), lo := (0 : Int), id := (0 : Int), block := (0 : Int) } :: List.map Em.row (topP o)))], ids := [(900 : Nat)] },
      Contract Try.prog (8 : Nat) [V.sl (6 : Nat) (Em.row { svc := { data := { toList := [(115 : UInt8)] } }, op := { data := { toList := [(111 : UInt8)] } }, hi := (0 : Int), lo := (0 : Int), id := (1 : Int), block := (0 : Int) } :: Em.row { svc := { data := { toList := [(115 : UInt8)] } }, op := { data := { toList := [(111 : UInt8)] } }, hi := (0 : Int), lo := (0 : Int), id := (0 : Int), block := (0 : Int) } :: List.map Em.row (topP o)), Sg { data := { toList := [(115 : UInt8)] } }, Sg { data := { toList := [(111 : UInt8)] } }] [] (V.own (0 : Nat)) [some (Obj.arr (6 : Nat) [Em.row { svc := { data := { toList := [(115 : UInt8)] } }, op := { data := { toList := [(111 : UInt8)] } }, hi := (0 : Int), lo := (0 : Int), id := (1 : Int), block := (0 : Int) }, Em.row { svc := { data := { toList := [(115 : UInt8)] } }, op := { data := { toList := [(111 : UInt8)] } }, hi := (0 : Int), lo := (0 : Int), id := (0 : Int), block := (0 : Int) }])],
      true = true,
      FlatRows [Em.row { svc := { data := { toList := [(115 : UInt8)] } }, op := { data := { toList := [(111 : UInt8)] } }, hi := (0 : Int), lo := (0 : Int), id := (1 : Int), block := (0 : Int) }, Em.row { svc := { data := { toList := [(115 : UInt8)] } }, op := { data := { toList := [(111 : UInt8)] } }, hi := (0 : Int), lo := (0 : Int), id := (0 : Int), block := (0 : Int) }],
      (0 : Int) ≤ (0 : Int),
      (0 : Int) < (2 : Int),
      (0 : Int) ≤ (1 : Int),
      (1 : Int) < (2 : Int),
      decide (Int.ofNat (List.length (Em.row { svc := { data := { toList := [(115 : UInt8)] } }, op := { data := { toList := [(111 : UInt8)] } }, hi := (0 : Int), lo := (0 : Int), id := (1 : Int), block := (0 : Int) } :: Em.row { svc := { data := { toList := [(115 : UInt8)] } }, op := { data := { toList := [(111 : UInt8)] } }, hi := (0 : Int), lo := (0 : Int), id := (0 : Int), block := (0 : Int) } :: List.map Em.row (topP o))) ≤ (4 : Int)) = true] (by kernel_rfl)
    (by
      simp only [allP]
      and_intros <;> first
        | omega
        | with_reducible assumption
        | exact cAlive
        | exact nwLoop 2 o (by omega) ho (max 2 o) 0 (by omega)
        | exact cFindTop 2 o
        | exact flatRows _
        | (simp [topO_len, topP_len]; omega)
        | (simp; omega)
        | exact i64_small (by simp; omega)
        | exact flatRows (topO 2)
        | (rw [i64_small (by simp; omega)]; simp; omega)
        | (simp; done)
        | decide)

theorem new3 (o k : Nat) (hk : k + 3 ≤ 40) (ho : o ≤ 40) : Contract Try.prog 3 [I (((k + 3) : Nat) : Int), I (o : Int)] [] (Bo true) [] :=
  vcP hmix [.reg 2 [(4, [], some false), (8, [], some false), (12, [], some false), (16, [], some false)], .cut ⟨[0, 1, 6, 7], [], [.slot 6 900 6]⟩ (.exit 0) (nwS (k + 3) o (max (k + 3) o) (k + 3) o), .reg 12 [(1, [.call [] [] (.own 0) [some (.arr 6 ((topO (k + 3)).map Em.row))]], none)], .reg 14 [(1, [], some true)], .unroll 3, .reg 21 [(6, [.be (I ((k + 2 : Nat) : Int))], none), (8, [.be (I ((k + 2 : Nat) : Int))], none), (9, [.be (U ((k + 2 : Nat) : Int))], none), (10, [], some false)], .reg 21 [(6, [.be (I ((k + 2 : Nat) : Int))], none), (8, [.be (I ((k + 1 : Nat) : Int))], none), (9, [.be (U ((k + 1 : Nat) : Int))], none), (10, [], some false)], .reg 23 [(2, [], some true)], .tab [(6, FAlive)]] [] [
      Contract Try.prog (6 : Nat) [] [] (Bo true) [],
      false = false,
      decide (Int.ofNat (k + (3 : Nat)) > (40 : Int)) = false,
      false = false,
      decide (Int.ofNat o > (40 : Int)) = false,
      LoopC Try.prog (0 : Nat) (87 : Nat) nwB { env := [((0 : Nat), I (Int.ofNat (k + (3 : Nat)))), ((1 : Nat), I (Int.ofNat o)), ((6 : Nat), V.own (900 : Nat)), ((7 : Nat), I (0 : Int))], st := [((900 : Nat), Obj.arr (6 : Nat) [])], ids := [(900 : Nat)] } (Ex.exit (0 : Nat)) { env := [((0 : Nat), I (Int.ofNat (k + (3 : Nat)))), ((1 : Nat), I (Int.ofNat o)), ((6 : Nat), V.own (900 : Nat)), ((7 : Nat), I (Int.ofNat (max (k + (3 : Nat)) o)))], st := [((900 : Nat), Obj.arr (6 : Nat) (Em.row { svc := { data := { toList := [(115 : UInt8)] } }, op := { data := { toList := [(111 : UInt8)] } }, hi := (0 : Int), lo := (0 : Int), id := Int.ofNat (Nat.succ k + (1 : Nat)), block := (0 : Int) } :: Em.row { svc := { data := { toList := [(115 : UInt8)] } }, op := { data := { toList := [(111 : UInt8)] } }, hi := (0 : Int), lo := (0 : Int), id := Int.ofNat (Nat.succ k), block := (0 : Int) } :: List.map Em.row (topP o)))], ids := [(900 : Nat)] },
      Contract Try.prog (8 : Nat) [V.sl (6 : Nat) (Em.row { svc := { data := { toList := [(115 : UInt8)] } }, op := { data := { toList := [(111 : UInt8)] } }, hi := (0 : Int), lo := (0 : Int), id := Int.ofNat (Nat.succ k + (1 : Nat)), block := (0 : Int) } :: Em.row { svc := { data := { toList := [(115 : UInt8)] } }, op := { data := { toList := [(111 : UInt8)] } }, hi := (0 : Int), lo := (0 : Int), id := Int.ofNat (Nat.succ k), block := (0 : Int) } :: List.map Em.row (topP o)), Sg { data := { toList := [(115 : UInt8)] } }, Sg { data := { toList := [(111 : UInt8)] } }] [] (V.own (0 : Nat)) [some (Obj.arr (6 : Nat) [Em.row { svc := { data := { toList := [(115 : UInt8)] } }, op := { data := { toList := [(111 : UInt8)] } }, hi := (0 : Int), lo := (0 : Int), id := Int.ofNat (Nat.succ k + (1 : Nat)), block := (0 : Int) }, Em.row { svc := { data := { toList := [(115 : UInt8)] } }, op := { data := { toList := [(111 : UInt8)] } }, hi := (0 : Int), lo := (0 : Int), id := Int.ofNat (Nat.succ k), block := (0 : Int) }])],
      true = true,
      FlatRows [Em.row { svc := { data := { toList := [(115 : UInt8)] } }, op := { data := { toList := [(111 : UInt8)] } }, hi := (0 : Int), lo := (0 : Int), id := Int.ofNat (Nat.succ k + (1 : Nat)), block := (0 : Int) }, Em.row { svc := { data := { toList := [(115 : UInt8)] } }, op := { data := { toList := [(111 : UInt8)] } }, hi := (0 : Int), lo := (0 : Int), id := Int.ofNat (Nat.succ k), block := (0 : Int) }],
      decide (Int.ofNat (k + (3 : Nat)) > (2 : Int)) = true,
      (0 : Int) ≤ (0 : Int),
      (0 : Int) < (2 : Int),
      IntKind.wrap IntKind.i64 (Int.ofNat (k + (3 : Nat)) + (-1 : Int)) = Int.ofNat (k + (2 : Nat)),
      IntKind.wrap IntKind.i64 (Int.ofNat (k + (2 : Nat) + (0 : Nat))) = Int.ofNat (k + (2 : Nat)),
      Int.ofNat ((k + (2 : Nat)) % (18446744073709551616 : Nat)) = Int.ofNat (k + (2 : Nat)),
      (Int.ofNat (Nat.succ k + (1 : Nat)) != Int.ofNat (k + (2 : Nat))) = false,
      (0 : Int) ≤ (1 : Int),
      (1 : Int) < (2 : Int),
      IntKind.wrap IntKind.i64 (Int.ofNat (k + (3 : Nat)) + (-1 : Int)) = Int.ofNat (k + (2 : Nat)),
      IntKind.wrap IntKind.i64 (Int.ofNat (k + (2 : Nat)) + (-1 : Int)) = Int.ofNat (k + (1 : Nat)),
      Int.ofNat ((k + (1 : Nat)) % (18446744073709551616 : Nat)) = Int.ofNat (k + (1 : Nat)),
      (Int.ofNat (Nat.succ k) != Int.ofNat (k + (1 : Nat))) = false,
      decide (Int.ofNat (List.length (Em.row { svc := { data := { toList := [(115 : UInt8)] } }, op := { data := { toList := [(111 : UInt8)] } }, hi := (0 : Int), lo := (0 : Int), id := Int.ofNat (Nat.succ k + (1 : Nat)), block := (0 : Int) } :: Em.row { svc := { data := { toList := [(115 : UInt8)] } }, op := { data := { toList := [(111 : UInt8)] } }, hi := (0 : Int), lo := (0 : Int), id := Int.ofNat (Nat.succ k), block := (0 : Int) } :: List.map Em.row (topP o))) ≤ (4 : Int)) = true] (by kernel_rfl)
    (by
      simp only [allP]
      and_intros <;> first
        | omega
        | with_reducible assumption
        | exact cAlive
        | exact nwLoop (k + 3) o (by omega) ho (max (k + 3) o) 0 (by omega)
        | exact cFindTop (k + 3) o
        | exact flatRows _
        | (simp [topO_len, topP_len]; omega)
        | (simp; omega)
        | exact i64_small (by simp; omega)
        | exact flatRows (topO (k + 3))
        | (rw [i64_small (by simp; omega)]; simp; omega)
        | exact i64_small (by simp; omega)
        | exact u64_small (by simp; omega)
        | exact nwLoop (k + 3) o (by omega) ho (max (k + 3) o) 0 (by omega)
        | (simp; done)
        | decide)

theorem newA (n o : Int) (h : n < 0) : Contract Try.prog 3 [I n, I o] [] (Bo true) [] :=
  vcP hmix [.reg 2 [(4, [], some true)], .tab [(6, FAlive)]] [] [
      Contract Try.prog (6 : Nat) [] [] (Bo true) [],
      decide (n < (0 : Int)) = true] (by kernel_rfl)
    (by
      simp only [allP]
      and_intros <;> first
        | omega
        | with_reducible assumption
        | exact cAlive
        | (simp; omega)
        | (simp; done)
        | decide)

theorem newB (n o : Int) (h : 0 ≤ n) (h2 : 40 < n) : Contract Try.prog 3 [I n, I o] [] (Bo true) [] :=
  vcP hmix [.reg 2 [(4, [], some false), (8, [], some true)], .tab [(6, FAlive)]] [] [
      Contract Try.prog (6 : Nat) [] [] (Bo true) [],
      decide (n < (0 : Int)) = false,
      decide (n > (40 : Int)) = true] (by kernel_rfl)
    (by
      simp only [allP]
      and_intros <;> first
        | omega
        | with_reducible assumption
        | exact cAlive
        | (simp; omega)
        | (simp; done)
        | decide)

theorem newC (n o : Int) (h : 0 ≤ n) (h2 : n ≤ 40) (h3 : o < 0) : Contract Try.prog 3 [I n, I o] [] (Bo true) [] :=
  vcP hmix [.reg 2 [(4, [], some false), (8, [], some false), (12, [], some true)], .tab [(6, FAlive)]] [] [
      Contract Try.prog (6 : Nat) [] [] (Bo true) [],
      decide (n < (0 : Int)) = false,
      decide (n > (40 : Int)) = false,
      decide (o < (0 : Int)) = true] (by kernel_rfl)
    (by
      simp only [allP]
      and_intros <;> first
        | omega
        | with_reducible assumption
        | exact cAlive
        | (simp; omega)
        | (simp; done)
        | decide)

theorem newD (n o : Int) (h : 0 ≤ n) (h2 : n ≤ 40) (h3 : 0 ≤ o) (h4 : 40 < o) : Contract Try.prog 3 [I n, I o] [] (Bo true) [] :=
  vcP hmix [.reg 2 [(4, [], some false), (8, [], some false), (12, [], some false), (16, [], some true)], .tab [(6, FAlive)]] [] [
      Contract Try.prog (6 : Nat) [] [] (Bo true) [],
      decide (n < (0 : Int)) = false,
      decide (n > (40 : Int)) = false,
      decide (o < (0 : Int)) = false,
      decide (o > (40 : Int)) = true] (by kernel_rfl)
    (by
      simp only [allP]
      and_intros <;> first
        | omega
        | with_reducible assumption
        | exact cAlive
        | (simp; omega)
        | (simp; done)
        | decide)

theorem cNew (n o : Int) : Contract Try.prog 3 [I n, I o] [] (Bo true) [] := by
  by_cases h1 : n < 0
  · exact newA n o h1
  by_cases h2 : 40 < n
  · exact newB n o (by omega) h2
  by_cases h3 : o < 0
  · exact newC n o (by omega) (by omega) h3
  by_cases h4 : 40 < o
  · exact newD n o (by omega) (by omega) (by omega) h4
  obtain ⟨a, rfl⟩ : ∃ a : Nat, n = (a : Int) := ⟨n.toNat, by omega⟩
  obtain ⟨b, rfl⟩ : ∃ b : Nat, o = (b : Int) := ⟨o.toNat, by omega⟩
  match a with
  | 0 => exact new0 b (by omega)
  | 1 => exact new1 b (by omega)
  | 2 => exact new2 b (by omega)
  | k + 3 => exact new3 b k (by omega) (by omega)

theorem own : ownKnob Try.prog.godebug = none := by kernel_rfl
theorem laidOut : laidOutB Try.prog = true := by kernel_rfl

theorem new_lifted (os : Os) (started : os.Started) (H : Type) (enc : TypeId × Value → H) :
    ReturnsInHanded {} Try.checked os 3 .any (Rows.slotsNewSpec.pre6 enc Try.prog Try.f3 Rows.slotsNewRow.domain false) (Rows.slotsNewSpec.post enc Try.prog Try.f3 false true false false) := by
  refine returnsInHanded_of_change (C := Try.checked) own started (by kernel_rfl) Try.func3
    (ChangeSpec.witness6 (enc := enc) (C := Try.checked) false ⟨#[], #[.int .i64 0, .int .i64 0], []⟩ 8 (by kernel_rfl) (by kernel_rfl) (by kernel_rfl) (by kernel_rfl)) ?_
  intro W base args ds gs before hval hW _ _
  refine row_of (P := Try.prog) (tb := 4) laidOut rfl (by kernel_rfl) (by kernel_rfl) (by kernel_rfl) Try.underlying4 (fun ds h => ?_) (fun us h => ?_) W base args ds gs before hval hW
  · match ds, h with
    | [_, _], _ => rfl
  · obtain ⟨u0, _, rfl, h0, u1, _, rfl, h1, rfl⟩ := h
    obtain ⟨n, rfl, _⟩ := arg_int Try.underlying3 h0
    obtain ⟨o, rfl, _⟩ := arg_int Try.underlying3 h1
    exact cNew n o

theorem SlotsNew_proved : Rows.SlotsNewSaid :=
  OpenClaim.holds_of_wide 3 Try.f3 rfl rfl rfl rfl rfl rfl rfl ⟨rfl, rfl, rfl, rfl, rfl⟩ rfl rfl rfl rfl rfl (by kernel_rfl) Try.func3 (by kernel_rfl)
    (of_decide_eq_true (by kernel_rfl)) (by unfold Func.isWrapper; first | (rw [if_pos (by decide +kernel)]; kernel_rfl) | (rw [if_neg (by decide +kernel)]; exact ⟨rfl, rfl⟩))
    (fun os started H enc _ => new_lifted os started H enc)
#print axioms SlotsNew_proved
end Go.Proofs.Ytemjhlmdiicdcaa
