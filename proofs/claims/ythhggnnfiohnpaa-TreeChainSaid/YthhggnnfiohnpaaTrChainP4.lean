/- sorting int: blocks, and twice as large blocks. -/
import Derived.Test.YthhggnnfiohnpaaTrChainP3
namespace Go.Proofs.Ythhggnnfiohnpaa
open E
set_option maxRecDepth 100000
set_option linter.unusedVariables false
set_option linter.unusedSimpArgs false

def toA {sp : List Sp} (l : List (Ix sp))  (n bs a b : Nat) : SL := ⟨[(0, .own 0), (1, I (n : Int)), (2, .clo (.func 28) [] [.ptr 1 0 0 0]), (6, I (bs : Int)), (7, I (a : Int)), (8, I (b : Int))], [(0, .arr 1 (l.map Ix.row)), (1, .box [.sl 10 (sp.map Sp.row)])], [0, 1, 0, 1]⟩
def toB {sp : List Sp} (l : List (Ix sp))  (n bs : Nat) : SL := ⟨[(0, .own 0), (1, I (n : Int)), (2, .clo (.func 28) [] [.ptr 1 0 0 0]), (6, I (bs : Int))], [(0, .arr 1 (l.map Ix.row)), (1, .box [.sl 10 (sp.map Sp.row)])], [0, 1, 0, 1]⟩
def toC {sp : List Sp} (l : List (Ix sp))  (n bs a b : Nat) : SL := ⟨[(0, .own 0), (1, I (n : Int)), (2, .clo (.func 28) [] [.ptr 1 0 0 0]), (6, I (bs : Int)), (7, I (a : Int)), (8, I (b : Int))], [(0, .arr 1 (l.map Ix.row)), (1, .box [.sl 10 (sp.map Sp.row)])], [0, 1, 0, 1]⟩
noncomputable def toAB : Code := codeAt Try.prog 30 [true, true, false, false, false]

noncomputable def toBB : Code := codeAt Try.prog 30 [true, true, true, true, false, false]

noncomputable def toCB : Code := codeAt Try.prog 30 [true, true, true, true, false, false, true, false, true, false, false, false]

theorem toAgo_0 {sp : List Sp} (l l' : List (Ix sp))  (n bs a b : Nat) (hn : n ≤ 500000) (hs : bs ≤ 1000000) (hb : b ≤ n) (hc : Contract Try.prog 32 [.own 0, I ((a : Nat) : Int), I ((b : Nat) : Int), .clo (.func 28) [] [.ptr 1 0 0 0]] [.arr 1 ((l).map Ix.row), .box [.sl 10 (sp.map Sp.row)]] (.tup []) [some (.arr 1 ((l').map Ix.row)), some (.box [.sl 10 (sp.map Sp.row)])]) : CodeC Try.prog 2 63 toAB (toA (l) (sp := sp) n bs a b) (Ex.normal) ({ env := [((0 : Nat), V.own (0 : Nat)), ((1 : Nat), I (Int.ofNat n)), ((2 : Nat), V.clo (Fn.func (28 : Nat)) [] [V.ptr (1 : Nat) (0 : Nat) (0 : Nat) (0 : Nat)]), ((6 : Nat), I (Int.ofNat bs)), ((7 : Nat), I (Int.ofNat b)), ((8 : Nat), I (Int.ofNat (b + bs)))], st := [((0 : Nat), Obj.arr (1 : Nat) (List.map Ix.row l')), ((1 : Nat), Obj.box [V.sl (10 : Nat) (List.map Sp.row sp)])], ids := [(0 : Nat), (1 : Nat), (0 : Nat), (1 : Nat)] }) :=
  runP hmix [.reg 2 [(2, [], some true)], .reg 3 [(4, [.call [0, 1] [] (.tup []) [some (.arr 1 ((l').map Ix.row)), some (.box [.sl 10 (sp.map Sp.row)])]], none)], .reg 5 [(2, [.be (I ((b + bs : Nat) : Int))], none)]] ⟨[0, 1, 2, 6, 7, 8], [(0, 0), (1, 1)], []⟩ [
      decide (Int.ofNat b ≤ Int.ofNat n) = true,
      Contract Try.prog (32 : Nat) [V.own (0 : Nat), I (Int.ofNat a), I (Int.ofNat b), V.clo (Fn.func (28 : Nat)) [] [V.ptr (1 : Nat) (0 : Nat) (0 : Nat) (0 : Nat)]] [Obj.arr (1 : Nat) (List.map Ix.row l), Obj.box [V.sl (10 : Nat) (List.map Sp.row sp)]] (V.tup []) [some (Obj.arr (1 : Nat) (List.map Ix.row l')), some (Obj.box [V.sl (10 : Nat) (List.map Sp.row sp)])],
      IntKind.wrap IntKind.i64 (Int.ofNat (b + bs)) = Int.ofNat (b + bs)] (by kernel_rfl)
    (by
      simp only [allP]
      and_intros <;> first
        | omega
        | (simp; omega)
        | exact i64_small (by simp; omega))

theorem toAgo {sp : List Sp} (l l' : List (Ix sp))  (n bs a b : Nat) (hn : n ≤ 500000) (hs : bs ≤ 1000000) (hb : b ≤ n) (hc : Contract Try.prog 32 [.own 0, I ((a : Nat) : Int), I ((b : Nat) : Int), .clo (.func 28) [] [.ptr 1 0 0 0]] [.arr 1 ((l).map Ix.row), .box [.sl 10 (sp.map Sp.row)]] (.tup []) [some (.arr 1 ((l').map Ix.row)), some (.box [.sl 10 (sp.map Sp.row)])])  : CodeC Try.prog 2 63 toAB (toA (l) (sp := sp) n bs a b) .normal (toA (l') (sp := sp) n bs b (b + bs)) := by
  exact CodeC.cast (by
    first
      | rfl) (toAgo_0 l l' n bs a b hn hs hb hc )

theorem toAz_0 {sp : List Sp} (l : List (Ix sp))  (n bs a b : Nat) (hb : n < b) : CodeC Try.prog 2 63 toAB (toA (l) (sp := sp) n bs a b) (Ex.exit (0 : Nat)) ({ env := [((0 : Nat), V.own (0 : Nat)), ((1 : Nat), I (Int.ofNat n)), ((2 : Nat), V.clo (Fn.func (28 : Nat)) [] [V.ptr (1 : Nat) (0 : Nat) (0 : Nat) (0 : Nat)]), ((6 : Nat), I (Int.ofNat bs)), ((7 : Nat), I (Int.ofNat a)), ((8 : Nat), I (Int.ofNat b))], st := [((0 : Nat), Obj.arr (1 : Nat) (List.map Ix.row l)), ((1 : Nat), Obj.box [V.sl (10 : Nat) (List.map Sp.row sp)])], ids := [(0 : Nat), (1 : Nat), (0 : Nat), (1 : Nat)] }) :=
  runP hmix [.reg 2 [(2, [], some false)]] ⟨[0, 1, 2, 6, 7, 8], [(0, 0), (1, 1)], []⟩ [
      decide (Int.ofNat b ≤ Int.ofNat n) = false] (by kernel_rfl)
    (by
      simp only [allP]
      and_intros <;> first
        | (simp; omega))

theorem toAz {sp : List Sp} (l : List (Ix sp))  (n bs a b : Nat) (hb : n < b)  : CodeC Try.prog 2 63 toAB (toA (l) (sp := sp) n bs a b) (.exit 0) (toA (l) (sp := sp) n bs a b) := by
  exact CodeC.cast (by
    first
      | rfl) (toAz_0 l n bs a b hb )

theorem toCgo_0 {sp : List Sp} (l l' : List (Ix sp))  (n bs a b : Nat) (hn : n ≤ 500000) (hs : bs ≤ 1000000) (hb : b ≤ n) (ha : a ≤ n) (hc : Contract Try.prog 33 [.own 0, I ((a : Nat) : Int), I ((a + bs : Nat) : Int), I ((b : Nat) : Int), .clo (.func 28) [] [.ptr 1 0 0 0]] [.arr 1 ((l).map Ix.row), .box [.sl 10 (sp.map Sp.row)]] (.tup []) [some (.arr 1 ((l').map Ix.row)), some (.box [.sl 10 (sp.map Sp.row)])]) : CodeC Try.prog 2 63 toCB (toC (l) (sp := sp) n bs a b) (Ex.normal) ({ env := [((0 : Nat), V.own (0 : Nat)), ((1 : Nat), I (Int.ofNat n)), ((2 : Nat), V.clo (Fn.func (28 : Nat)) [] [V.ptr (1 : Nat) (0 : Nat) (0 : Nat) (0 : Nat)]), ((6 : Nat), I (Int.ofNat bs)), ((7 : Nat), I (Int.ofNat b)), ((8 : Nat), I (Int.ofNat (b + (2 : Nat) * bs)))], st := [((0 : Nat), Obj.arr (1 : Nat) (List.map Ix.row l')), ((1 : Nat), Obj.box [V.sl (10 : Nat) (List.map Sp.row sp)])], ids := [(0 : Nat), (1 : Nat), (0 : Nat), (1 : Nat)] }) :=
  runP hmix [.reg 9 [(2, [], some true)], .reg 10 [(4, [.be (I ((a + bs : Nat) : Int))], none), (7, [.call [0, 1] [] (.tup []) [some (.arr 1 ((l').map Ix.row)), some (.box [.sl 10 (sp.map Sp.row)])]], none)], .reg 12 [(2, [.be (I ((2 * bs : Nat) : Int))], none), (3, [.be (I ((b + 2 * bs : Nat) : Int))], none)]] ⟨[0, 1, 2, 6, 7, 8], [(0, 0), (1, 1)], []⟩ [
      decide (Int.ofNat b ≤ Int.ofNat n) = true,
      IntKind.wrap IntKind.i64 (Int.ofNat (a + bs)) = Int.ofNat (a + bs),
      Contract Try.prog (33 : Nat) [V.own (0 : Nat), I (Int.ofNat a), I (Int.ofNat (a + bs)), I (Int.ofNat b), V.clo (Fn.func (28 : Nat)) [] [V.ptr (1 : Nat) (0 : Nat) (0 : Nat) (0 : Nat)]] [Obj.arr (1 : Nat) (List.map Ix.row l), Obj.box [V.sl (10 : Nat) (List.map Sp.row sp)]] (V.tup []) [some (Obj.arr (1 : Nat) (List.map Ix.row l')), some (Obj.box [V.sl (10 : Nat) (List.map Sp.row sp)])],
      IntKind.wrap IntKind.i64 ((2 : Int) * Int.ofNat bs) = Int.ofNat ((2 : Nat) * bs),
      IntKind.wrap IntKind.i64 (Int.ofNat (b + (2 : Nat) * bs)) = Int.ofNat (b + (2 : Nat) * bs)] (by kernel_rfl)
    (by
      simp only [allP]
      and_intros <;> first
        | omega
        | (simp; omega)
        | exact i64_small (by simp; omega))

theorem toCgo {sp : List Sp} (l l' : List (Ix sp))  (n bs a b : Nat) (hn : n ≤ 500000) (hs : bs ≤ 1000000) (hb : b ≤ n) (ha : a ≤ n) (hc : Contract Try.prog 33 [.own 0, I ((a : Nat) : Int), I ((a + bs : Nat) : Int), I ((b : Nat) : Int), .clo (.func 28) [] [.ptr 1 0 0 0]] [.arr 1 ((l).map Ix.row), .box [.sl 10 (sp.map Sp.row)]] (.tup []) [some (.arr 1 ((l').map Ix.row)), some (.box [.sl 10 (sp.map Sp.row)])])  : CodeC Try.prog 2 63 toCB (toC (l) (sp := sp) n bs a b) .normal (toC (l') (sp := sp) n bs b (b + 2 * bs)) := by
  exact CodeC.cast (by
    first
      | rfl) (toCgo_0 l l' n bs a b hn hs hb ha hc )

theorem toCz_0 {sp : List Sp} (l : List (Ix sp))  (n bs a b : Nat) (hb : n < b) : CodeC Try.prog 2 63 toCB (toC (l) (sp := sp) n bs a b) (Ex.exit (4 : Nat)) ({ env := [((0 : Nat), V.own (0 : Nat)), ((1 : Nat), I (Int.ofNat n)), ((2 : Nat), V.clo (Fn.func (28 : Nat)) [] [V.ptr (1 : Nat) (0 : Nat) (0 : Nat) (0 : Nat)]), ((6 : Nat), I (Int.ofNat bs)), ((7 : Nat), I (Int.ofNat a)), ((8 : Nat), I (Int.ofNat b))], st := [((0 : Nat), Obj.arr (1 : Nat) (List.map Ix.row l)), ((1 : Nat), Obj.box [V.sl (10 : Nat) (List.map Sp.row sp)])], ids := [(0 : Nat), (1 : Nat), (0 : Nat), (1 : Nat)] }) :=
  runP hmix [.reg 9 [(2, [], some false)]] ⟨[0, 1, 2, 6, 7, 8], [(0, 0), (1, 1)], []⟩ [
      decide (Int.ofNat b ≤ Int.ofNat n) = false] (by kernel_rfl)
    (by
      simp only [allP]
      and_intros <;> first
        | (simp; omega))

theorem toCz {sp : List Sp} (l : List (Ix sp))  (n bs a b : Nat) (hb : n < b)  : CodeC Try.prog 2 63 toCB (toC (l) (sp := sp) n bs a b) (.exit 4) (toC (l) (sp := sp) n bs a b) := by
  exact CodeC.cast (by
    first
      | rfl) (toCz_0 l n bs a b hb )

theorem toBgo_0 {sp : List Sp} (l l' l2 : List (Ix sp))  (n bs a b : Nat) (hn : n ≤ 500000) (hb : bs < n) (ha : a ≤ n) (hm : a + bs < n) (hl : LoopC Try.prog 2 63 toCB (toC (l) (sp := sp) n bs 0 (2 * bs)) (.exit 4) (toC (l') (sp := sp) n bs a b)) (hc : Contract Try.prog 33 [.own 0, I ((a : Nat) : Int), I ((a + bs : Nat) : Int), I ((n : Nat) : Int), .clo (.func 28) [] [.ptr 1 0 0 0]] [.arr 1 ((l').map Ix.row), .box [.sl 10 (sp.map Sp.row)]] (.tup []) [some (.arr 1 ((l2).map Ix.row)), some (.box [.sl 10 (sp.map Sp.row)])]) : CodeC Try.prog 2 63 toBB (toB (l) (sp := sp) n bs) (Ex.normal) ({ env := [((0 : Nat), V.own (0 : Nat)), ((1 : Nat), I (Int.ofNat n)), ((2 : Nat), V.clo (Fn.func (28 : Nat)) [] [V.ptr (1 : Nat) (0 : Nat) (0 : Nat) (0 : Nat)]), ((6 : Nat), I (Int.ofNat ((2 : Nat) * bs)))], st := [((0 : Nat), Obj.arr (1 : Nat) (List.map Ix.row l2)), ((1 : Nat), Obj.box [V.sl (10 : Nat) (List.map Sp.row sp)])], ids := [(0 : Nat), (1 : Nat), (0 : Nat), (1 : Nat)] }) :=
  runP hmix [.reg 7 [(2, [], some true)], .reg 8 [(1, [.be (I ((2 * bs : Nat) : Int))], none)], .cut ⟨[0, 1, 2, 6, 7, 8], [(0, 0), (1, 1)], []⟩ (.exit 4) (toC (l') (sp := sp) n bs a b), .reg 13 [(2, [.be (I ((a + bs : Nat) : Int))], none)], .reg 14 [(2, [], some true)], .reg 15 [(5, [.call [0, 1] [] (.tup []) [some (.arr 1 ((l2).map Ix.row)), some (.box [.sl 10 (sp.map Sp.row)])]], none)], .reg 16 [(1, [.be (I ((2 * bs : Nat) : Int))], none)]] ⟨[0, 1, 2, 6], [(0, 0), (1, 1)], []⟩ [
      decide (Int.ofNat bs < Int.ofNat n) = true,
      IntKind.wrap IntKind.i64 ((2 : Int) * Int.ofNat bs) = Int.ofNat ((2 : Nat) * bs),
      LoopC Try.prog (2 : Nat) (63 : Nat) toCB { env := [((0 : Nat), V.own (0 : Nat)), ((1 : Nat), I (Int.ofNat n)), ((2 : Nat), V.clo (Fn.func (28 : Nat)) [] [V.ptr (1 : Nat) (0 : Nat) (0 : Nat) (0 : Nat)]), ((6 : Nat), I (Int.ofNat bs)), ((7 : Nat), I (0 : Int)), ((8 : Nat), I (Int.ofNat ((2 : Nat) * bs)))], st := [((0 : Nat), Obj.arr (1 : Nat) (List.map Ix.row l)), ((1 : Nat), Obj.box [V.sl (10 : Nat) (List.map Sp.row sp)])], ids := [(0 : Nat), (1 : Nat), (0 : Nat), (1 : Nat)] } (Ex.exit (4 : Nat)) { env := [((0 : Nat), V.own (0 : Nat)), ((1 : Nat), I (Int.ofNat n)), ((2 : Nat), V.clo (Fn.func (28 : Nat)) [] [V.ptr (1 : Nat) (0 : Nat) (0 : Nat) (0 : Nat)]), ((6 : Nat), I (Int.ofNat bs)), ((7 : Nat), I (Int.ofNat a)), ((8 : Nat), I (Int.ofNat b))], st := [((0 : Nat), Obj.arr (1 : Nat) (List.map Ix.row l')), ((1 : Nat), Obj.box [V.sl (10 : Nat) (List.map Sp.row sp)])], ids := [(0 : Nat), (1 : Nat), (0 : Nat), (1 : Nat)] },
      IntKind.wrap IntKind.i64 (Int.ofNat (a + bs)) = Int.ofNat (a + bs),
      decide (Int.ofNat (a + bs) < Int.ofNat n) = true,
      Contract Try.prog (33 : Nat) [V.own (0 : Nat), I (Int.ofNat a), I (Int.ofNat (a + bs)), I (Int.ofNat n), V.clo (Fn.func (28 : Nat)) [] [V.ptr (1 : Nat) (0 : Nat) (0 : Nat) (0 : Nat)]] [Obj.arr (1 : Nat) (List.map Ix.row l'), Obj.box [V.sl (10 : Nat) (List.map Sp.row sp)]] (V.tup []) [some (Obj.arr (1 : Nat) (List.map Ix.row l2)), some (Obj.box [V.sl (10 : Nat) (List.map Sp.row sp)])],
      IntKind.wrap IntKind.i64 (Int.ofNat bs * (2 : Int)) = Int.ofNat ((2 : Nat) * bs)] (by kernel_rfl)
    (by
      simp only [allP]
      and_intros <;> first
        | omega
        | (simp; omega)
        | exact hl
        | exact i64_small (by simp; omega)
        | (rw [i64_small (by simp; omega)]; simp; omega))

theorem toBgo {sp : List Sp} (l l' l2 : List (Ix sp))  (n bs a b : Nat) (hn : n ≤ 500000) (hb : bs < n) (ha : a ≤ n) (hm : a + bs < n) (hl : LoopC Try.prog 2 63 toCB (toC (l) (sp := sp) n bs 0 (2 * bs)) (.exit 4) (toC (l') (sp := sp) n bs a b)) (hc : Contract Try.prog 33 [.own 0, I ((a : Nat) : Int), I ((a + bs : Nat) : Int), I ((n : Nat) : Int), .clo (.func 28) [] [.ptr 1 0 0 0]] [.arr 1 ((l').map Ix.row), .box [.sl 10 (sp.map Sp.row)]] (.tup []) [some (.arr 1 ((l2).map Ix.row)), some (.box [.sl 10 (sp.map Sp.row)])])  : CodeC Try.prog 2 63 toBB (toB (l) (sp := sp) n bs) .normal (toB (l2) (sp := sp) n (2 * bs)) := by
  exact CodeC.cast (by
    first
      | rfl) (toBgo_0 l l' l2 n bs a b hn hb ha hm hl hc )

theorem toBno_0 {sp : List Sp} (l l' : List (Ix sp))  (n bs a b : Nat) (hn : n ≤ 500000) (hb : bs < n) (ha : a ≤ n) (hm : n ≤ a + bs) (hl : LoopC Try.prog 2 63 toCB (toC (l) (sp := sp) n bs 0 (2 * bs)) (.exit 4) (toC (l') (sp := sp) n bs a b)) : CodeC Try.prog 2 63 toBB (toB (l) (sp := sp) n bs) (Ex.normal) ({ env := [((0 : Nat), V.own (0 : Nat)), ((1 : Nat), I (Int.ofNat n)), ((2 : Nat), V.clo (Fn.func (28 : Nat)) [] [V.ptr (1 : Nat) (0 : Nat) (0 : Nat) (0 : Nat)]), ((6 : Nat), I (Int.ofNat ((2 : Nat) * bs)))], st := [((0 : Nat), Obj.arr (1 : Nat) (List.map Ix.row l')), ((1 : Nat), Obj.box [V.sl (10 : Nat) (List.map Sp.row sp)])], ids := [(0 : Nat), (1 : Nat), (0 : Nat), (1 : Nat)] }) :=
  runP hmix [.reg 7 [(2, [], some true)], .reg 8 [(1, [.be (I ((2 * bs : Nat) : Int))], none)], .cut ⟨[0, 1, 2, 6, 7, 8], [(0, 0), (1, 1)], []⟩ (.exit 4) (toC (l') (sp := sp) n bs a b), .reg 13 [(2, [.be (I ((a + bs : Nat) : Int))], none)], .reg 14 [(2, [], some false)], .reg 16 [(1, [.be (I ((2 * bs : Nat) : Int))], none)]] ⟨[0, 1, 2, 6], [(0, 0), (1, 1)], []⟩ [
      decide (Int.ofNat bs < Int.ofNat n) = true,
      IntKind.wrap IntKind.i64 ((2 : Int) * Int.ofNat bs) = Int.ofNat ((2 : Nat) * bs),
      LoopC Try.prog (2 : Nat) (63 : Nat) toCB { env := [((0 : Nat), V.own (0 : Nat)), ((1 : Nat), I (Int.ofNat n)), ((2 : Nat), V.clo (Fn.func (28 : Nat)) [] [V.ptr (1 : Nat) (0 : Nat) (0 : Nat) (0 : Nat)]), ((6 : Nat), I (Int.ofNat bs)), ((7 : Nat), I (0 : Int)), ((8 : Nat), I (Int.ofNat ((2 : Nat) * bs)))], st := [((0 : Nat), Obj.arr (1 : Nat) (List.map Ix.row l)), ((1 : Nat), Obj.box [V.sl (10 : Nat) (List.map Sp.row sp)])], ids := [(0 : Nat), (1 : Nat), (0 : Nat), (1 : Nat)] } (Ex.exit (4 : Nat)) { env := [((0 : Nat), V.own (0 : Nat)), ((1 : Nat), I (Int.ofNat n)), ((2 : Nat), V.clo (Fn.func (28 : Nat)) [] [V.ptr (1 : Nat) (0 : Nat) (0 : Nat) (0 : Nat)]), ((6 : Nat), I (Int.ofNat bs)), ((7 : Nat), I (Int.ofNat a)), ((8 : Nat), I (Int.ofNat b))], st := [((0 : Nat), Obj.arr (1 : Nat) (List.map Ix.row l')), ((1 : Nat), Obj.box [V.sl (10 : Nat) (List.map Sp.row sp)])], ids := [(0 : Nat), (1 : Nat), (0 : Nat), (1 : Nat)] },
      IntKind.wrap IntKind.i64 (Int.ofNat (a + bs)) = Int.ofNat (a + bs),
      decide (Int.ofNat (a + bs) < Int.ofNat n) = false,
      IntKind.wrap IntKind.i64 (Int.ofNat bs * (2 : Int)) = Int.ofNat ((2 : Nat) * bs)] (by kernel_rfl)
    (by
      simp only [allP]
      and_intros <;> first
        | (simp; omega)
        | exact hl
        | exact i64_small (by simp; omega)
        | (rw [i64_small (by simp; omega)]; simp; omega))

theorem toBno {sp : List Sp} (l l' : List (Ix sp))  (n bs a b : Nat) (hn : n ≤ 500000) (hb : bs < n) (ha : a ≤ n) (hm : n ≤ a + bs) (hl : LoopC Try.prog 2 63 toCB (toC (l) (sp := sp) n bs 0 (2 * bs)) (.exit 4) (toC (l') (sp := sp) n bs a b))  : CodeC Try.prog 2 63 toBB (toB (l) (sp := sp) n bs) .normal (toB (l') (sp := sp) n (2 * bs)) := by
  exact CodeC.cast (by
    first
      | rfl) (toBno_0 l l' n bs a b hn hb ha hm hl )

theorem toBz_0 {sp : List Sp} (l : List (Ix sp))  (n bs : Nat) (hb : n ≤ bs) : CodeC Try.prog 2 63 toBB (toB (l) (sp := sp) n bs) (Ex.exit (2 : Nat)) ({ env := [((0 : Nat), V.own (0 : Nat)), ((1 : Nat), I (Int.ofNat n)), ((2 : Nat), V.clo (Fn.func (28 : Nat)) [] [V.ptr (1 : Nat) (0 : Nat) (0 : Nat) (0 : Nat)]), ((6 : Nat), I (Int.ofNat bs))], st := [((0 : Nat), Obj.arr (1 : Nat) (List.map Ix.row l)), ((1 : Nat), Obj.box [V.sl (10 : Nat) (List.map Sp.row sp)])], ids := [(0 : Nat), (1 : Nat), (0 : Nat), (1 : Nat)] }) :=
  runP hmix [.reg 7 [(2, [], some false)]] ⟨[0, 1, 2, 6], [(0, 0), (1, 1)], []⟩ [
      decide (Int.ofNat bs < Int.ofNat n) = false] (by kernel_rfl)
    (by
      simp only [allP]
      and_intros <;> first
        | (simp; omega))

theorem toBz {sp : List Sp} (l : List (Ix sp))  (n bs : Nat) (hb : n ≤ bs)  : CodeC Try.prog 2 63 toBB (toB (l) (sp := sp) n bs) (.exit 2) (toB (l) (sp := sp) n bs) := by
  exact CodeC.cast (by
    first
      | rfl) (toBz_0 l n bs hb )

theorem toStb_0 {sp : List Sp} (l l' l2 l3 : List (Ix sp))  (n a b bs : Nat) (hl : LoopC Try.prog 2 63 toAB (toA (l) (sp := sp) n 20 0 20) (.exit 0) (toA (l') (sp := sp) n 20 a b)) (hc : Contract Try.prog 32 [.own 0, I ((a : Nat) : Int), I ((n : Nat) : Int), .clo (.func 28) [] [.ptr 1 0 0 0]] [.arr 1 ((l').map Ix.row), .box [.sl 10 (sp.map Sp.row)]] (.tup []) [some (.arr 1 ((l2).map Ix.row)), some (.box [.sl 10 (sp.map Sp.row)])]) (hk : LoopC Try.prog 2 63 toBB (toB (l2) (sp := sp) n 20) (.exit 2) (toB (l3) (sp := sp) n bs)) : Contract Try.prog 30 [.own 0, I (n : Int), .clo (.func 28) [] [.ptr 1 0 0 0]] [.arr 1 ((l).map Ix.row), .box [.sl 10 (sp.map Sp.row)]] (V.tup []) ([some (Obj.arr (1 : Nat) (List.map Ix.row l3)), some (Obj.box [V.sl (10 : Nat) (List.map Sp.row sp)])]) :=
  vcP hmix [.cut ⟨[0, 1, 2, 6, 7, 8], [(0, 0), (1, 1)], []⟩ (.exit 0) (toA (l') (sp := sp) n 20 a b), .reg 6 [(4, [.call [0, 1] [] (.tup []) [some (.arr 1 ((l2).map Ix.row)), some (.box [.sl 10 (sp.map Sp.row)])]], none)], .cut ⟨[0, 1, 2, 6], [(0, 0), (1, 1)], []⟩ (.exit 2) (toB (l3) (sp := sp) n bs)] [] [
      LoopC Try.prog (2 : Nat) (63 : Nat) toAB { env := [((0 : Nat), V.own (0 : Nat)), ((1 : Nat), I (Int.ofNat n)), ((2 : Nat), V.clo (Fn.func (28 : Nat)) [] [V.ptr (1 : Nat) (0 : Nat) (0 : Nat) (0 : Nat)]), ((6 : Nat), I (20 : Int)), ((7 : Nat), I (0 : Int)), ((8 : Nat), I (20 : Int))], st := [((0 : Nat), Obj.arr (1 : Nat) (List.map Ix.row l)), ((1 : Nat), Obj.box [V.sl (10 : Nat) (List.map Sp.row sp)])], ids := [(0 : Nat), (1 : Nat), (0 : Nat), (1 : Nat)] } (Ex.exit (0 : Nat)) { env := [((0 : Nat), V.own (0 : Nat)), ((1 : Nat), I (Int.ofNat n)), ((2 : Nat), V.clo (Fn.func (28 : Nat)) [] [V.ptr (1 : Nat) (0 : Nat) (0 : Nat) (0 : Nat)]), ((6 : Nat), I (20 : Int)), ((7 : Nat), I (Int.ofNat a)), ((8 : Nat), I (Int.ofNat b))], st := [((0 : Nat), Obj.arr (1 : Nat) (List.map Ix.row l')), ((1 : Nat), Obj.box [V.sl (10 : Nat) (List.map Sp.row sp)])], ids := [(0 : Nat), (1 : Nat), (0 : Nat), (1 : Nat)] },
      Contract Try.prog (32 : Nat) [V.own (0 : Nat), I (Int.ofNat a), I (Int.ofNat n), V.clo (Fn.func (28 : Nat)) [] [V.ptr (1 : Nat) (0 : Nat) (0 : Nat) (0 : Nat)]] [Obj.arr (1 : Nat) (List.map Ix.row l'), Obj.box [V.sl (10 : Nat) (List.map Sp.row sp)]] (V.tup []) [some (Obj.arr (1 : Nat) (List.map Ix.row l2)), some (Obj.box [V.sl (10 : Nat) (List.map Sp.row sp)])],
      LoopC Try.prog (2 : Nat) (63 : Nat) toBB { env := [((0 : Nat), V.own (0 : Nat)), ((1 : Nat), I (Int.ofNat n)), ((2 : Nat), V.clo (Fn.func (28 : Nat)) [] [V.ptr (1 : Nat) (0 : Nat) (0 : Nat) (0 : Nat)]), ((6 : Nat), I (20 : Int))], st := [((0 : Nat), Obj.arr (1 : Nat) (List.map Ix.row l2)), ((1 : Nat), Obj.box [V.sl (10 : Nat) (List.map Sp.row sp)])], ids := [(0 : Nat), (1 : Nat), (0 : Nat), (1 : Nat)] } (Ex.exit (2 : Nat)) { env := [((0 : Nat), V.own (0 : Nat)), ((1 : Nat), I (Int.ofNat n)), ((2 : Nat), V.clo (Fn.func (28 : Nat)) [] [V.ptr (1 : Nat) (0 : Nat) (0 : Nat) (0 : Nat)]), ((6 : Nat), I (Int.ofNat bs))], st := [((0 : Nat), Obj.arr (1 : Nat) (List.map Ix.row l3)), ((1 : Nat), Obj.box [V.sl (10 : Nat) (List.map Sp.row sp)])], ids := [(0 : Nat), (1 : Nat), (0 : Nat), (1 : Nat)] }] (by kernel_rfl)
    (by
      simp only [allP]
      and_intros <;> first
        | omega
        | exact hl
        | exact hk)

theorem toStb {sp : List Sp} (l l' l2 l3 : List (Ix sp))  (n a b bs : Nat) (hl : LoopC Try.prog 2 63 toAB (toA (l) (sp := sp) n 20 0 20) (.exit 0) (toA (l') (sp := sp) n 20 a b)) (hc : Contract Try.prog 32 [.own 0, I ((a : Nat) : Int), I ((n : Nat) : Int), .clo (.func 28) [] [.ptr 1 0 0 0]] [.arr 1 ((l').map Ix.row), .box [.sl 10 (sp.map Sp.row)]] (.tup []) [some (.arr 1 ((l2).map Ix.row)), some (.box [.sl 10 (sp.map Sp.row)])]) (hk : LoopC Try.prog 2 63 toBB (toB (l2) (sp := sp) n 20) (.exit 2) (toB (l3) (sp := sp) n bs)) : Contract Try.prog 30 [.own 0, I (n : Int), .clo (.func 28) [] [.ptr 1 0 0 0]] [.arr 1 ((l).map Ix.row), .box [.sl 10 (sp.map Sp.row)]] (.tup []) [some (.arr 1 ((l3).map Ix.row)), some (.box [.sl 10 (sp.map Sp.row)])] := by
  exact Contract.cast (by
    first
      | rfl) (by
    first
      | rfl) (toStb_0 l l' l2 l3 n a b bs hl hc hk )

theorem toSor_0 {sp : List Sp} (l l' : List (Ix sp))  (hc : Contract Try.prog 30 [.own 0, I (l.length : Int), .clo (.func 28) [] [.ptr 1 0 0 0]] [.arr 1 ((l).map Ix.row), .box [.sl 10 (sp.map Sp.row)]] (.tup []) [some (.arr 1 ((l').map Ix.row)), some (.box [.sl 10 (sp.map Sp.row)])]) : Contract Try.prog 27 [.own 0, .clo (.func 28) [] [.ptr 1 0 0 0]] [.arr 1 ((l).map Ix.row), .box [.sl 10 (sp.map Sp.row)]] (V.tup []) ([some (Obj.arr (1 : Nat) (List.map Ix.row l')), some (Obj.box [V.sl (10 : Nat) (List.map Sp.row sp)])]) :=
  vcP hmix [.reg 0 [(2, [.be (I ((l.length : Nat) : Int))], none), (4, [.call [0, 1] [] (.tup []) [some (.arr 1 ((l').map Ix.row)), some (.box [.sl 10 (sp.map Sp.row)])]], none)]] [] [
      Int.ofNat (List.length (List.map Ix.row l)) = Int.ofNat (List.length l),
      Contract Try.prog (30 : Nat) [V.own (0 : Nat), I (Int.ofNat (List.length l)), V.clo (Fn.func (28 : Nat)) [] [V.ptr (1 : Nat) (0 : Nat) (0 : Nat) (0 : Nat)]] [Obj.arr (1 : Nat) (List.map Ix.row l), Obj.box [V.sl (10 : Nat) (List.map Sp.row sp)]] (V.tup []) [some (Obj.arr (1 : Nat) (List.map Ix.row l')), some (Obj.box [V.sl (10 : Nat) (List.map Sp.row sp)])]] (by kernel_rfl)
    (by
      simp only [allP]
      and_intros <;> first
        | omega
        | (simp; done))

theorem toSor {sp : List Sp} (l l' : List (Ix sp))  (hc : Contract Try.prog 30 [.own 0, I (l.length : Int), .clo (.func 28) [] [.ptr 1 0 0 0]] [.arr 1 ((l).map Ix.row), .box [.sl 10 (sp.map Sp.row)]] (.tup []) [some (.arr 1 ((l').map Ix.row)), some (.box [.sl 10 (sp.map Sp.row)])]) : Contract Try.prog 27 [.own 0, .clo (.func 28) [] [.ptr 1 0 0 0]] [.arr 1 ((l).map Ix.row), .box [.sl 10 (sp.map Sp.row)]] (.tup []) [some (.arr 1 ((l').map Ix.row)), some (.box [.sl 10 (sp.map Sp.row)])] := by
  exact Contract.cast (by
    first
      | rfl) (by
    first
      | rfl) (toSor_0 l l' hc )

end Go.Proofs.Ythhggnnfiohnpaa

/- sorting int: the whole. -/
namespace Go.Proofs.Ythhggnnfiohnpaa
open E
set_option maxRecDepth 100000
set_option linter.unusedVariables false
set_option linter.unusedSimpArgs false

theorem toAin {sp : List Sp}  (ho : Swo (toLt (sp := sp))) (n : Nat) (hn : n ≤ 500000) : ∀ (d : Nat) (P T : List (Ix sp)), T.length ≤ d → n = P.length + T.length →
    ∃ R1 T1, T1.length < 20 ∧ R1.length + T1.length = T.length ∧ Chk (toLt (sp := sp)) 20 T (R1 ++ srt (toLt (sp := sp)) T1) ∧ LoopC Try.prog 2 63 toAB (toA (P ++ T) (sp := sp) n 20 P.length (P.length + 20)) (.exit 0) (toA (P ++ R1 ++ T1) (sp := sp) n 20 (P.length + R1.length) (P.length + R1.length + 20)) := by
  intro d
  induction d with
  | zero =>
    intro P T hd hT
    have : T = [] := List.eq_nil_of_length_eq_zero (by omega)
    subst this
    refine ⟨[], [], by simp, rfl, Chk.last [] (by simp), ?_⟩
    simp only [List.append_nil, List.length_nil, Nat.add_zero] at hT ⊢
    exact LoopC.last (toAz _ (sp := sp) n 20 _ _ (by omega)) (by simp)
  | succ d ih =>
    intro P T hd hT
    by_cases h : T.length < 20
    · refine ⟨[], T, h, by simp, Chk.last T h, ?_⟩
      simp only [List.append_nil, List.length_nil, Nat.add_zero]
      exact LoopC.last (toAz _ (sp := sp) n 20 _ _ (by omega)) (by simp)
    · obtain ⟨c, T', rfl, lc⟩ : ∃ c T', T = c ++ T' ∧ c.length = 20 := ⟨T.take 20, T.drop 20, (List.take_append_drop _ _).symm, by rw [List.length_take]; omega⟩
      simp only [List.length_append] at hd hT h
      obtain ⟨R1, T1, q1, q0, q2, q3⟩ := ih (P ++ srt (toLt (sp := sp)) c) T' (by omega) (by simp [srt_len]; omega)
      have hi := toIns (sp := sp) ho P c T' P.length (P.length + 20) rfl (by omega) (by omega)
      have hr := toAgo (P ++ c ++ T') (P ++ srt (toLt (sp := sp)) c ++ T') (sp := sp) n 20 P.length (P.length + 20) hn (by omega) (by omega) hi
      refine ⟨srt (toLt (sp := sp)) c ++ R1, T1, q1, by simp [srt_len]; omega, ?_, ?_⟩
      · have := Chk.cons c T' _ lc q2
        simp only [List.append_assoc, List.cons_append, List.nil_append] at this ⊢
        exact this
      · simp only [List.length_append, srt_len, lc] at q3 ⊢
        simp only [List.append_assoc, List.cons_append, List.nil_append, Nat.add_assoc] at hr q3 ⊢
        exact LoopC.next hr q3
theorem toCin {sp : List Sp}  (ho : Swo (toLt (sp := sp))) (n bs : Nat) (hn : n ≤ 500000) (h0 : 0 < bs) (hbs : bs < n) : ∀ (d : Nat) (P T0 T : List (Ix sp)), T0.length ≤ d → Chk (toLt (sp := sp)) bs T0 T → n = P.length + T0.length →
    ∃ R1 U0 U, U0.length < 2 * bs ∧ R1.length + U0.length = T0.length ∧ Chk (toLt (sp := sp)) bs U0 U ∧ Chk (toLt (sp := sp)) (2 * bs) T0 (R1 ++ srt (toLt (sp := sp)) U0) ∧ LoopC Try.prog 2 63 toCB (toC (P ++ T) (sp := sp) n bs P.length (P.length + 2 * bs)) (.exit 4) (toC (P ++ R1 ++ U) (sp := sp) n bs (P.length + R1.length) (P.length + R1.length + 2 * bs)) := by
  intro d
  induction d with
  | zero =>
    intro P T0 T hd hc hT
    refine ⟨[], T0, T, by omega, by simp, hc, Chk.last T0 (by omega), ?_⟩
    simp only [List.append_nil, List.length_nil, Nat.add_zero] at hT ⊢
    exact LoopC.last (toCz _ (sp := sp) n bs _ _ (by omega)) (by simp)
  | succ d ih =>
    intro P T0 T hd hc hT
    by_cases h : T0.length < 2 * bs
    · refine ⟨[], T0, T, h, by simp, hc, Chk.last T0 h, ?_⟩
      simp only [List.append_nil, List.length_nil, Nat.add_zero]
      exact LoopC.last (toCz _ (sp := sp) n bs _ _ (by omega)) (by simp)
    · obtain ⟨c1, l1, r1, rfl, rfl, lc1, hc1⟩ := hc.two (by omega)
      simp only [List.length_append] at hd hT h
      obtain ⟨c2, l2, r2, hc2⟩ : ∃ c2 l2 r2, l1 = c2 ++ l2 ∧ r1 = srt (toLt (sp := sp)) c2 ++ r2 ∧ c2.length = bs ∧ Chk (toLt (sp := sp)) bs l2 r2 := by
        by_cases h' : l1.length = bs
        · have := hc1.done (by omega)
          exact ⟨l1, [], [], by simp, by simp [this], h', Chk.last [] h0⟩
        · exact hc1.two (by omega)
      obtain ⟨rfl, rfl, lc2, hc3⟩ := hc2
      simp only [List.length_append] at hd hT h
      have hr2 := hc3.len
      obtain ⟨R1, U0, U, q1, q0, q2, q3, q4⟩ := ih (P ++ srt (toLt (sp := sp)) (c1 ++ c2)) l2 r2 (by omega) hc3 (by simp [srt_len]; omega)
      have hi := toSym (sp := sp) ho _ P (srt (toLt (sp := sp)) c1) (srt (toLt (sp := sp)) c2) r2 P.length (P.length + bs) (P.length + 2 * bs) (Nat.le_refl _) (by rw [srt_len]; omega) (by rw [srt_len]; omega) (srt_srt ho _) (srt_srt ho _) rfl (by rw [srt_len]; omega) (by rw [srt_len, srt_len]; omega) (by rw [srt_len, srt_len]; omega)
      rw [← srt_append ho] at hi
      have hr := toCgo _ _ (sp := sp) n bs P.length (P.length + 2 * bs) hn (by omega) (by omega) (by omega) hi
      refine ⟨srt (toLt (sp := sp)) (c1 ++ c2) ++ R1, U0, U, q1, by simp [srt_len]; omega, q2, ?_, ?_⟩
      · have := Chk.cons (c1 ++ c2) l2 _ (by simp; omega) q3
        simp only [List.append_assoc, List.cons_append, List.nil_append] at this ⊢
        exact this
      · have e : (P ++ srt (toLt (sp := sp)) (c1 ++ c2)).length = P.length + 2 * bs := by simp [srt_len]; omega
        have e2 : (srt (toLt (sp := sp)) (c1 ++ c2) ++ R1).length = 2 * bs + R1.length := by simp [srt_len]; omega
        rw [e] at q4
        rw [e2]
        simp only [List.append_assoc, List.cons_append, List.nil_append, Nat.add_assoc] at hr q4 ⊢
        exact LoopC.next hr q4
theorem toBin {sp : List Sp}  (ho : Swo (toLt (sp := sp))) (l0 : List (Ix sp)) (n : Nat) (hn : n ≤ 500000) (h : n = l0.length) : ∀ (d bs : Nat) (l : List (Ix sp)), n - bs ≤ d → 0 < bs → Chk (toLt (sp := sp)) bs l0 l →
    ∃ bs', LoopC Try.prog 2 63 toBB (toB l (sp := sp) n bs) (.exit 2) (toB (srt (toLt (sp := sp)) l0) (sp := sp) n bs') := by
  intro d
  induction d with
  | zero =>
    intro bs l hd h0 hc
    rw [hc.done (by omega)]
    exact ⟨bs, LoopC.last (toBz _ (sp := sp) n bs (by omega)) (by simp)⟩
  | succ d ih =>
    intro bs l hd h0 hc
    by_cases hb : n ≤ bs
    · rw [hc.done (by omega)]
      exact ⟨bs, LoopC.last (toBz _ (sp := sp) n bs hb) (by simp)⟩
    · obtain ⟨R1, U0, U, q1, q0, q2, q3, q4⟩ := toCin (sp := sp) ho n bs hn h0 (by omega) l0.length [] l0 l (Nat.le_refl _) hc (by simpa using h)
      simp only [List.nil_append, List.length_nil, Nat.zero_add] at q4
      obtain ⟨bs', hk⟩ := ih (2 * bs) _ (by omega) (by omega) q3
      refine ⟨bs', ?_⟩
      by_cases hm : R1.length + bs < n
      · obtain ⟨c, l', r', rfl, rfl, lc, hc'⟩ := q2.two (by omega)
        simp only [List.length_append] at q1 q0
        have hr' := hc'.done (by omega)
        subst hr'
        have hi := toSym (sp := sp) ho _ R1 (srt (toLt (sp := sp)) c) (srt (toLt (sp := sp)) l') [] R1.length (R1.length + bs) n (Nat.le_refl _) (by rw [srt_len]; omega) (by rw [srt_len]; omega) (srt_srt ho _) (srt_srt ho _) rfl (by rw [srt_len]; omega) (by rw [srt_len, srt_len]; omega) (by rw [srt_len, srt_len, List.length_nil]; omega)
        rw [← srt_append ho] at hi
        simp only [List.append_nil, List.append_assoc] at hi
        exact LoopC.next (toBgo l _ _ (sp := sp) n bs R1.length (R1.length + 2 * bs) hn (by omega) (by omega) hm q4 hi) hk
      · have hU := q2.done (by omega)
        subst hU
        exact LoopC.next (toBno l _ (sp := sp) n bs R1.length (R1.length + 2 * bs) hn (by omega) (by omega) (by omega) q4) hk
/-- Sorting puts in order what is handed in. -/
theorem toSort {sp : List Sp}  (ho : Swo (toLt (sp := sp))) (l : List (Ix sp)) (hs : l.length ≤ 500000) :
    Contract Try.prog 27 [.own 0, .clo (.func 28) [] [.ptr 1 0 0 0]] [.arr 1 ((l).map Ix.row), .box [.sl 10 (sp.map Sp.row)]] (.tup []) [some (.arr 1 ((srt (toLt (sp := sp)) l).map Ix.row)), some (.box [.sl 10 (sp.map Sp.row)])] := by
  obtain ⟨R1, T1, q1, q0, q2, q3⟩ := toAin (sp := sp) ho l.length hs l.length [] l (Nat.le_refl _) (by simp)
  simp only [List.nil_append, List.length_nil, Nat.zero_add] at q3
  obtain ⟨bs, hk⟩ := toBin (sp := sp) ho l l.length hs rfl l.length 20 _ (by omega) (by omega) q2
  have hi := toIns (sp := sp) ho R1 T1 [] R1.length l.length rfl (by omega) (by rw [List.length_nil]; omega)
  simp only [List.append_nil] at hi
  exact toSor l _ (sp := sp) (toStb l _ _ _ (sp := sp) l.length R1.length (R1.length + 20) bs q3 hi hk)
end Go.Proofs.Ythhggnnfiohnpaa

/- the rows of kids. -/
namespace Go.Proofs.Ythhggnnfiohnpaa
open E
set_option maxRecDepth 100000
set_option linter.unusedVariables false
set_option linter.unusedSimpArgs false

/-- All places. -/
def ixs (l : List Sp) : List (Ix l) := (List.range l.length).attach.map fun p => ⟨p.1, List.mem_range.1 p.2⟩
theorem ixs_len (l : List Sp) : (ixs l).length = l.length := by simp [ixs]
theorem ixs_at (l : List Sp) (i : Nat) (h : i < l.length) : (ixs l)[i]? = some ⟨i, h⟩ := by
  unfold ixs
  rw [List.getElem?_map]
  have : (List.range l.length).attach[i]? = some ⟨i, List.mem_range.2 h⟩ := by
    rw [List.getElem?_eq_getElem (by simpa using h)]
    simp
  rw [this]; rfl
theorem ixs_mem (l : List Sp) (x : Ix l) : x ∈ ixs l := List.mem_of_getElem? (ixs_at l x.i x.h)
/-- In which row a kid of v goes. -/
def slotN (n : Nat) (v : Int) : Nat := bif v == -1 then n else v.toNat
/-- The kids of q among the first i. -/
def kidR (l : List Sp) (P : List Int) (q i : Nat) : List (Ix l) := ((ixs l).take i).filter fun x => slotN l.length (P.getD x.n 0) == q
def kidX (l : List Sp) (P : List Int) (q : Nat) : List (Ix l) := srt toLt (kidR l P q l.length)
def innS {l : List Sp} (L : List (Ix l)) : Inn := .sl 1 (L.map Ix.row)
def rowsK (l : List Sp) (P : List Int) (i : Nat) : List Inn := (List.range (l.length + 1)).map fun q => innS (kidR l P q i)
def rowsX (l : List Sp) (P : List Int) (i : Nat) : List Inn := (List.range (l.length + 1)).map fun q => bif decide (q < i) then innS (kidX l P q) else innS (kidR l P q l.length)
def ksS (l : List Sp) (P : List Int) (R : List Inn) (i : Nat) : SL := ⟨[(1, .ptr 1000 0 0 0), (3, .vw 900 1 0 (l.length + 1)), (13, .own 901), (14, I (l.length : Int)), (15, I (i : Int))], [(1000, .box [.sl 10 (l.map Sp.row)]), (900, .nest (.arr R) []), (901, .arr 1 (P.map bI))], [1000, 900, 901]⟩
def kqS (l : List Sp) (R : List Inn) (i : Nat) : SL := ⟨[(1, .ptr 1000 0 0 0), (3, .vw 900 1 0 (l.length + 1)), (35, .vw 900 1 0 (l.length + 1)), (36, I ((l.length + 1 : Nat) : Int)), (37, I (i : Int))], [(1000, .box [.sl 10 (l.map Sp.row)]), (900, .nest (.arr R) [])], [1000, 900]⟩
theorem set_ids {R : List Inn} {q n : Nat} {X : List (List V)} (h : ∀ c ∈ R, c.ids = []) : ∀ c ∈ R.set q (.sl n X), c.ids = [] := by
  intro c hc
  rcases List.mem_or_eq_of_mem_set hc with h' | rfl
  · exact h c h'
  · rfl
noncomputable def ksB : Code := codeAt Try.prog 24 [true, true, false, true, false, false]

noncomputable def kqB : Code := codeAt Try.prog 24 [true, true, true, false, true, false, false]

theorem ksG_0 (l : List Sp) (P : List Int) (R : List Inn) (X : List (List V)) (i q : Nat) (hi : i < l.length) (hs : l.length ≤ 1000000) (hR : R[q]? = some (.sl 1 X)) (hX : X.length ≤ 1000000) (hid : ∀ c ∈ R, c.ids = []) (hv : P[i]? = some (q : Int)) (hq : q < l.length) : CodeC Try.prog 0 46 ksB (ksS l P R i) (Ex.normal) ({ env := [((1 : Nat), V.ptr (1000 : Nat) (0 : Nat) (0 : Nat) (0 : Nat)), ((3 : Nat), V.vw (900 : Nat) (1 : Nat) (0 : Nat) (List.length l + (1 : Nat))), ((13 : Nat), V.own (901 : Nat)), ((14 : Nat), I (Int.ofNat (List.length l))), ((15 : Nat), I (Int.ofNat (i + (1 : Nat))))], st := [((1000 : Nat), Obj.box [V.sl (10 : Nat) (List.map Sp.row l)]), ((900 : Nat), Obj.nest (Nest.arr (List.set R q (Inn.sl (1 : Nat) (X ++ [[I (Int.ofNat i)]])))) []), ((901 : Nat), Obj.arr (1 : Nat) (List.map bI P))], ids := [(1000 : Nat), (900 : Nat), (901 : Nat)] }) :=
  runP hmix [.reg 3 [(0, [], some true)], .reg 4 [(2, [.row [I (q : Int)]], none)], .reg 5 [(1, [], some false)], .reg 7 [(5, [.inn (.sl 1 X)], none), (8, [.beO (X ++ [[I (i : Int)]])], none), (10, [.shut 900 q 1409000 (R.set q (.sl 1 (X ++ [[I (i : Int)]])))], none)], .reg 8 [(0, [.be (I ((i + 1 : Nat) : Int))], none)]] ⟨[1, 3, 13, 14, 15], [(1000, 1000), (900, 900), (901, 901)], []⟩ [
      decide (Int.ofNat i < Int.ofNat (List.length l)) = true,
      (0 : Int) ≤ Int.ofNat i,
      Int.ofNat i < Int.ofNat (List.length (List.map bI P)),
      (List.map bI P)[i]? = some [I (Int.ofNat q)],
      false = false,
      (0 : Int) ≤ Int.ofNat q,
      Int.ofNat q < Int.ofNat (List.length l + (1 : Nat) - (0 : Nat)),
      R[(0 : Nat) + q]? = some (Inn.sl (1 : Nat) X),
      (List.length X + (1 : Nat)) * (8 : Nat) ≤ (140737488355328 : Nat),
      X ++ [[I (Int.ofNat i)]] = X ++ [[I (Int.ofNat i)]],
      (0 : Int) ≤ Int.ofNat q,
      Int.ofNat q < Int.ofNat (List.length l + (1 : Nat) - (0 : Nat)),
      (0 : Nat) + q < List.length (List.set R ((0 : Nat) + q) (Inn.hole (V.own (1406000 : Nat)))),
      (List.set (List.set R ((0 : Nat) + q) (Inn.hole (V.own (1406000 : Nat)))) ((0 : Nat) + q) (Inn.hole (V.own (1409000 : Nat))))[q]? = some (Inn.hole (V.own (1409000 : Nat))),
      List.set (List.set (List.set R ((0 : Nat) + q) (Inn.hole (V.own (1406000 : Nat)))) ((0 : Nat) + q) (Inn.hole (V.own (1409000 : Nat)))) q (Inn.sl (1 : Nat) (X ++ [[I (Int.ofNat i)]])) = List.set R q (Inn.sl (1 : Nat) (X ++ [[I (Int.ofNat i)]])),
      ∀ (c0 : Inn), List.Mem c0 (List.set R q (Inn.sl (1 : Nat) (X ++ [[I (Int.ofNat i)]]))) → Inn.ids c0 = [],
      IntKind.wrap IntKind.i64 (Int.ofNat (i + (1 : Nat))) = Int.ofNat (i + (1 : Nat))] (by kernel_rfl)
    (by
      simp only [allP]
      and_intros <;> first
        | omega
        | exact bI_at hv
        | exact i64_small (by simp; omega)
        | exact set_ids hid
        | (have h1 := (List.getElem?_eq_some_iff.1 hv).1; simp; omega)
        | (have h2 := (List.getElem?_eq_some_iff.1 hR).1; simp; omega)
        | (simp [hR]; done)
        | (have h2 := (List.getElem?_eq_some_iff.1 hR).1; simp [h2]; done))

theorem ksG (l : List Sp) (P : List Int) (R : List Inn) (X : List (List V)) (i q : Nat) (hi : i < l.length) (hs : l.length ≤ 1000000) (hR : R[q]? = some (.sl 1 X)) (hX : X.length ≤ 1000000) (hid : ∀ c ∈ R, c.ids = []) (hv : P[i]? = some (q : Int)) (hq : q < l.length)  : CodeC Try.prog 0 46 ksB (ksS l P R i) .normal (ksS l P (R.set q (.sl 1 (X ++ [[I (i : Int)]]))) (i + 1)) := by
  exact CodeC.cast (by
    first
      | rfl) (ksG_0 l P R X i q hi hs hR hX hid hv hq )

theorem ksN_0 (l : List Sp) (P : List Int) (R : List Inn) (X : List (List V)) (i q : Nat) (hi : i < l.length) (hs : l.length ≤ 1000000) (hR : R[q]? = some (.sl 1 X)) (hX : X.length ≤ 1000000) (hid : ∀ c ∈ R, c.ids = []) (hv : P[i]? = some (-1)) (hq : q = l.length) : CodeC Try.prog 0 46 ksB (ksS l P R i) (Ex.normal) ({ env := [((1 : Nat), V.ptr (1000 : Nat) (0 : Nat) (0 : Nat) (0 : Nat)), ((3 : Nat), V.vw (900 : Nat) (1 : Nat) (0 : Nat) (List.length l + (1 : Nat))), ((13 : Nat), V.own (901 : Nat)), ((14 : Nat), I (Int.ofNat (List.length l))), ((15 : Nat), I (Int.ofNat (i + (1 : Nat))))], st := [((1000 : Nat), Obj.box [V.sl (10 : Nat) (List.map Sp.row l)]), ((900 : Nat), Obj.nest (Nest.arr (List.set R q (Inn.sl (1 : Nat) (X ++ [[I (Int.ofNat i)]])))) []), ((901 : Nat), Obj.arr (1 : Nat) (List.map bI P))], ids := [(1000 : Nat), (900 : Nat), (901 : Nat)] }) :=
  runP hmix [.reg 3 [(0, [], some true)], .reg 4 [(2, [.row [I (-1)]], none)], .reg 5 [(1, [], some true)], .reg 6 [(1, [.be (I ((l.length : Nat) : Int))], none)], .reg 7 [(5, [.inn (.sl 1 X)], none), (8, [.beO (X ++ [[I (i : Int)]])], none), (10, [.shut 900 q 1409000 (R.set q (.sl 1 (X ++ [[I (i : Int)]])))], none)], .reg 8 [(0, [.be (I ((i + 1 : Nat) : Int))], none)]] ⟨[1, 3, 13, 14, 15], [(1000, 1000), (900, 900), (901, 901)], []⟩ [
      decide (Int.ofNat i < Int.ofNat (List.length l)) = true,
      (0 : Int) ≤ Int.ofNat i,
      Int.ofNat i < Int.ofNat (List.length (List.map bI P)),
      (List.map bI P)[i]? = some [I (-1 : Int)],
      true = true,
      Int.ofNat (List.length (List.map Sp.row l)) = Int.ofNat (List.length l),
      (0 : Int) ≤ Int.ofNat (List.length l),
      Int.ofNat (List.length l) < Int.ofNat (List.length l + (1 : Nat) - (0 : Nat)),
      R[(0 : Nat) + List.length l]? = some (Inn.sl (1 : Nat) X),
      (List.length X + (1 : Nat)) * (8 : Nat) ≤ (140737488355328 : Nat),
      X ++ [[I (Int.ofNat i)]] = X ++ [[I (Int.ofNat i)]],
      (0 : Int) ≤ Int.ofNat (List.length l),
      Int.ofNat (List.length l) < Int.ofNat (List.length l + (1 : Nat) - (0 : Nat)),
      (0 : Nat) + List.length l < List.length (List.set R ((0 : Nat) + List.length l) (Inn.hole (V.own (1406000 : Nat)))),
      (List.set (List.set R ((0 : Nat) + List.length l) (Inn.hole (V.own (1406000 : Nat)))) ((0 : Nat) + List.length l) (Inn.hole (V.own (1409000 : Nat))))[q]? = some (Inn.hole (V.own (1409000 : Nat))),
      List.set (List.set (List.set R ((0 : Nat) + List.length l) (Inn.hole (V.own (1406000 : Nat)))) ((0 : Nat) + List.length l) (Inn.hole (V.own (1409000 : Nat)))) q (Inn.sl (1 : Nat) (X ++ [[I (Int.ofNat i)]])) = List.set R q (Inn.sl (1 : Nat) (X ++ [[I (Int.ofNat i)]])),
      ∀ (c0 : Inn), List.Mem c0 (List.set R q (Inn.sl (1 : Nat) (X ++ [[I (Int.ofNat i)]]))) → Inn.ids c0 = [],
      IntKind.wrap IntKind.i64 (Int.ofNat (i + (1 : Nat))) = Int.ofNat (i + (1 : Nat))] (by kernel_rfl)
    (by
      simp only [allP]
      and_intros <;> first
        | omega
        | exact bI_at hv
        | exact i64_small (by simp; omega)
        | exact set_ids hid
        | (have h1 := (List.getElem?_eq_some_iff.1 hv).1; simp; omega)
        | (subst hq; simp [hR]; done)
        | (have h2 := (List.getElem?_eq_some_iff.1 hR).1; subst hq; simp [h2]; done))

theorem ksN (l : List Sp) (P : List Int) (R : List Inn) (X : List (List V)) (i q : Nat) (hi : i < l.length) (hs : l.length ≤ 1000000) (hR : R[q]? = some (.sl 1 X)) (hX : X.length ≤ 1000000) (hid : ∀ c ∈ R, c.ids = []) (hv : P[i]? = some (-1)) (hq : q = l.length)  : CodeC Try.prog 0 46 ksB (ksS l P R i) .normal (ksS l P (R.set q (.sl 1 (X ++ [[I (i : Int)]]))) (i + 1)) := by
  exact CodeC.cast (by
    first
      | rfl) (ksN_0 l P R X i q hi hs hR hX hid hv hq )

theorem ksE_0 (l : List Sp) (P : List Int) (R : List Inn) (i : Nat) (h : l.length ≤ i) : CodeC Try.prog 0 46 ksB (ksS l P R i) (Ex.exit (0 : Nat)) ({ env := [((1 : Nat), V.ptr (1000 : Nat) (0 : Nat) (0 : Nat) (0 : Nat)), ((3 : Nat), V.vw (900 : Nat) (1 : Nat) (0 : Nat) (List.length l + (1 : Nat))), ((13 : Nat), V.own (901 : Nat)), ((14 : Nat), I (Int.ofNat (List.length l))), ((15 : Nat), I (Int.ofNat i))], st := [((1000 : Nat), Obj.box [V.sl (10 : Nat) (List.map Sp.row l)]), ((900 : Nat), Obj.nest (Nest.arr R) []), ((901 : Nat), Obj.arr (1 : Nat) (List.map bI P))], ids := [(1000 : Nat), (900 : Nat), (901 : Nat)] }) :=
  runP hmix [.reg 3 [(0, [], some false)]] ⟨[1, 3, 13, 14, 15], [(1000, 1000), (900, 900), (901, 901)], []⟩ [
      decide (Int.ofNat i < Int.ofNat (List.length l)) = false] (by kernel_rfl)
    (by
      simp only [allP]
      and_intros <;> first
        | (simp; omega))

theorem ksE (l : List Sp) (P : List Int) (R : List Inn) (i : Nat) (h : l.length ≤ i)  : CodeC Try.prog 0 46 ksB (ksS l P R i) (.exit 0) (ksS l P R i) := by
  exact CodeC.cast (by
    first
      | rfl) (ksE_0 l P R i h )

theorem kqG_0 (l : List Sp) (R : List Inn) (L : List (Ix l)) (i : Nat) (ho : Swo (toLt (sp := l))) (hi : i < l.length + 1) (hs : l.length ≤ 1000000) (hR : R[i]? = some (innS L)) (hL : L.length ≤ 500000) (hid : ∀ c ∈ R, c.ids = []) : CodeC Try.prog 0 46 kqB (kqS l R i) (Ex.normal) ({ env := [((1 : Nat), V.ptr (1000 : Nat) (0 : Nat) (0 : Nat) (0 : Nat)), ((3 : Nat), V.vw (900 : Nat) (1 : Nat) (0 : Nat) (List.length l + (1 : Nat))), ((35 : Nat), V.vw (900 : Nat) (1 : Nat) (0 : Nat) (List.length l + (1 : Nat))), ((36 : Nat), I (Int.ofNat (List.length l + (1 : Nat)))), ((37 : Nat), I (Int.ofNat (i + (1 : Nat))))], st := [((1000 : Nat), Obj.box [V.sl (10 : Nat) (List.map Sp.row l)]), ((900 : Nat), Obj.nest (Nest.arr (List.set R i (Inn.sl (1 : Nat) (List.map Ix.row (srt toLt L))))) [])], ids := [(1000 : Nat), (900 : Nat)] }) :=
  runP hmix [.reg 10 [(0, [], some true)], .reg 11 [(1, [.inn (.sl 1 (L.map Ix.row))], none)], .reg 12 [(2, [.call [2202000, 1000] [] (.tup []) [some (.arr 1 ((srt toLt L).map Ix.row)), some (.box [.sl 10 (l.map Sp.row)])], .shut 900 i 2202000 (R.set i (.sl 1 ((srt toLt L).map Ix.row)))], none)], .reg 13 [(0, [.be (I ((i + 1 : Nat) : Int))], none)]] ⟨[1, 3, 35, 36, 37], [(1000, 1000), (900, 900)], []⟩ [
      decide (Int.ofNat i < Int.ofNat (List.length l + (1 : Nat))) = true,
      (0 : Int) ≤ Int.ofNat i,
      Int.ofNat i < Int.ofNat (List.length l + (1 : Nat) - (0 : Nat)),
      R[(0 : Nat) + i]? = some (Inn.sl (1 : Nat) (List.map Ix.row L)),
      Contract Try.prog (27 : Nat) [V.own (0 : Nat), V.clo (Fn.func (28 : Nat)) [] [V.ptr (1 : Nat) (0 : Nat) (0 : Nat) (0 : Nat)]] [Obj.arr (1 : Nat) (List.map Ix.row L), Obj.box [V.sl (10 : Nat) (List.map Sp.row l)]] (V.tup []) [some (Obj.arr (1 : Nat) (List.map Ix.row (srt toLt L))), some (Obj.box [V.sl (10 : Nat) (List.map Sp.row l)])],
      (List.set R ((0 : Nat) + i) (Inn.hole (V.own (2202000 : Nat))))[i]? = some (Inn.hole (V.own (2202000 : Nat))),
      List.set (List.set R ((0 : Nat) + i) (Inn.hole (V.own (2202000 : Nat)))) i (Inn.sl (1 : Nat) (List.map Ix.row (srt toLt L))) = List.set R i (Inn.sl (1 : Nat) (List.map Ix.row (srt toLt L))),
      ∀ (c0 : Inn), List.Mem c0 (List.set R i (Inn.sl (1 : Nat) (List.map Ix.row (srt toLt L)))) → Inn.ids c0 = [],
      IntKind.wrap IntKind.i64 (Int.ofNat (i + (1 : Nat))) = Int.ofNat (i + (1 : Nat))] (by kernel_rfl)
    (by
      simp only [allP]
      and_intros <;> first
        | exact toSort ho L hL
        | exact i64_small (by simp; omega)
        | exact set_ids hid
        | (have h2 := (List.getElem?_eq_some_iff.1 hR).1; simp; omega)
        | (simp [hR, innS]; done)
        | (have h2 := (List.getElem?_eq_some_iff.1 hR).1; simp [h2]; done))

theorem kqG (l : List Sp) (R : List Inn) (L : List (Ix l)) (i : Nat) (ho : Swo (toLt (sp := l))) (hi : i < l.length + 1) (hs : l.length ≤ 1000000) (hR : R[i]? = some (innS L)) (hL : L.length ≤ 500000) (hid : ∀ c ∈ R, c.ids = [])  : CodeC Try.prog 0 46 kqB (kqS l R i) .normal (kqS l (R.set i (innS (srt toLt L))) (i + 1)) := by
  exact CodeC.cast (by
    first
      | rfl) (kqG_0 l R L i ho hi hs hR hL hid )

theorem kqE_0 (l : List Sp) (R : List Inn) (i : Nat) (h : l.length + 1 ≤ i) : CodeC Try.prog 0 46 kqB (kqS l R i) (Ex.exit (2 : Nat)) ({ env := [((1 : Nat), V.ptr (1000 : Nat) (0 : Nat) (0 : Nat) (0 : Nat)), ((3 : Nat), V.vw (900 : Nat) (1 : Nat) (0 : Nat) (List.length l + (1 : Nat))), ((35 : Nat), V.vw (900 : Nat) (1 : Nat) (0 : Nat) (List.length l + (1 : Nat))), ((36 : Nat), I (Int.ofNat (List.length l + (1 : Nat)))), ((37 : Nat), I (Int.ofNat i))], st := [((1000 : Nat), Obj.box [V.sl (10 : Nat) (List.map Sp.row l)]), ((900 : Nat), Obj.nest (Nest.arr R) [])], ids := [(1000 : Nat), (900 : Nat)] }) :=
  runP hmix [.reg 10 [(0, [], some false)]] ⟨[1, 3, 35, 36, 37], [(1000, 1000), (900, 900)], []⟩ [
      decide (Int.ofNat i < Int.ofNat (List.length l + (1 : Nat))) = false] (by kernel_rfl)
    (by
      simp only [allP]
      and_intros <;> first
        | (simp; omega))

theorem kqE (l : List Sp) (R : List Inn) (i : Nat) (h : l.length + 1 ≤ i)  : CodeC Try.prog 0 46 kqB (kqS l R i) (.exit 2) (kqS l R i) := by
  exact CodeC.cast (by
    first
      | rfl) (kqE_0 l R i h )

theorem kids_f_0 (l : List Sp) (R Q : List Inn) (hs : l.length ≤ 1000000) (hQ : Q.length = l.length + 1) (hro : ∀ c ∈ Q, c.ro = true) (h1 : LoopC Try.prog 0 46 ksB (ksS l (parF l) (List.replicate (l.length + 1) (.sl 1 [])) 0) (.exit 0) (ksS l (parF l) R l.length)) (h2 : LoopC Try.prog 0 46 kqB (kqS l R 0) (.exit 2) (kqS l Q (l.length + 1))) : Contract Try.prog 24 [.sl 10 (l.map Sp.row)] [] (V.sl (1 : Nat) (List.map Inn.row Q)) ([]) :=
  vcP hmix [.reg 1 [(2, [.be (I ((l.length + 1 : Nat) : Int))], none), (3, [.idx 0, .idx 1, .be (.vw 204000 1 0 (l.length + 1))], none)], .reg 2 [(1, [.call [] [] (.own 0) [some (.arr 1 ((parF l).map bI))]], none), (2, [.be (I ((l.length : Nat) : Int))], none)], .cut ⟨[1, 3, 13, 14, 15], [(1000, 1000), (204000, 900), (402001, 901)], []⟩ (.exit 0) (ksS l (parF l) R l.length), .reg 9 [(1, [.be (I ((l.length + 1 : Nat) : Int))], none)], .cut ⟨[1, 3, 35, 36, 37], [(1000, 1000), (900, 900)], []⟩ (.exit 2) (kqS l Q (l.length + 1)), .reg 14 [(1, [.froz], none)]] [] [
      IntKind.wrap IntKind.i64 (Int.ofNat (List.length (List.map Sp.row l) + (1 : Nat))) = Int.ofNat (List.length l + (1 : Nat)),
      Int.ofNat (List.length l + (1 : Nat)) = Int.ofNat (List.length l + (1 : Nat)),
      (0 : Int) ≤ Int.ofNat (List.length l + (1 : Nat)),
      Int.toNat (Int.ofNat (List.length l + (1 : Nat))) * (24 : Nat) ≤ (140737488355328 : Nat),
      (0 : Nat) = (0 : Nat),
      Int.toNat (Int.ofNat (List.length l + (1 : Nat))) = List.length l + (1 : Nat),
      Contract Try.prog (8 : Nat) [V.sl (10 : Nat) (List.map Sp.row l)] [] (V.own (0 : Nat)) [some (Obj.arr (1 : Nat) (List.map bI (parF l)))],
      Int.ofNat (List.length (List.map bI (parF l))) = Int.ofNat (List.length l),
      LoopC Try.prog (0 : Nat) (46 : Nat) ksB { env := [((1 : Nat), V.ptr (1000 : Nat) (0 : Nat) (0 : Nat) (0 : Nat)), ((3 : Nat), V.vw (900 : Nat) (1 : Nat) (0 : Nat) (List.length l + (1 : Nat))), ((13 : Nat), V.own (901 : Nat)), ((14 : Nat), I (Int.ofNat (List.length l))), ((15 : Nat), I (0 : Int))], st := [((1000 : Nat), Obj.box [V.sl (10 : Nat) (List.map Sp.row l)]), ((900 : Nat), Obj.nest (Nest.arr (List.replicate (Int.toNat (Int.ofNat (List.length l + (1 : Nat)))) (Inn.sl (1 : Nat) []))) []), ((901 : Nat), Obj.arr (1 : Nat) (List.map bI (parF l)))], ids := [(1000 : Nat), (900 : Nat), (901 : Nat)] } (Ex.exit (0 : Nat)) { env := [((1 : Nat), V.ptr (1000 : Nat) (0 : Nat) (0 : Nat) (0 : Nat)), ((3 : Nat), V.vw (900 : Nat) (1 : Nat) (0 : Nat) (List.length l + (1 : Nat))), ((13 : Nat), V.own (901 : Nat)), ((14 : Nat), I (Int.ofNat (List.length l))), ((15 : Nat), I (Int.ofNat (List.length l)))], st := [((1000 : Nat), Obj.box [V.sl (10 : Nat) (List.map Sp.row l)]), ((900 : Nat), Obj.nest (Nest.arr R) []), ((901 : Nat), Obj.arr (1 : Nat) (List.map bI (parF l)))], ids := [(1000 : Nat), (900 : Nat), (901 : Nat)] },
      Int.ofNat (List.length l + (1 : Nat) - (0 : Nat)) = Int.ofNat (List.length l + (1 : Nat)),
      LoopC Try.prog (0 : Nat) (46 : Nat) kqB { env := [((1 : Nat), V.ptr (1000 : Nat) (0 : Nat) (0 : Nat) (0 : Nat)), ((3 : Nat), V.vw (900 : Nat) (1 : Nat) (0 : Nat) (List.length l + (1 : Nat))), ((35 : Nat), V.vw (900 : Nat) (1 : Nat) (0 : Nat) (List.length l + (1 : Nat))), ((36 : Nat), I (Int.ofNat (List.length l + (1 : Nat)))), ((37 : Nat), I (0 : Int))], st := [((1000 : Nat), Obj.box [V.sl (10 : Nat) (List.map Sp.row l)]), ((900 : Nat), Obj.nest (Nest.arr R) [])], ids := [(1000 : Nat), (900 : Nat)] } (Ex.exit (2 : Nat)) { env := [((1 : Nat), V.ptr (1000 : Nat) (0 : Nat) (0 : Nat) (0 : Nat)), ((3 : Nat), V.vw (900 : Nat) (1 : Nat) (0 : Nat) (List.length l + (1 : Nat))), ((35 : Nat), V.vw (900 : Nat) (1 : Nat) (0 : Nat) (List.length l + (1 : Nat))), ((36 : Nat), I (Int.ofNat (List.length l + (1 : Nat)))), ((37 : Nat), I (Int.ofNat (List.length l + (1 : Nat))))], st := [((1000 : Nat), Obj.box [V.sl (10 : Nat) (List.map Sp.row l)]), ((900 : Nat), Obj.nest (Nest.arr Q) [])], ids := [(1000 : Nat), (900 : Nat)] },
      List.length l + (1 : Nat) = List.length Q,
      ∀ (c0 : Inn), List.Mem c0 Q → Inn.ro c0 = true] (by kernel_rfl)
    (by
      simp only [allP]
      and_intros <;> first
        | omega
        | exact h1
        | exact h2
        | exact cPar l hs
        | (rw [List.length_map]; exact i64_small (by simp; omega))
        | (simp [parF_len]; done)
        | (simp; omega))

theorem kids_f (l : List Sp) (R Q : List Inn) (hs : l.length ≤ 1000000) (hQ : Q.length = l.length + 1) (hro : ∀ c ∈ Q, c.ro = true) (h1 : LoopC Try.prog 0 46 ksB (ksS l (parF l) (List.replicate (l.length + 1) (.sl 1 [])) 0) (.exit 0) (ksS l (parF l) R l.length)) (h2 : LoopC Try.prog 0 46 kqB (kqS l R 0) (.exit 2) (kqS l Q (l.length + 1))) : Contract Try.prog 24 [.sl 10 (l.map Sp.row)] [] (.sl 1 (Q.map Inn.row)) [] := by
  exact Contract.cast (by
    first
      | rfl) (by
    first
      | rfl) (kids_f_0 l R Q hs hQ hro h1 h2 )

theorem cmpI_lt (a b : Int) : (cmpI a b < 0) ↔ a < b := by
  unfold cmpI
  cases h1 : decide (a < b) with
  | true => simpa using h1
  | false =>
    have h1' : ¬ a < b := by simpa using h1
    cases h2 : decide (a > b) <;> simp <;> omega
theorem toLt_iff {sp : List Sp} (x y : Ix sp) : toLt x y = true ↔ x.get.start < y.get.start := by
  unfold toLt cmpX
  rw [decide_eq_true_iff]
  exact cmpI_lt _ _
theorem toLt_f {sp : List Sp} (x y : Ix sp) : toLt x y = false ↔ ¬ x.get.start < y.get.start := by
  rw [← toLt_iff]; simp
theorem toOrd {sp : List Sp} : Swo (toLt (sp := sp)) := by
  refine ⟨fun {a b} h => ?_, fun {a b c} h1 h2 => ?_⟩
  · rw [toLt_iff] at h; rw [toLt_f]; omega
  · rw [toLt_f] at h1 h2 ⊢; omega
theorem parF_inR (l : List Sp) : InR (parF l) := by
  intro i v h
  have hi : i < l.length := by rw [← parF_len l]; exact (List.getElem?_eq_some_iff.1 h).1
  rw [parF_at l i hi] at h
  simp only [Option.some.injEq] at h
  rw [parF_len, ← h]
  cases ringF (upF l) i == (i : Int) with
  | true => exact .inl rfl
  | false => exact nmP_range l i
theorem kidR_succ (l : List Sp) (P : List Int) (q i : Nat) (hi : i < l.length) (v : Int) (hv : P[i]? = some v) : kidR l P q (i + 1) = kidR l P q i ++ (bif slotN l.length v == q then [⟨i, hi⟩] else []) := by
  unfold kidR
  rw [List.take_add_one, ixs_at l i hi, List.filter_append]
  congr 1
  have : P.getD (Ix.n (⟨i, hi⟩ : Ix l)) 0 = v := by simp [Ix.n, hv]
  simp only [Option.toList_some, List.filter_cons, this, List.filter_nil]
  cases slotN l.length v == q <;> rfl
theorem rowsK_set (l : List Sp) (P : List Int) (q i : Nat) (hi : i < l.length) (v : Int) (hv : P[i]? = some v) (hq : slotN l.length v = q) : (rowsK l P i).set q (.sl 1 ((kidR l P q i).map Ix.row ++ [[I (i : Int)]])) = rowsK l P (i + 1) := by
  apply List.ext_getElem?
  intro j
  rw [List.getElem?_set]
  unfold rowsK
  simp only [List.length_map, List.length_range, List.getElem?_map]
  by_cases hj : q = j
  · subst hj
    rw [if_pos rfl]
    by_cases hq2 : q < l.length + 1
    · rw [if_pos hq2, List.getElem?_range hq2]
      have e := kidR_succ l P q i hi v hv
      rw [hq] at e
      simp only [beq_self_eq_true, cond_true] at e
      simp only [Option.map_some, innS, e, List.map_append]
      rfl
    · rw [if_neg hq2, List.getElem?_eq_none (by simp; omega)]; rfl
  · rw [if_neg hj]
    cases hr : (List.range (l.length + 1))[j]? with
    | none => rfl
    | some k =>
      have hk : k = j := by
        have := (List.getElem?_eq_some_iff.1 hr).2
        simpa using this.symm
      subst hk
      have e := kidR_succ l P k i hi v hv
      have hne : (slotN l.length v == k) = false := by simp; omega
      rw [hne] at e
      simp only [cond_false, List.append_nil] at e
      simp only [Option.map_some, e]
theorem rowsK_at (l : List Sp) (P : List Int) (q i : Nat) (hq : q < l.length + 1) : (rowsK l P i)[q]? = some (innS (kidR l P q i)) := by
  unfold rowsK
  rw [List.getElem?_map, List.getElem?_range hq]; rfl
theorem innS_ids {l : List Sp} (L : List (Ix l)) : (innS L).ids = [] := rfl
theorem kidR_len (l : List Sp) (P : List Int) (q i : Nat) : (kidR l P q i).length ≤ l.length := by
  unfold kidR
  refine Nat.le_trans (List.length_filter_le _ _) ?_
  rw [List.length_take, ixs_len]; omega
theorem ksL (l : List Sp) (hs : l.length ≤ 500000) (P : List Int) (hP : InR P) (hl : P.length = l.length) : LoopC Try.prog 0 46 ksB (ksS l P (List.replicate (l.length + 1) (.sl 1 [])) 0) (.exit 0) (ksS l P (rowsK l P l.length) l.length) := by
  have key : ∀ m i, i + m = l.length → LoopC Try.prog 0 46 ksB (ksS l P (rowsK l P i) i) (.exit 0) (ksS l P (rowsK l P l.length) l.length) := by
    intro m
    induction m with
    | zero =>
      intro i h
      have : i = l.length := by omega
      subst this
      exact LoopC.last (ksE l P _ _ (Nat.le_refl _)) (by simp)
    | succ m ih =>
      intro i h
      have hi : i < l.length := by omega
      have hv : P[i]? = some P[i] := List.getElem?_eq_getElem (by omega)
      have hid : ∀ c ∈ rowsK l P i, c.ids = [] := by
        intro c hc
        unfold rowsK at hc
        obtain ⟨q, _, rfl⟩ := List.mem_map.1 hc
        rfl
      have ih' := ih (i + 1) (by omega)
      have hX := fun q => kidR_len l P q i
      rcases hP i _ hv with h1 | ⟨j, hj, h1⟩
      · have hq : slotN l.length P[i] = l.length := by rw [h1]; rfl
        have hr := ksN l P (rowsK l P i) ((kidR l P l.length i).map Ix.row) i l.length hi (by omega) (rowsK_at l P _ i (by omega)) (by have := hX l.length; simp; omega) hid (by rw [hv, h1]) rfl
        rw [rowsK_set l P _ i hi _ hv hq] at hr
        exact LoopC.next hr ih'
      · have hq : slotN l.length P[i] = j := by
          rw [h1]
          have : (((j : Nat) : Int) == -1) = false := by simp
          simp [slotN, this]
        have hr := ksG l P (rowsK l P i) ((kidR l P j i).map Ix.row) i j hi (by omega) (rowsK_at l P _ i (by omega)) (by have := hX j; simp; omega) hid (by rw [hv, h1]) (by omega)
        rw [rowsK_set l P _ i hi _ hv hq] at hr
        exact LoopC.next hr ih'
  have h0 : rowsK l P 0 = List.replicate (l.length + 1) (.sl 1 []) := by
    apply List.ext_getElem?
    intro j
    unfold rowsK
    rw [List.getElem?_map, List.getElem?_replicate]
    by_cases hj : j < l.length + 1
    · rw [List.getElem?_range hj, if_pos hj]
      simp [innS, kidR]
    · rw [List.getElem?_eq_none (by simp; omega), if_neg hj]; rfl
  have := key l.length 0 (by omega)
  rw [h0] at this
  exact this
theorem rowsX_at (l : List Sp) (P : List Int) (q i : Nat) (hq : q < l.length + 1) : (rowsX l P i)[q]? = some (bif decide (q < i) then innS (kidX l P q) else innS (kidR l P q l.length)) := by
  unfold rowsX
  rw [List.getElem?_map, List.getElem?_range hq]; rfl
theorem rowsX_set (l : List Sp) (P : List Int) (i : Nat) (hi : i < l.length + 1) : (rowsX l P i).set i (innS (kidX l P i)) = rowsX l P (i + 1) := by
  apply List.ext_getElem?
  intro j
  rw [List.getElem?_set]
  by_cases hjl : j < l.length + 1
  · rw [rowsX_at l P j (i + 1) hjl]
    by_cases hj : i = j
    · subst hj
      rw [if_pos rfl, if_pos (by simp [rowsX]; omega)]
      have : decide (i < i + 1) = true := by simp
      rw [this]; rfl
    · rw [if_neg hj, rowsX_at l P j i hjl]
      have : decide (j < i) = decide (j < i + 1) := decide_eq_decide.2 (by omega)
      rw [this]
  · have h1 : (rowsX l P (i + 1))[j]? = none := List.getElem?_eq_none (by simp [rowsX]; omega)
    rw [h1, if_neg (by omega)]
    exact List.getElem?_eq_none (by simp [rowsX]; omega)
theorem kqL (l : List Sp) (hs : l.length ≤ 500000) (P : List Int) : LoopC Try.prog 0 46 kqB (kqS l (rowsK l P l.length) 0) (.exit 2) (kqS l (rowsX l P (l.length + 1)) (l.length + 1)) := by
  have key : ∀ m i, i + m = l.length + 1 → LoopC Try.prog 0 46 kqB (kqS l (rowsX l P i) i) (.exit 2) (kqS l (rowsX l P (l.length + 1)) (l.length + 1)) := by
    intro m
    induction m with
    | zero =>
      intro i h
      have : i = l.length + 1 := by omega
      subst this
      exact LoopC.last (kqE l _ _ (Nat.le_refl _)) (by simp)
    | succ m ih =>
      intro i h
      have hi : i < l.length + 1 := by omega
      have hat := rowsX_at l P i i hi
      have h0 : decide (i < i) = false := by simp
      rw [h0] at hat
      have hid : ∀ c ∈ rowsX l P i, c.ids = [] := by
        intro c hc
        unfold rowsX at hc
        obtain ⟨q, _, rfl⟩ := List.mem_map.1 hc
        cases decide (q < i) <;> rfl
      have hr := kqG l (rowsX l P i) (kidR l P i l.length) i toOrd hi (by omega) hat (by have := kidR_len l P i l.length; omega) hid
      have e := rowsX_set l P i hi
      unfold kidX at e
      rw [e] at hr
      exact LoopC.next hr (ih (i + 1) (by omega))
  have h0 : rowsX l P 0 = rowsK l P l.length := by
    unfold rowsX rowsK
    refine List.map_congr_left fun q _ => ?_
    have : decide (q < 0) = false := by simp
    rw [this]; rfl
  have := key (l.length + 1) 0 (by omega)
  rw [h0] at this
  exact this
def kidsRows (l : List Sp) (P : List Int) : List (List V) := (List.range (l.length + 1)).map fun q => [.sl 1 ((kidX l P q).map Ix.row)]
/-- What Kids gives. -/
theorem cKids (l : List Sp) (hs : l.length ≤ 500000) : Contract Try.prog 24 [.sl 10 (l.map Sp.row)] [] (.sl 1 (kidsRows l (parF l))) [] := by
  have h := kids_f l (rowsK l (parF l) l.length) (rowsX l (parF l) (l.length + 1)) (by omega) (by simp [rowsX]) (fun c hc => by
    unfold rowsX at hc
    obtain ⟨q, _, rfl⟩ := List.mem_map.1 hc
    cases decide (q < l.length + 1) <;> rfl) (ksL l hs _ (parF_inR l) (parF_len l)) (kqL l hs _)
  have e : (rowsX l (parF l) (l.length + 1)).map Inn.row = kidsRows l (parF l) := by
    unfold rowsX kidsRows
    rw [List.map_map]
    refine List.map_congr_left fun q hq => ?_
    have : decide (q < l.length + 1) = true := by simpa using hq
    simp only [Function.comp, this, cond_true]
    rfl
  rw [e] at h
  exact h

end Go.Proofs.Ythhggnnfiohnpaa

/- Plain law: rings are cut, so everybody stands below somebody without parent; both ways of cutting are one. -/
namespace Go.Proofs.Ythhggnnfiohnpaa
open E
set_option linter.unusedVariables false
set_option linter.unusedSimpArgs false

theorem pigeon : ∀ (n : Nat) (f : Nat → Nat), (∀ j, j ≤ n → f j < n) → ∃ a b, a < b ∧ b ≤ n ∧ f a = f b
  | 0, f, h => absurd (h 0 (Nat.le_refl _)) (Nat.not_lt_zero _)
  | n + 1, f, h => by
    by_cases hx : ∃ a, a ≤ n ∧ f a = f (n + 1)
    · obtain ⟨a, h1, h2⟩ := hx
      exact ⟨a, n + 1, by omega, Nat.le_refl _, h2⟩
    · have hne : ∀ a, a ≤ n → f a ≠ f (n + 1) := fun a ha e => hx ⟨a, ha, e⟩
      obtain ⟨a, b, h1, h2, h3⟩ := pigeon n (fun j => if f (n + 1) < f j then f j - 1 else f j) (fun j hj => by
        have q1 := h j (by omega)
        have q2 := h (n + 1) (Nat.le_refl _)
        have q3 := hne j hj
        show (if f (n + 1) < f j then f j - 1 else f j) < n
        split <;> omega)
      refine ⟨a, b, h1, by omega, ?_⟩
      have ha := hne a (by omega)
      have hb := hne b h2
      split at h3 <;> split at h3 <;> omega

theorem least {p : Nat → Prop} : ∀ n, p n → ∃ m, m ≤ n ∧ p m ∧ ∀ k, k < m → ¬ p k := by
  intro n
  induction n using Nat.strongRecOn with
  | _ n ih =>
    intro hn
    by_cases h : ∃ k, k < n ∧ p k
    · obtain ⟨k, h1, h2⟩ := h
      obtain ⟨m, q1, q2, q3⟩ := ih k h1 h2
      exact ⟨m, by omega, q2, q3⟩
    · exact ⟨n, Nat.le_refl _, hn, fun k hk hp => h ⟨k, hk, hp⟩⟩

theorem argmin (f : Nat → Int) (a : Nat) : ∀ b, a < b → ∃ s, a ≤ s ∧ s < b ∧ ∀ t, a ≤ t → t < b → f s ≤ f t
  | 0, h => by omega
  | b + 1, h => by
    by_cases hab : a < b
    · obtain ⟨s, h1, h2, h3⟩ := argmin f a b hab
      by_cases hle : f s ≤ f b
      · refine ⟨s, h1, by omega, fun t q1 q2 => ?_⟩
        by_cases htb : t = b
        · subst htb; exact hle
        · exact h3 t q1 (by omega)
      · refine ⟨b, by omega, by omega, fun t q1 q2 => ?_⟩
        by_cases htb : t = b
        · subst htb; exact Int.le_refl _
        · have := h3 t q1 (by omega); omega
    · exact ⟨b, by omega, by omega, fun t q1 q2 => by rw [show t = b by omega]; exact Int.le_refl _⟩

/-- One step up; none stays none. -/
def stp (U : List Int) (k : Int) : Int := if k = -1 then -1 else U.getD k.toNat 0
def it (U : List Int) : Nat → Int → Int
  | 0, k => k
  | t + 1, k => it U t (stp U k)
theorem it_add (U : List Int) : ∀ (a b : Nat) (k : Int), it U (a + b) k = it U b (it U a k)
  | 0, b, k => by rw [Nat.zero_add]; rfl
  | a + 1, b, k => by rw [show a + 1 + b = (a + b) + 1 by omega]; exact it_add U a b (stp U k)
theorem it_succ (U : List Int) (a : Nat) (k : Int) : it U (a + 1) k = stp U (it U a k) := by rw [it_add]; rfl
def Rg (n : Nat) (k : Int) : Prop := k = -1 ∨ ∃ j : Nat, j < n ∧ k = (j : Int)
theorem stp_at {U : List Int} {i : Nat} {v : Int} (h : U[i]? = some v) : stp U (i : Int) = v := by
  unfold stp
  rw [if_neg (by omega), Int.toNat_natCast, List.getD_eq_getElem?_getD, h]; rfl
theorem stp_rg {U : List Int} (hU : InR U) {k : Int} (h : Rg U.length k) : Rg U.length (stp U k) := by
  rcases h with rfl | ⟨j, hj, rfl⟩
  · exact .inl rfl
  · rw [stp_at (List.getElem?_eq_getElem hj)]
    exact hU j _ (List.getElem?_eq_getElem hj)
theorem it_rg {U : List Int} (hU : InR U) : ∀ (t : Nat) {k : Int}, Rg U.length k → Rg U.length (it U t k)
  | 0, k, h => h
  | t + 1, k, h => it_rg hU t (stp_rg hU h)

theorem ring_eq (U : List Int) (hU : InR U) (i : Nat) : ∀ (f : Nat) (k m : Int) (le : Bool), Rg U.length k → ((m = (i : Int) ∧ le = true) ∨ (m < (i : Int) ∧ le = false)) →
    (it U f k = (i : Int) → ∃ s, s < f ∧ (it U s k = (i : Int) ∨ it U s k = -1)) → (ringG U i f k m == (i : Int)) = ((rfG U i f k le).1 == (i : Int) && (rfG U i f k le).2)
  | 0, k, m, le, hk, hm, hf => by
    have h1 : k ≠ (i : Int) := fun e => by obtain ⟨s, hs, _⟩ := hf e; omega
    have h2 : ((-1 : Int) == (i : Int)) = false := by simp <;> omega
    have h3 : (k == (i : Int)) = false := by simpa using h1
    simp only [ringG, rfG, h2, h3, Bool.false_and]
  | f + 1, k, m, le, hk, hm, hf => by
    rcases hk with rfl | ⟨j, hj, rfl⟩
    · have h2 : ((-1 : Int) == (i : Int)) = false := by simp <;> omega
      simp [ringG, rfG, h2]
    · have hn : (((j : Nat) : Int) == -1) = false := by simp
      by_cases hji : j = i
      · subst hji
        simp only [ringG, rfG, hn, beq_self_eq_true, cond_true, cond_false, Bool.not_true, Bool.and_false, Bool.true_and]
        rcases hm with ⟨rfl, rfl⟩ | ⟨h, rfl⟩
        · simp
        · simp; omega
      · have hne : (((j : Nat) : Int) == (i : Int)) = false := by simp; omega
        have hge : decide (((j : Nat) : Int) ≥ 0) = true := by simp
        simp only [ringG, rfG, hn, hne, hge, cond_false, Bool.not_false, Bool.and_true, cond_true]
        have e : U.getD (Int.toNat (j : Int)) 0 = stp U (j : Int) := by unfold stp; rw [if_neg (by omega)]
        rw [e]
        refine ring_eq U hU i f _ _ _ (stp_rg hU (.inr ⟨j, hj, rfl⟩)) ?_ (fun h => ?_)
        · rcases hm with ⟨rfl, rfl⟩ | ⟨h, rfl⟩
          · by_cases hlt : (j : Int) < (i : Int)
            · right; exact ⟨by unfold mn; rw [if_pos hlt]; exact hlt, by simp; omega⟩
            · left; exact ⟨by unfold mn; rw [if_neg hlt], by simp; omega⟩
          · right
            refine ⟨?_, by simp⟩
            unfold mn
            split <;> omega
        · obtain ⟨s, hs, hs2⟩ := hf h
          cases s with
          | zero =>
            exfalso
            rcases hs2 with h' | h'
            · have : (j : Int) = (i : Int) := h'; omega
            · have : (j : Int) = -1 := h'; omega
          | succ s => exact ⟨s, by omega, hs2⟩

/-- Whoever does not meet i so long never meets it. -/
theorem never (U : List Int) (hU : InR U) (i : Nat) (hi : i < U.length) (k : Int) (hk : Rg U.length k) (h : it U U.length k = (i : Int)) : ∃ s, s < U.length ∧ (it U s k = (i : Int) ∨ it U s k = -1) := by
  by_cases hx : ∃ s, s < U.length ∧ (it U s k = (i : Int) ∨ it U s k = -1)
  · exact hx
  · exfalso
    have hno : ∀ s, s < U.length → ∃ j : Nat, j < U.length ∧ j ≠ i ∧ it U s k = (j : Int) := by
      intro s hs
      rcases it_rg hU s hk with h1 | ⟨j, hj, h1⟩
      · exact absurd ⟨s, hs, .inr h1⟩ hx
      · refine ⟨j, hj, fun e => hx ⟨s, hs, .inl (by rw [h1, e])⟩, h1⟩
    obtain ⟨a, b, h1, h2, h3⟩ := pigeon (U.length - 1) (fun s => if i < (it U s k).toNat then (it U s k).toNat - 1 else (it U s k).toNat) (fun s hs => by
      obtain ⟨j, hj, hne, e⟩ := hno s (by omega)
      simp only [e, Int.toNat_natCast]
      split <;> omega)
    obtain ⟨ja, qa, na, ea⟩ := hno a (by omega)
    obtain ⟨jb, qb, nb, eb⟩ := hno b (by omega)
    simp only [ea, eb, Int.toNat_natCast] at h3
    have hjj : ja = jb := by split at h3 <;> split at h3 <;> omega
    have e1 : it U U.length k = it U (a + (U.length - b)) k := by
      rw [show U.length = b + (U.length - b) by omega, it_add, show b + (U.length - b) - b = U.length - b by omega, it_add, ea, eb, hjj]
    obtain ⟨j, _, hne, e⟩ := hno (a + (U.length - b)) (by omega)
    rw [e1, e] at h
    omega

theorem rparF_eq (l : List Sp) : rparF l = parF l := by
  unfold rparF parF
  refine List.map_congr_left fun i hi => ?_
  have hi' : i < l.length := by simpa using hi
  have hv := upF_at l i hi'
  have hg : (upF l).getD i 0 = nmP l i := by rw [List.getD_eq_getElem?_getD, hv]; rfl
  have hr : Rg (upF l).length (nmP l i) := upF_inR l i _ hv
  have := ring_eq (upF l) (upF_inR l) i (upF l).length (nmP l i) (i : Int) true hr (.inl ⟨rfl, rfl⟩) (fun h => never (upF l) (upF_inR l) i (by rw [upF_len]; exact hi') _ hr h)
  have e : (ringF (upF l) i == (i : Int)) = rcut (upF l) l.length i := by
    unfold ringF rcut
    rw [hg, this, upF_len]
  rw [e]

theorem ring_hit (U : List Int) (m : Nat) : ∀ (t f : Nat) (k : Int), t < f → it U t k = (m : Int) → (∀ s, s < t → (m : Int) < it U s k) → ringG U m f k (m : Int) = (m : Int)
  | 0, f + 1, k, _, h, _ => by
    have h' : k = (m : Int) := h
    subst h'
    have : (((m : Nat) : Int) == -1) = false := by simp
    simp [ringG, this]
  | t + 1, f + 1, k, hf, h, hs => by
    have h0 : (m : Int) < k := hs 0 (by omega)
    have h1 : (k == -1) = false := by simp; omega
    have h2 : (k == (m : Int)) = false := by simp; omega
    have h3 : mn (m : Int) k = (m : Int) := by unfold mn; rw [if_neg (by omega)]
    simp only [ringG, h1, h2, h3, cond_false]
    have e : U.getD k.toNat 0 = stp U k := by unfold stp; rw [if_neg (by omega)]
    rw [e]
    exact ring_hit U m t f (stp U k) (by omega) h (fun s hst => hs (s + 1) (by omega))

/-- So deep is one. -/
inductive Dp (P : List Int) : Nat → Nat → Prop
  | root {i : Nat} : P[i]? = some (-1) → Dp P 0 i
  | kid {i j t : Nat} : P[i]? = some (j : Int) → Dp P t j → Dp P (t + 1) i
theorem Dp.lt {P : List Int} {t i : Nat} (h : Dp P t i) : i < P.length := by
  cases h with
  | root h => exact (List.getElem?_eq_some_iff.1 h).1
  | kid h _ => exact (List.getElem?_eq_some_iff.1 h).1
theorem Dp.uniq {P : List Int} : ∀ {t s i : Nat}, Dp P t i → Dp P s i → t = s := by
  intro t s i h
  induction h generalizing s with
  | root h =>
    intro h'
    cases h' with
    | root _ => rfl
    | kid h2 _ => rw [h] at h2; simp only [Option.some.injEq] at h2; omega
  | kid h _ ih =>
    intro h'
    cases h' with
    | root h2 => rw [h] at h2; simp only [Option.some.injEq] at h2; omega
    | kid h2 h3 =>
      rw [h] at h2
      simp only [Option.some.injEq] at h2
      have : ∀ {a b : Nat}, (a : Int) = (b : Int) → a = b := fun e => by omega
      have e := this h2
      subst e
      rw [ih h3]

theorem at_of_it {P : List Int} (hP : InR P) : ∀ (s i : Nat), i < P.length → it P (s + 1) (i : Int) = -1 → (∀ q, q ≤ s → it P q (i : Int) ≠ -1) → Dp P s i
  | 0, i, hi, h, _ => by
    have hv : P[i]? = some P[i] := List.getElem?_eq_getElem hi
    have e : it P 1 (i : Int) = P[i] := stp_at hv
    rw [e] at h
    exact .root (by rw [hv, h])
  | s + 1, i, hi, h, hq => by
    have hv : P[i]? = some P[i] := List.getElem?_eq_getElem hi
    rcases hP i _ hv with h1 | ⟨j, hj, h1⟩
    · exfalso
      refine hq 1 (by omega) ?_
      show stp P (i : Int) = -1
      rw [stp_at hv, h1]
    · have e : stp P (i : Int) = (j : Int) := by rw [stp_at hv, h1]
      refine .kid (by rw [hv, h1]) (at_of_it hP s j hj ?_ fun q hqs => ?_)
      · have : it P (s + 1) (stp P (i : Int)) = -1 := h
        rwa [e] at this
      · have : it P q (stp P (i : Int)) ≠ -1 := hq (q + 1) (by omega)
        rwa [e] at this

/-- Everybody stands somewhere. -/
theorem acyc (l : List Sp) (i : Nat) (hi : i < l.length) : ∃ t, t < l.length ∧ Dp (parF l) t i := by
  have hP := parF_inR l
  have hlen := parF_len l
  have hU := upF_inR l
  have hi' : Rg (parF l).length (i : Int) := .inr ⟨i, by omega, rfl⟩
  by_cases hx : ∃ s, s ≤ l.length ∧ it (parF l) s (i : Int) = -1
  · obtain ⟨s, hs, h⟩ := hx
    obtain ⟨m, h1, h2, h3⟩ := least (p := fun s => it (parF l) s (i : Int) = -1) s h
    cases m with
    | zero => exfalso; have : (i : Int) = -1 := h2; omega
    | succ m => exact ⟨m, by omega, at_of_it hP m i (by omega) h2 fun q hq => h3 q (by omega)⟩
  · exfalso
    have hno : ∀ s, s ≤ l.length → ∃ j : Nat, j < l.length ∧ it (parF l) s (i : Int) = (j : Int) := by
      intro s hs
      rcases it_rg hP s hi' with h1 | ⟨j, hj, h1⟩
      · exact absurd ⟨s, hs, h1⟩ hx
      · exact ⟨j, by omega, h1⟩
    obtain ⟨a, b, h1, h2, h3⟩ := pigeon l.length (fun s => (it (parF l) s (i : Int)).toNat) (fun s hs => by
      obtain ⟨j, hj, e⟩ := hno s hs
      simp only [e, Int.toNat_natCast]; exact hj)
    have hab : it (parF l) a (i : Int) = it (parF l) b (i : Int) := by
      obtain ⟨ja, _, ea⟩ := hno a (by omega)
      obtain ⟨jb, _, eb⟩ := hno b h2
      simp only [ea, eb, Int.toNat_natCast] at h3
      rw [ea, eb, h3]
    obtain ⟨s0, q1, q2, q3⟩ := argmin (fun s => it (parF l) s (i : Int)) a b h1
    obtain ⟨m, hm, em⟩ := hno s0 (by omega)
    -- round the ring from its least place
    have hring : ∀ t, t ≤ b - a → ∃ j : Nat, j < l.length ∧ it (parF l) t (m : Int) = (j : Int) ∧ m ≤ j := by
      intro t ht
      have e1 : it (parF l) t (m : Int) = it (parF l) (s0 + t) (i : Int) := by rw [it_add, em]
      by_cases hsb : s0 + t < b
      · obtain ⟨j, hj, ej⟩ := hno (s0 + t) (by omega)
        have := q3 (s0 + t) (by omega) hsb
        simp only [em, ej] at this
        exact ⟨j, hj, by rw [e1, ej], by omega⟩
      · have e2 : it (parF l) (s0 + t) (i : Int) = it (parF l) (a + (s0 + t - b)) (i : Int) := by
          rw [show s0 + t = b + (s0 + t - b) by omega, it_add, ← hab, ← it_add]
          congr 1; omega
        obtain ⟨j, hj, ej⟩ := hno (a + (s0 + t - b)) (by omega)
        have := q3 (a + (s0 + t - b)) (by omega) (by omega)
        simp only [em, ej] at this
        exact ⟨j, hj, by rw [e1, e2, ej], by omega⟩
    have hback : it (parF l) (b - a) (m : Int) = (m : Int) := by
      have e1 : it (parF l) (b - a) (m : Int) = it (parF l) (s0 + (b - a)) (i : Int) := by rw [it_add, em]
      rw [e1, show s0 + (b - a) = b + (s0 - a) by omega, it_add, ← hab, ← it_add, show a + (s0 - a) = s0 by omega, em]
    -- so also by the names
    have hsame : ∀ j, j < l.length → ∀ q : Nat, it (parF l) 1 (j : Int) = (q : Int) → stp (upF l) (j : Int) = (q : Int) := by
      intro j hj q e
      have e' : stp (parF l) (j : Int) = (q : Int) := e
      rw [stp_at (parF_at l j hj)] at e'
      rw [stp_at (upF_at l j hj)]
      cases hb : ringF (upF l) j == (j : Int) with
      | true => rw [hb] at e'; simp only [cond_true] at e'; omega
      | false => rw [hb] at e'; exact e'
    have hup : ∀ t, t ≤ b - a → it (upF l) t (m : Int) = it (parF l) t (m : Int) := by
      intro t
      induction t with
      | zero => intro _; rfl
      | succ t ih =>
        intro ht
        rw [it_succ, it_succ, ih (by omega)]
        obtain ⟨j, hj, ej, _⟩ := hring t (by omega)
        obtain ⟨q, hq, eq, _⟩ := hring (t + 1) ht
        rw [ej]
        rw [it_succ, ej] at eq
        rw [eq]
        exact hsame j hj q eq
    obtain ⟨r, hr1, hr2, hr3⟩ := least (p := fun t => it (upF l) (t + 1) (m : Int) = (m : Int)) (b - a - 1) (by
      show it (upF l) (b - a - 1 + 1) (m : Int) = (m : Int)
      rw [show b - a - 1 + 1 = b - a by omega, hup _ (Nat.le_refl _), hback])
    have hhit : ringF (upF l) m = (m : Int) := by
      unfold ringF
      have hv := upF_at l m hm
      have hg : (upF l).getD m 0 = stp (upF l) (m : Int) := by rw [stp_at hv, List.getD_eq_getElem?_getD, hv]; rfl
      rw [hg]
      refine ring_hit (upF l) m r _ _ (by rw [upF_len]; omega) hr2 fun s hs => ?_
      have e : it (upF l) s (stp (upF l) (m : Int)) = it (upF l) (s + 1) (m : Int) := rfl
      rw [e]
      have hne := hr3 s hs
      obtain ⟨j, _, ej, hmj⟩ := hring (s + 1) (by omega)
      rw [hup _ (by omega), ej] at hne ⊢
      omega
    obtain ⟨j, _, ej, _⟩ := hring 1 (by omega)
    have e' : stp (parF l) (m : Int) = (j : Int) := ej
    rw [stp_at (parF_at l m hm), hhit] at e'
    simp only [beq_self_eq_true, cond_true] at e'
    omega

end Go.Proofs.Ythhggnnfiohnpaa

/- walking through a tree. -/
namespace Go.Proofs.Ythhggnnfiohnpaa
open E
set_option maxRecDepth 100000
set_option linter.unusedVariables false
set_option linter.unusedSimpArgs false

/-- Who is visited, in order, and how deep. -/
def prD {l : List Sp} (kd : Nat → List (Ix l)) : Nat → Int → List (Ix l) → List (Ix l × Int)
  | 0, _, _ => []
  | m + 1, d, L => L.flatMap fun x => (x, d) :: prD kd m (d + 1) (kd x.n)
def szL {l : List Sp} (kd : Nat → List (Ix l)) : Nat → List (Ix l) → List (Ix l × Int)
  | 0, _ => []
  | m + 1, L => L.flatMap fun x => szL kd m (kd x.n) ++ [(x, 1 + ((prD kd m 0 (kd x.n)).length : Int))]
def setAll {l : List Sp} (A : List Int) (ps : List (Ix l × Int)) : List Int := ps.foldl (fun A q => A.set q.1.n q.2) A
def wkS {l : List Sp} (K : List (List V)) (L : List (Ix l)) (d c : Int) (O : List (Ix l)) (D S : List Int) (j : Nat) : SL :=
  ⟨[(0, .ptr 0 0 0 0), (2, I d), (7, I c), (10, .sl 1 (L.map Ix.row)), (11, I (L.length : Int)), (12, I (j : Int))], [(0, .box [.sl 1 K, .own 900, .vw 2 1 0 l.length, .vw 3 1 0 l.length]), (2, .arr 1 (D.map bI)), (3, .arr 1 (S.map bI)), (900, .arr 1 (O.map Ix.row))], [0, 2, 3, 900, 0, 1, 2, 3]⟩
def bx (n : Nat) (K : List (List V)) (a b c : Nat) : List V := [.sl 1 K, .own a, .vw b 1 0 n, .vw c 1 0 n]
theorem ix_at {l : List Sp} {L : List (Ix l)} {j : Nat} {x : Ix l} (h : L[j]? = some x) : (L.map Ix.row)[Int.toNat (j : Int)]? = some [I (x.n : Int)] := by
  rw [Int.toNat_natCast, List.getElem?_map, h]; rfl
theorem ix_snoc {l : List Sp} (O : List (Ix l)) (x : Ix l) : O.map Ix.row ++ [[I (x.n : Int)]] = (O ++ [x]).map Ix.row := by rw [List.map_append]; rfl
noncomputable def wkB : Code := codeAt Try.prog 25 [true, true, false, true, false, false]

theorem wkG_0 {l : List Sp} (K : List (List V)) (L M O O' : List (Ix l)) (D S D' S' : List Int) (d c e d0 s0 : Int) (x : Ix l) (j : Nat) (hx : L[j]? = some x) (hj : j < L.length) (hL : L.length ≤ 1000000) (hO : O.length ≤ 1000000) (hd : 0 ≤ d ∧ d ≤ 1000000) (he : 0 ≤ e ∧ e ≤ 1000000) (hcc : 0 ≤ c ∧ c + e ≤ 1000000) (hK : K[x.n]? = some [.sl 1 (M.map Ix.row)]) (hd0 : D[x.n]? = some d0) (hs0 : S'[x.n]? = some s0) (hcall : Contract Try.prog 25 [.ptr 0 0 0 0, .sl 1 (M.map Ix.row), I (d + 1)] [.box [.sl 1 K, .own 1, .vw 2 1 0 l.length, .vw 3 1 0 l.length], .arr 1 ((O ++ [x]).map Ix.row), .arr 1 ((D.set x.n d).map bI), .arr 1 (S.map bI)] (I e) [some (.box [.sl 1 K, .own 4, .vw 2 1 0 l.length, .vw 3 1 0 l.length]), none, some (.arr 1 (D'.map bI)), some (.arr 1 (S'.map bI)), some (.arr 1 (O'.map Ix.row))]) : CodeC Try.prog 4 62 wkB (wkS K L d c O D S j) (Ex.normal) ({ env := [((0 : Nat), V.ptr (0 : Nat) (0 : Nat) (0 : Nat) (0 : Nat)), ((2 : Nat), I d), ((7 : Nat), I (c + ((1 : Int) + e))), ((10 : Nat), V.sl (1 : Nat) (List.map Ix.row L)), ((11 : Nat), I (Int.ofNat (List.length L))), ((12 : Nat), I (Int.ofNat (j + (1 : Nat))))], st := [((0 : Nat), Obj.box [V.sl (1 : Nat) K, V.own (900 : Nat), V.vw (2 : Nat) (1 : Nat) (0 : Nat) (List.length l), V.vw (3 : Nat) (1 : Nat) (0 : Nat) (List.length l)]), ((2 : Nat), Obj.arr (1 : Nat) (List.map bI D')), ((3 : Nat), Obj.arr (1 : Nat) (List.map bI (List.set S' (Ix.n x) ((1 : Int) + e)))), ((900 : Nat), Obj.arr (1 : Nat) (List.map Ix.row O'))], ids := [(0 : Nat), (2 : Nat), (3 : Nat), (900 : Nat), (0 : Nat), (1 : Nat), (2 : Nat), (3 : Nat)] }) :=
  runP hmix [.reg 3 [(0, [], some true)], .reg 4 [(1, [.row [I (x.n : Int)]], none)], .reg 5 [(7, [.beO ((O ++ [x]).map Ix.row)], none)], .reg 6 [(7, [.row [I d0], .beO ((D.set x.n d).map bI)], none)], .reg 7 [(3, [.cst 0 3 (.vw 3 1 0 l.length)], none), (12, [.row [.sl 1 (M.map Ix.row)]], none), (14, [.be (I (d + 1))], none), (15, [.call [0, 1008000, 2, 3] [] (I e) [some (.box [.sl 1 K, .own 4, .vw 2 1 0 l.length, .vw 3 1 0 l.length]), none, some (.arr 1 (D'.map bI)), some (.arr 1 (S'.map bI)), some (.arr 1 (O'.map Ix.row))]], none), (16, [.be (I (1 + e))], none), (18, [.row [I s0], .beO ((S'.set x.n (1 + e)).map bI)], none)], .reg 8 [(7, [.row [I (1 + e)]], none), (8, [.be (I (c + (1 + e)))], none)], .reg 9 [(0, [.be (I ((j + 1 : Nat) : Int))], none)]] ⟨[0, 2, 7, 10, 11, 12], [(0, 0), (2, 2), (3, 3), (1416001, 900)], []⟩ [
      decide (Int.ofNat j < Int.ofNat (List.length L)) = true,
      (0 : Int) ≤ Int.ofNat j,
      Int.ofNat j < Int.ofNat (List.length (List.map Ix.row L)),
      (List.map Ix.row L)[j]? = some [I (Int.ofNat (Ix.n x))],
      (List.length (List.map Ix.row O) + (1 : Nat)) * (8 : Nat) ≤ (140737488355328 : Nat),
      List.map Ix.row O ++ [[I (Int.ofNat (Ix.n x))]] = List.map Ix.row (O ++ [x]),
      (0 : Int) ≤ Int.ofNat (Ix.n x),
      Int.ofNat (Ix.n x) < Int.ofNat (List.length l),
      (List.map bI D)[(0 : Nat) + Ix.n x]? = some [I d0],
      List.set (List.map bI D) ((0 : Nat) + Ix.n x) [I d] = List.map bI (List.set D (Ix.n x) d),
      cellIs (some (Obj.box [V.sl (1 : Nat) K, V.own (1008000 : Nat), V.vw (2 : Nat) (1 : Nat) (0 : Nat) (List.length l), V.vw (3 : Nat) (1 : Nat) (0 : Nat) (List.length l)])) (3 : Nat) (V.vw (3 : Nat) (1 : Nat) (0 : Nat) (List.length l)),
      (0 : Int) ≤ Int.ofNat (Ix.n x),
      Int.ofNat (Ix.n x) < Int.ofNat (List.length K),
      K[Ix.n x]? = some [V.sl (1 : Nat) (List.map Ix.row M)],
      IntKind.wrap IntKind.i64 (d + (1 : Int)) = d + (1 : Int),
      Contract Try.prog (25 : Nat) [V.ptr (0 : Nat) (0 : Nat) (0 : Nat) (0 : Nat), V.sl (1 : Nat) (List.map Ix.row M), I (d + (1 : Int))] [Obj.box [V.sl (1 : Nat) K, V.own (1 : Nat), V.vw (2 : Nat) (1 : Nat) (0 : Nat) (List.length l), V.vw (3 : Nat) (1 : Nat) (0 : Nat) (List.length l)], Obj.arr (1 : Nat) (List.map Ix.row (O ++ [x])), Obj.arr (1 : Nat) (List.map bI (List.set D (Ix.n x) d)), Obj.arr (1 : Nat) (List.map bI S)] (I e) [some (Obj.box [V.sl (1 : Nat) K, V.own (4 : Nat), V.vw (2 : Nat) (1 : Nat) (0 : Nat) (List.length l), V.vw (3 : Nat) (1 : Nat) (0 : Nat) (List.length l)]), none, some (Obj.arr (1 : Nat) (List.map bI D')), some (Obj.arr (1 : Nat) (List.map bI S')), some (Obj.arr (1 : Nat) (List.map Ix.row O'))],
      cellIs (some (Obj.box [V.sl (1 : Nat) K, V.own (1416001 : Nat), V.vw (2 : Nat) (1 : Nat) (0 : Nat) (List.length l), V.vw (3 : Nat) (1 : Nat) (0 : Nat) (List.length l)])) (3 : Nat) (V.vw (3 : Nat) (1 : Nat) (0 : Nat) (List.length l)),
      IntKind.wrap IntKind.i64 ((1 : Int) + e) = (1 : Int) + e,
      (0 : Int) ≤ Int.ofNat (Ix.n x),
      Int.ofNat (Ix.n x) < Int.ofNat (List.length l),
      (List.map bI S')[(0 : Nat) + Ix.n x]? = some [I s0],
      List.set (List.map bI S') ((0 : Nat) + Ix.n x) [I ((1 : Int) + e)] = List.map bI (List.set S' (Ix.n x) ((1 : Int) + e)),
      (0 : Int) ≤ Int.ofNat (Ix.n x),
      Int.ofNat (Ix.n x) < Int.ofNat (List.length l),
      (List.map bI (List.set S' (Ix.n x) ((1 : Int) + e)))[(0 : Nat) + Ix.n x]? = some [I ((1 : Int) + e)],
      IntKind.wrap IntKind.i64 (c + ((1 : Int) + e)) = c + ((1 : Int) + e),
      IntKind.wrap IntKind.i64 (Int.ofNat (j + (1 : Nat))) = Int.ofNat (j + (1 : Nat))] (by kernel_rfl)
    (by
      simp only [allP]
      and_intros <;> first
        | omega
        | exact ix_at hx
        | exact ix_snoc O x
        | exact i64_small (by omega)
        | exact i64_small (by simp; omega)
        | (have := x.lt; simp; omega)
        | exact rfl
        | (simp [hd0, bI]; done)
        | (simp [hs0, bI]; done)
        | (have := (List.getElem?_eq_some_iff.1 hK).1; simp; omega)
        | (have := (List.getElem?_eq_some_iff.1 hs0).1; simp [bI, this]; done))

theorem wkG {l : List Sp} (K : List (List V)) (L M O O' : List (Ix l)) (D S D' S' : List Int) (d c e d0 s0 : Int) (x : Ix l) (j : Nat) (hx : L[j]? = some x) (hj : j < L.length) (hL : L.length ≤ 1000000) (hO : O.length ≤ 1000000) (hd : 0 ≤ d ∧ d ≤ 1000000) (he : 0 ≤ e ∧ e ≤ 1000000) (hcc : 0 ≤ c ∧ c + e ≤ 1000000) (hK : K[x.n]? = some [.sl 1 (M.map Ix.row)]) (hd0 : D[x.n]? = some d0) (hs0 : S'[x.n]? = some s0) (hcall : Contract Try.prog 25 [.ptr 0 0 0 0, .sl 1 (M.map Ix.row), I (d + 1)] [.box [.sl 1 K, .own 1, .vw 2 1 0 l.length, .vw 3 1 0 l.length], .arr 1 ((O ++ [x]).map Ix.row), .arr 1 ((D.set x.n d).map bI), .arr 1 (S.map bI)] (I e) [some (.box [.sl 1 K, .own 4, .vw 2 1 0 l.length, .vw 3 1 0 l.length]), none, some (.arr 1 (D'.map bI)), some (.arr 1 (S'.map bI)), some (.arr 1 (O'.map Ix.row))])  : CodeC Try.prog 4 62 wkB (wkS K L d c O D S j) .normal (wkS K L d (c + (1 + e)) O' D' (S'.set x.n (1 + e)) (j + 1)) := by
  exact CodeC.cast (by
    first
      | rfl) (wkG_0 K L M O O' D S D' S' d c e d0 s0 x j hx hj hL hO hd he hcc hK hd0 hs0 hcall )

theorem wkE_0 {l : List Sp} (K : List (List V)) (L O : List (Ix l)) (D S : List Int) (d c : Int) (j : Nat) (h : L.length ≤ j) : CodeC Try.prog 4 62 wkB (wkS K L d c O D S j) (Ex.exit (0 : Nat)) ({ env := [((0 : Nat), V.ptr (0 : Nat) (0 : Nat) (0 : Nat) (0 : Nat)), ((2 : Nat), I d), ((7 : Nat), I c), ((10 : Nat), V.sl (1 : Nat) (List.map Ix.row L)), ((11 : Nat), I (Int.ofNat (List.length L))), ((12 : Nat), I (Int.ofNat j))], st := [((0 : Nat), Obj.box [V.sl (1 : Nat) K, V.own (900 : Nat), V.vw (2 : Nat) (1 : Nat) (0 : Nat) (List.length l), V.vw (3 : Nat) (1 : Nat) (0 : Nat) (List.length l)]), ((2 : Nat), Obj.arr (1 : Nat) (List.map bI D)), ((3 : Nat), Obj.arr (1 : Nat) (List.map bI S)), ((900 : Nat), Obj.arr (1 : Nat) (List.map Ix.row O))], ids := [(0 : Nat), (2 : Nat), (3 : Nat), (900 : Nat), (0 : Nat), (1 : Nat), (2 : Nat), (3 : Nat)] }) :=
  runP hmix [.reg 3 [(0, [], some false)]] ⟨[0, 2, 7, 10, 11, 12], [(0, 0), (2, 2), (3, 3), (900, 900)], []⟩ [
      decide (Int.ofNat j < Int.ofNat (List.length L)) = false] (by kernel_rfl)
    (by
      simp only [allP]
      and_intros <;> first
        | (simp; omega))

theorem wkE {l : List Sp} (K : List (List V)) (L O : List (Ix l)) (D S : List Int) (d c : Int) (j : Nat) (h : L.length ≤ j)  : CodeC Try.prog 4 62 wkB (wkS K L d c O D S j) (.exit 0) (wkS K L d c O D S j) := by
  exact CodeC.cast (by
    first
      | rfl) (wkE_0 K L O D S d c j h )

theorem wk_f_0 {l : List Sp} (K : List (List V)) (L O O' : List (Ix l)) (D S D' S' : List Int) (d c : Int) (hl : LoopC Try.prog 4 62 wkB (wkS K L d 0 O D S 0) (.exit 0) (wkS K L d c O' D' S' L.length)) : Contract Try.prog 25 [.ptr 0 0 0 0, .sl 1 (L.map Ix.row), I d] [.box [.sl 1 K, .own 1, .vw 2 1 0 l.length, .vw 3 1 0 l.length], .arr 1 (O.map Ix.row), .arr 1 (D.map bI), .arr 1 (S.map bI)] (I c) ([some (Obj.box [V.sl (1 : Nat) K, V.own (4 : Nat), V.vw (2 : Nat) (1 : Nat) (0 : Nat) (List.length l), V.vw (3 : Nat) (1 : Nat) (0 : Nat) (List.length l)]), none, some (Obj.arr (1 : Nat) (List.map bI D')), some (Obj.arr (1 : Nat) (List.map bI S')), some (Obj.arr (1 : Nat) (List.map Ix.row O'))]) :=
  vcP hmix [.reg 2 [(1, [.be (I ((L.length : Nat) : Int))], none)], .cut ⟨[0, 2, 7, 10, 11, 12], [(0, 0), (2, 2), (3, 3), (1, 900)], []⟩ (.exit 0) (wkS K L d c O' D' S' L.length)] [900] [
      Int.ofNat (List.length (List.map Ix.row L)) = Int.ofNat (List.length L),
      LoopC Try.prog (4 : Nat) (62 : Nat) wkB { env := [((0 : Nat), V.ptr (0 : Nat) (0 : Nat) (0 : Nat) (0 : Nat)), ((2 : Nat), I d), ((7 : Nat), I (0 : Int)), ((10 : Nat), V.sl (1 : Nat) (List.map Ix.row L)), ((11 : Nat), I (Int.ofNat (List.length L))), ((12 : Nat), I (0 : Int))], st := [((0 : Nat), Obj.box [V.sl (1 : Nat) K, V.own (900 : Nat), V.vw (2 : Nat) (1 : Nat) (0 : Nat) (List.length l), V.vw (3 : Nat) (1 : Nat) (0 : Nat) (List.length l)]), ((2 : Nat), Obj.arr (1 : Nat) (List.map bI D)), ((3 : Nat), Obj.arr (1 : Nat) (List.map bI S)), ((900 : Nat), Obj.arr (1 : Nat) (List.map Ix.row O))], ids := [(0 : Nat), (2 : Nat), (3 : Nat), (900 : Nat), (0 : Nat), (1 : Nat), (2 : Nat), (3 : Nat)] } (Ex.exit (0 : Nat)) { env := [((0 : Nat), V.ptr (0 : Nat) (0 : Nat) (0 : Nat) (0 : Nat)), ((2 : Nat), I d), ((7 : Nat), I c), ((10 : Nat), V.sl (1 : Nat) (List.map Ix.row L)), ((11 : Nat), I (Int.ofNat (List.length L))), ((12 : Nat), I (Int.ofNat (List.length L)))], st := [((0 : Nat), Obj.box [V.sl (1 : Nat) K, V.own (900 : Nat), V.vw (2 : Nat) (1 : Nat) (0 : Nat) (List.length l), V.vw (3 : Nat) (1 : Nat) (0 : Nat) (List.length l)]), ((2 : Nat), Obj.arr (1 : Nat) (List.map bI D')), ((3 : Nat), Obj.arr (1 : Nat) (List.map bI S')), ((900 : Nat), Obj.arr (1 : Nat) (List.map Ix.row O'))], ids := [(0 : Nat), (2 : Nat), (3 : Nat), (900 : Nat), (0 : Nat), (1 : Nat), (2 : Nat), (3 : Nat)] }] (by kernel_rfl)
    (by
      simp only [allP]
      and_intros <;> first
        | exact hl
        | (simp; done))

theorem wk_f {l : List Sp} (K : List (List V)) (L O O' : List (Ix l)) (D S D' S' : List Int) (d c : Int) (hl : LoopC Try.prog 4 62 wkB (wkS K L d 0 O D S 0) (.exit 0) (wkS K L d c O' D' S' L.length)) : Contract Try.prog 25 [.ptr 0 0 0 0, .sl 1 (L.map Ix.row), I d] [.box [.sl 1 K, .own 1, .vw 2 1 0 l.length, .vw 3 1 0 l.length], .arr 1 (O.map Ix.row), .arr 1 (D.map bI), .arr 1 (S.map bI)] (I c) [some (.box [.sl 1 K, .own 4, .vw 2 1 0 l.length, .vw 3 1 0 l.length]), none, some (.arr 1 (D'.map bI)), some (.arr 1 (S'.map bI)), some (.arr 1 (O'.map Ix.row))] := by
  exact Contract.cast (by
    first
      | rfl) (by
    first
      | rfl) (wk_f_0 K L O O' D S D' S' d c hl )

end Go.Proofs.Ythhggnnfiohnpaa

/- Plain law: who is visited on a walk through a tree: each once, behind whoever is above, and nobody is left out. -/
namespace Go.Proofs.Ythhggnnfiohnpaa
open E
set_option linter.unusedVariables false
set_option linter.unusedSimpArgs false

theorem mrg_perm {α : Type} (lt : α → α → Bool) : ∀ (A B : List α), (mrg lt A B).Perm (A ++ B)
  | [], B => by rw [mrg_nil_l]; exact List.Perm.refl _
  | A, [] => by rw [mrg_nil_r, List.append_nil]
  | a :: A, b :: B => by
    rw [mrg]
    cases lt b a with
    | true =>
      simp only [cond_true]
      refine ((mrg_perm lt (a :: A) B).cons b).trans ?_
      exact (List.perm_middle (a := b) (l₁ := a :: A) (l₂ := B)).symm
    | false =>
      simp only [cond_false]
      exact (mrg_perm lt A (b :: B)).cons a
termination_by A B => A.length + B.length
theorem srt_perm {α : Type} (lt : α → α → Bool) (l : List α) : (srt lt l).Perm l := by
  refine snoc_ind (P := fun l => (srt lt l).Perm l) (by rw [srt_nil]) (fun l a ih => ?_) l
  rw [srt_snoc]
  exact (mrg_perm lt _ _).trans (ih.append_right [a])
theorem Ix.ext {l : List Sp} {x y : Ix l} (h : x.n = y.n) : x = y := by
  cases x; cases y; simp only [Ix.n] at h; subst h; rfl
theorem ixs_nodup (l : List Sp) : (ixs l).Nodup := by
  unfold List.Nodup
  rw [List.pairwise_iff_getElem]
  intro i j hi hj hij e
  have h1 := ixs_at l i (by rw [← ixs_len l]; exact hi)
  have h2 := ixs_at l j (by rw [← ixs_len l]; exact hj)
  rw [List.getElem?_eq_getElem hi] at h1
  rw [List.getElem?_eq_getElem hj] at h2
  simp only [Option.some.injEq] at h1 h2
  rw [h1, h2] at e
  have := congrArg Ix.n e
  simp only [Ix.n] at this
  omega
theorem kidX_mem (l : List Sp) (P : List Int) (q : Nat) (x : Ix l) : x ∈ kidX l P q ↔ slotN l.length (P.getD x.n 0) = q := by
  unfold kidX
  rw [(srt_perm _ _).mem_iff]
  unfold kidR
  rw [List.mem_filter, List.take_of_length_le (by rw [ixs_len]; exact Nat.le_refl _)]
  simp [ixs_mem]
theorem kidX_nodup (l : List Sp) (P : List Int) (q : Nat) : (kidX l P q).Nodup := by
  unfold kidX
  rw [(srt_perm _ _).nodup_iff]
  unfold kidR
  exact List.Nodup.sublist (List.Sublist.trans List.filter_sublist (List.take_sublist _ _)) (ixs_nodup l)
theorem pr_kid {l : List Sp} {P : List Int} : ∀ (m : Nat) (d : Int) (L : List (Ix l)) (x z : Ix l) (e : Int), (x, e) ∈ prD (kidX l P) m d L → z ∈ kidX l P x.n → (z, e + 1) ∈ prD (kidX l P) (m + 1) d L
  | 0, d, L, x, z, e, h, _ => by simp [prD] at h
  | m + 1, d, L, x, z, e, h, hz => by
    rw [prD] at h ⊢
    rw [List.mem_flatMap] at h ⊢
    obtain ⟨y, hy, h⟩ := h
    refine ⟨y, hy, ?_⟩
    rcases List.mem_cons.1 h with h | h
    · simp only [Prod.mk.injEq] at h
      obtain ⟨rfl, rfl⟩ := h
      refine List.mem_cons_of_mem _ ?_
      rw [prD, List.mem_flatMap]
      exact ⟨z, hz, by simp⟩
    · exact List.mem_cons_of_mem _ (pr_kid m (d + 1) _ x z e h hz)
theorem pr_mono {l : List Sp} {P : List Int} : ∀ (m : Nat) (d : Int) (L : List (Ix l)) (q : Ix l × Int), q ∈ prD (kidX l P) m d L → q ∈ prD (kidX l P) (m + 1) d L
  | 0, d, L, q, h => by simp [prD] at h
  | m + 1, d, L, q, h => by
    rw [prD] at h ⊢
    rw [List.mem_flatMap] at h ⊢
    obtain ⟨y, hy, h⟩ := h
    refine ⟨y, hy, ?_⟩
    rcases List.mem_cons.1 h with h | h
    · rw [h]; simp
    · exact List.mem_cons_of_mem _ (pr_mono m (d + 1) _ q h)
theorem pr_le {l : List Sp} {P : List Int} (m k : Nat) (h : m ≤ k) (d : Int) (L : List (Ix l)) (q : Ix l × Int) (hq : q ∈ prD (kidX l P) m d L) : q ∈ prD (kidX l P) k d L := by
  induction k with
  | zero => have : m = 0 := by omega
            subst this; exact hq
  | succ k ih =>
    by_cases hk : m = k + 1
    · subst hk; exact hq
    · exact pr_mono k d L q (ih (by omega))
section
variable {l : List Sp} {P : List Int} (hP : InR P) (hl : P.length = l.length)
include hP hl
theorem kid_of (x : Ix l) (q : Nat) (hq : q < l.length) : x ∈ kidX l P q ↔ P[x.n]? = some (q : Int) := by
  rw [kidX_mem]
  have hlt : x.n < P.length := by rw [hl]; exact x.lt
  have hv := List.getElem?_eq_getElem hlt
  rw [List.getD_eq_getElem?_getD, hv, Option.getD_some]
  rcases hP _ _ hv with h | ⟨j, hj, h⟩
  · rw [h]
    constructor
    · intro e; have : l.length = q := e; omega
    · intro e; simp only [Option.some.injEq] at e; omega
  · rw [h]
    have hn : (((j : Nat) : Int) == -1) = false := by simp
    simp only [slotN, hn, cond_false, Int.toNat_natCast, Option.some.injEq]
    omega
theorem root_of (x : Ix l) : x ∈ kidX l P l.length ↔ P[x.n]? = some (-1) := by
  rw [kidX_mem]
  have hlt : x.n < P.length := by rw [hl]; exact x.lt
  have hv := List.getElem?_eq_getElem hlt
  rw [List.getD_eq_getElem?_getD, hv, Option.getD_some]
  rcases hP _ _ hv with h | ⟨j, hj, h⟩
  · rw [h]; simp [slotN]
  · rw [h]
    have hn : (((j : Nat) : Int) == -1) = false := by simp
    simp only [slotN, hn, cond_false, Int.toNat_natCast, Option.some.injEq]
    omega
theorem kids_deep {t : Nat} {x z : Ix l} (h : Dp P t x.n) (hz : z ∈ kidX l P x.n) : Dp P (t + 1) z.n := .kid ((kid_of hP hl z x.n x.lt).1 hz) h
theorem roots_deep {z : Ix l} (hz : z ∈ kidX l P l.length) : Dp P 0 z.n := .root ((root_of hP hl z).1 hz)
theorem pr_deep : ∀ (m d : Nat) (L : List (Ix l)), (∀ x ∈ L, Dp P d x.n) → ∀ q ∈ prD (kidX l P) m (d : Int) L, ∃ t : Nat, q.2 = (t : Int) ∧ d ≤ t ∧ Dp P t q.1.n
  | 0, d, L, _, q, hq => by simp [prD] at hq
  | m + 1, d, L, hL, q, hq => by
    simp only [prD, List.mem_flatMap] at hq
    obtain ⟨x, hx, hq⟩ := hq
    rcases List.mem_cons.1 hq with rfl | hq
    · exact ⟨d, rfl, Nat.le_refl _, hL x hx⟩
    · obtain ⟨t, h1, h2, h3⟩ := pr_deep m (d + 1) (kidX l P x.n) (fun z hz => kids_deep hP hl (hL x hx) hz) q (by simpa using hq)
      exact ⟨t, h1, by omega, h3⟩
theorem pr_up : ∀ (m d : Nat) (L : List (Ix l)), (∀ x ∈ L, Dp P d x.n) → ∀ q ∈ prD (kidX l P) m (d : Int) L, ∃ x ∈ L, ∃ s : Nat, it P s (q.1.n : Int) = (x.n : Int) ∧ q.2 = ((d + s : Nat) : Int)
  | 0, d, L, _, q, hq => by simp [prD] at hq
  | m + 1, d, L, hL, q, hq => by
    simp only [prD, List.mem_flatMap] at hq
    obtain ⟨x, hx, hq⟩ := hq
    rcases List.mem_cons.1 hq with rfl | hq
    · exact ⟨x, hx, 0, rfl, rfl⟩
    · obtain ⟨z, hz, s, h1, h2⟩ := pr_up m (d + 1) (kidX l P x.n) (fun z hz => kids_deep hP hl (hL x hx) hz) q (by simpa using hq)
      refine ⟨x, hx, s + 1, ?_, by rw [h2]; congr 1; omega⟩
      rw [it_succ, h1]
      exact stp_at ((kid_of hP hl z x.n x.lt).1 hz)
theorem pr_nodup : ∀ (m d : Nat) (L : List (Ix l)), L.Nodup → (∀ x ∈ L, Dp P d x.n) → ((prD (kidX l P) m (d : Int) L).map (·.1)).Nodup
  | 0, d, L, _, _ => by simp [prD]
  | m + 1, d, L, hn, hL => by
    simp only [prD, List.map_flatMap]
    unfold List.Nodup
    rw [List.pairwise_flatMap]
    refine ⟨fun x hx => ?_, ?_⟩
    · rw [List.map_cons, List.pairwise_cons]
      have hk := fun z (hz : z ∈ kidX l P x.n) => kids_deep hP hl (hL x hx) hz
      refine ⟨fun z hz e => ?_, ?_⟩
      · obtain ⟨q, hq, rfl⟩ := List.mem_map.1 hz
        obtain ⟨t, h1, h2, h3⟩ := pr_deep hP hl m (d + 1) _ hk q (by simpa using hq)
        have : x = q.1 := e
        rw [← this] at h3
        have := (hL x hx).uniq h3
        omega
      · have := pr_nodup m (d + 1) (kidX l P x.n) (kidX_nodup l P x.n) hk
        simpa [List.Nodup] using this
    · refine List.Pairwise.imp_of_mem (fun {x y} hx hy hxy => ?_) hn
      intro z hz w hw e
      have up : ∀ (x z : Ix l), x ∈ L → z ∈ (((x, (d : Int)) :: prD (kidX l P) m ((d : Int) + 1) (kidX l P x.n)).map (·.1)) → ∃ s : Nat, it P s (z.n : Int) = (x.n : Int) ∧ Dp P (d + s) z.n := by
        intro x z hx hz
        obtain ⟨q, hq, rfl⟩ := List.mem_map.1 hz
        rcases List.mem_cons.1 hq with rfl | hq
        · exact ⟨0, rfl, hL x hx⟩
        · have hk := fun z (hz : z ∈ kidX l P x.n) => kids_deep hP hl (hL x hx) hz
          obtain ⟨u, hu, s, h1, h2⟩ := pr_up hP hl m (d + 1) _ hk q (by simpa using hq)
          obtain ⟨t, h3, _, h4⟩ := pr_deep hP hl m (d + 1) _ hk q (by simpa using hq)
          refine ⟨s + 1, ?_, ?_⟩
          · rw [it_succ, h1]; exact stp_at ((kid_of hP hl u x.n x.lt).1 hu)
          · have : t = d + (s + 1) := by rw [h2] at h3; omega
            rw [← this]; exact h4
      obtain ⟨s, h1, h2⟩ := up x z hx hz
      obtain ⟨s', h3, h4⟩ := up y w hy hw
      rw [e] at h1 h2
      have hs := h2.uniq h4
      have : s = s' := by omega
      subst this
      rw [h1] at h3
      exact hxy (Ix.ext (by omega))
theorem pr_all {t i : Nat} (h : Dp P t i) : ∀ (x : Ix l), x.n = i → (x, (t : Int)) ∈ prD (kidX l P) (t + 1) 0 (kidX l P l.length) := by
  induction h with
  | root h =>
    intro x hx
    rw [prD, List.mem_flatMap]
    exact ⟨x, (root_of hP hl x).2 (by rw [hx, h]), by simp⟩
  | @kid i j t h hj ih =>
    intro x hx
    have hjl : j < l.length := by rw [← hl]; exact hj.lt
    have := ih ⟨j, hjl⟩ rfl
    exact pr_kid (t + 1) 0 _ ⟨j, hjl⟩ x (t : Int) this ((kid_of hP hl x j hjl).2 (by rw [hx, h]))
end
theorem nodup_le {l : List Sp} (A : List (Ix l)) (h : A.Nodup) : A.length ≤ l.length := by
  refine Nat.le_of_not_lt fun hlt => ?_
  obtain ⟨a, b, h1, h2, h3⟩ := pigeon l.length (fun j => match A[j]? with
    | some x => x.n
    | none => 0) (fun j hj => by
      have : j < A.length := by omega
      simp only [List.getElem?_eq_getElem this]
      exact A[j].lt)
  have ha : a < A.length := by omega
  have hb : b < A.length := by omega
  simp only [List.getElem?_eq_getElem ha, List.getElem?_eq_getElem hb] at h3
  exact (List.pairwise_iff_getElem.1 h) a b ha hb h1 (Ix.ext h3)
/-- All are visited, in this order. -/
def ordP (l : List Sp) : List (Ix l × Int) := prD (kidX l (parF l)) l.length 0 (kidX l (parF l) l.length)
theorem ordP_nodup (l : List Sp) : ((ordP l).map (·.1)).Nodup := pr_nodup (parF_inR l) (parF_len l) l.length 0 _ (kidX_nodup _ _ _) (fun x hx => roots_deep (parF_inR l) (parF_len l) hx)
theorem ordP_len (l : List Sp) : (ordP l).length ≤ l.length := by
  have := nodup_le _ (ordP_nodup l)
  simpa using this
theorem ordP_mem (l : List Sp) (x : Ix l) : ∃ t : Nat, t < l.length ∧ Dp (parF l) t x.n ∧ (x, (t : Int)) ∈ ordP l := by
  obtain ⟨t, h1, h2⟩ := acyc l x.n x.lt
  exact ⟨t, h1, h2, pr_le (t + 1) l.length (by omega) _ _ _ (pr_all (parF_inR l) (parF_len l) h2 x rfl)⟩

end Go.Proofs.Ythhggnnfiohnpaa

/- walking through a tree: what is told. -/
namespace Go.Proofs.Ythhggnnfiohnpaa
open E
set_option maxRecDepth 100000
set_option linter.unusedVariables false
set_option linter.unusedSimpArgs false

theorem pr_fst {l : List Sp} (kd : Nat → List (Ix l)) : ∀ (m : Nat) (d d' : Int) (L : List (Ix l)), (prD kd m d L).map (·.1) = (prD kd m d' L).map (·.1)
  | 0, d, d', L => rfl
  | m + 1, d, d', L => by
    simp only [prD, List.map_flatMap, List.map_cons]
    congr 1
    funext x
    rw [pr_fst kd m (d + 1) (d' + 1)]
theorem pr_len0 {l : List Sp} (kd : Nat → List (Ix l)) (m : Nat) (d : Int) (L : List (Ix l)) : (prD kd m d L).length = (prD kd m 0 L).length := by
  have := congrArg List.length (pr_fst kd m d 0 L)
  simpa only [List.length_map] using this
theorem setAll_len {l : List Sp} : ∀ (ps : List (Ix l × Int)) (A : List Int), (setAll A ps).length = A.length
  | [], A => rfl
  | q :: ps, A => by
    show (setAll (A.set q.1.n q.2) ps).length = _
    rw [setAll_len ps, List.length_set]
theorem setAll_app {l : List Sp} (A : List Int) (ps qs : List (Ix l × Int)) : setAll A (ps ++ qs) = setAll (setAll A ps) qs := by unfold setAll; rw [List.foldl_append]
theorem pr_snoc {l : List Sp} (kd : Nat → List (Ix l)) (m : Nat) (d : Int) (A : List (Ix l)) (x : Ix l) : prD kd (m + 1) d (A ++ [x]) = prD kd (m + 1) d A ++ ((x, d) :: prD kd m (d + 1) (kd x.n)) := by
  simp [prD, List.flatMap_append]
theorem sz_snoc {l : List Sp} (kd : Nat → List (Ix l)) (m : Nat) (A : List (Ix l)) (x : Ix l) : szL kd (m + 1) (A ++ [x]) = szL kd (m + 1) A ++ (szL kd m (kd x.n) ++ [(x, 1 + ((prD kd m 0 (kd x.n)).length : Int))]) := by
  simp [szL, List.flatMap_append]
theorem kids_row {l : List Sp} (q : Nat) (hq : q < l.length + 1) : (kidsRows l (parF l))[q]? = some [.sl 1 (((kidX l (parF l)) q).map Ix.row)] := by
  unfold kidsRows
  rw [List.getElem?_map, List.getElem?_range hq]; rfl
theorem kidX_len (l : List Sp) (P : List Int) (q : Nat) : (kidX l P q).length ≤ l.length := by
  unfold kidX
  rw [srt_len]
  exact kidR_len l P q _
/-- The walk below a list of places that are d deep. -/
theorem cWalkM {l : List Sp} (hs : l.length ≤ 500000) : ∀ (m d : Nat) (L O : List (Ix l)) (D S : List Int), d + m = l.length → (∀ x ∈ L, Dp (parF l) d x.n) → L.length ≤ 1000000 → D.length = l.length → S.length = l.length → O.length + (prD (kidX l (parF l)) m (d : Int) L).length ≤ 1000000 →
    Contract Try.prog 25 [.ptr 0 0 0 0, .sl 1 (L.map Ix.row), I (d : Int)] [.box [.sl 1 (kidsRows l (parF l)), .own 1, .vw 2 1 0 l.length, .vw 3 1 0 l.length], .arr 1 ((O).map Ix.row), .arr 1 ((D).map bI), .arr 1 ((S).map bI)] (I ((prD (kidX l (parF l)) m (d : Int) L).length : Int)) [some (.box [.sl 1 (kidsRows l (parF l)), .own 4, .vw 2 1 0 l.length, .vw 3 1 0 l.length]), none, some (.arr 1 ((setAll D (prD (kidX l (parF l)) m (d : Int) L)).map bI)), some (.arr 1 ((setAll S (szL (kidX l (parF l)) m L)).map bI)), some (.arr 1 ((O ++ (prD (kidX l (parF l)) m (d : Int) L).map (·.1)).map Ix.row))]
  | 0, d, L, O, D, S, hd, hL, _, hD, hS, hO => by
    have : L = [] := by
      cases L with
      | nil => rfl
      | cons x L =>
        exfalso
        have h1 := hL x (by simp)
        obtain ⟨t, h2, h3⟩ := acyc l x.n x.lt
        have := h1.uniq h3
        omega
    subst this
    refine wk_f (kidsRows l (parF l)) [] O _ D S _ _ (d : Int) _ ?_
    simp only [prD, szL, List.map_nil, List.append_nil, setAll, List.foldl_nil, List.length_nil]
    exact LoopC.last (wkE _ _ _ _ _ _ _ _ (Nat.le_refl _)) (by simp)
  | m + 1, d, L, O, D, S, hd, hL, hLl, hD, hS, hO => by
    refine wk_f (kidsRows l (parF l)) L O _ D S _ _ (d : Int) _ ?_
    have key : ∀ (B A : List (Ix l)), L = A ++ B → LoopC Try.prog 4 62 wkB (wkS (kidsRows l (parF l)) L (d : Int) ((prD (kidX l (parF l)) (m + 1) (d : Int) A).length : Int) (O ++ (prD (kidX l (parF l)) (m + 1) (d : Int) A).map (·.1)) (setAll D (prD (kidX l (parF l)) (m + 1) (d : Int) A)) (setAll S (szL (kidX l (parF l)) (m + 1) A)) (A).length) (.exit 0) (wkS (kidsRows l (parF l)) L (d : Int) ((prD (kidX l (parF l)) (m + 1) (d : Int) L).length : Int) (O ++ (prD (kidX l (parF l)) (m + 1) (d : Int) L).map (·.1)) (setAll D (prD (kidX l (parF l)) (m + 1) (d : Int) L)) (setAll S (szL (kidX l (parF l)) (m + 1) L)) (L).length) := by
      intro B
      induction B with
      | nil =>
        intro A hA
        rw [List.append_nil] at hA
        subst hA
        exact LoopC.last (wkE _ _ _ _ _ _ _ _ (Nat.le_refl _)) (by simp)
      | cons x B ih =>
        intro A hA
        have hxL : x ∈ L := by rw [hA]; simp
        have hx : L[A.length]? = some x := by rw [hA]; simp
        have hj : A.length < L.length := (List.getElem?_eq_some_iff.1 hx).1
        have hk := fun z (hz : z ∈ (kidX l (parF l)) x.n) => kids_deep (parF_inR l) (parF_len l) (hL x hxL) hz
        -- all of it is not too long
        have htot : (prD (kidX l (parF l)) (m + 1) (d : Int) A).length + 1 + (prD (kidX l (parF l)) m ((d + 1 : Nat) : Int) ((kidX l (parF l)) x.n)).length ≤ (prD (kidX l (parF l)) (m + 1) (d : Int) L).length := by
          have e : L = (A ++ [x]) ++ B := by rw [hA]; simp
          rw [e]
          have e2 : prD (kidX l (parF l)) (m + 1) (d : Int) ((A ++ [x]) ++ B) = prD (kidX l (parF l)) (m + 1) (d : Int) (A ++ [x]) ++ prD (kidX l (parF l)) (m + 1) (d : Int) B := by simp [prD, List.flatMap_append]
          rw [e2, pr_snoc]
          simp only [List.length_append, List.length_cons]
          have : ((d : Int) + 1) = ((d + 1 : Nat) : Int) := by omega
          rw [this]; omega
        have hcall := cWalkM hs m (d + 1) ((kidX l (parF l)) x.n) (O ++ (prD (kidX l (parF l)) (m + 1) (d : Int) A).map (·.1) ++ [x]) ((setAll D (prD (kidX l (parF l)) (m + 1) (d : Int) A)).set x.n (d : Int)) (setAll S (szL (kidX l (parF l)) (m + 1) A)) (by omega) hk (by have := kidX_len l (parF l) x.n; omega) (by rw [List.length_set, setAll_len, hD]) (by rw [setAll_len, hS]) (by simp only [List.length_append, List.length_map, List.length_singleton]; omega)
        have hDl : x.n < (setAll D (prD (kidX l (parF l)) (m + 1) (d : Int) A)).length := by rw [setAll_len, hD]; exact x.lt
        have hSl : x.n < (setAll (setAll S (szL (kidX l (parF l)) (m + 1) A)) (szL (kidX l (parF l)) m ((kidX l (parF l)) x.n))).length := by rw [setAll_len, setAll_len, hS]; exact x.lt
        have hdl : d < l.length := by omega
        have hd1 : (((d + 1 : Nat)) : Int) = (d : Int) + 1 := by omega
        rw [hd1] at hcall htot
        have hr := wkG (kidsRows l (parF l)) L ((kidX l (parF l)) x.n) (O ++ (prD (kidX l (parF l)) (m + 1) (d : Int) A).map (·.1)) _ (setAll D (prD (kidX l (parF l)) (m + 1) (d : Int) A)) (setAll S (szL (kidX l (parF l)) (m + 1) A)) _ _ (d : Int) ((prD (kidX l (parF l)) (m + 1) (d : Int) A).length : Int) _ _ _ x A.length hx hj hLl (by simp only [List.length_append, List.length_map]; omega) (by omega) (by omega) (by omega) (kids_row x.n (by have := x.lt; omega)) (List.getElem?_eq_getElem hDl) (List.getElem?_eq_getElem hSl) hcall
        have e1 : ((prD (kidX l (parF l)) (m + 1) (d : Int) A).length : Int) + (1 + ((prD (kidX l (parF l)) m ((d : Int) + 1) ((kidX l (parF l)) x.n)).length : Int)) = ((prD (kidX l (parF l)) (m + 1) (d : Int) (A ++ [x])).length : Int) := by
          rw [pr_snoc, List.length_append, List.length_cons]; omega
        have e2 : O ++ (prD (kidX l (parF l)) (m + 1) (d : Int) A).map (·.1) ++ [x] ++ (prD (kidX l (parF l)) m ((d : Int) + 1) ((kidX l (parF l)) x.n)).map (·.1) = O ++ (prD (kidX l (parF l)) (m + 1) (d : Int) (A ++ [x])).map (·.1) := by
          rw [pr_snoc]; simp
        have e3 : setAll ((setAll D (prD (kidX l (parF l)) (m + 1) (d : Int) A)).set x.n (d : Int)) (prD (kidX l (parF l)) m ((d : Int) + 1) ((kidX l (parF l)) x.n)) = setAll D (prD (kidX l (parF l)) (m + 1) (d : Int) (A ++ [x])) := by
          rw [pr_snoc, setAll_app]; rfl
        have e4 : (setAll (setAll S (szL (kidX l (parF l)) (m + 1) A)) (szL (kidX l (parF l)) m ((kidX l (parF l)) x.n))).set x.n (1 + ((prD (kidX l (parF l)) m ((d : Int) + 1) ((kidX l (parF l)) x.n)).length : Int)) = setAll S (szL (kidX l (parF l)) (m + 1) (A ++ [x])) := by
          rw [sz_snoc, setAll_app, setAll_app, pr_len0]; rfl
        rw [e1, e2, e3, e4] at hr
        have ih' := ih (A ++ [x]) (by rw [hA]; simp)
        rw [List.length_append, List.length_singleton] at ih'
        exact LoopC.next hr ih'
    have := key L [] rfl
    simpa [prD, szL, setAll] using this

def wtS {l : List Sp} (K : List (List V)) (Z : List Int) : SL := ⟨[(0, .sl 10 (l.map Sp.row)), (3, .ptr 900 0 0 0)], [(900, .box [.sl 1 K, .own 901, .vw 902 1 0 l.length, .vw 903 1 0 l.length]), (902, .arr 1 (Z.map bI)), (903, .arr 1 (Z.map bI)), (901, .arr 1 [])], [900, 902, 903, 901]⟩
def wtE {l : List Sp} (K : List (List V)) (O' : List (Ix l)) (D' S' : List Int) : SL := ⟨[(2, .ptr 900 0 0 0)], [(900, .box [.sl 1 K, .own 904, .vw 902 1 0 l.length, .vw 903 1 0 l.length]), (902, .arr 1 (D'.map bI)), (903, .arr 1 (S'.map bI)), (904, .arr 1 (O'.map Ix.row))], [900, 902, 903, 904]⟩
noncomputable def wtB : Code := codeAt Try.prog 21 [true, true]

theorem wtG_0 {l : List Sp} (K : List (List V)) (M O' : List (Ix l)) (Z D' S' : List Int) (c : Int) (hs : l.length ≤ 1000000) (hK : K[l.length]? = some [.sl 1 (M.map Ix.row)]) (hc : Contract Try.prog 25 [.ptr 0 0 0 0, .sl 1 (M.map Ix.row), I 0] [.box [.sl 1 K, .own 1, .vw 2 1 0 l.length, .vw 3 1 0 l.length], .arr 1 [], .arr 1 (Z.map bI), .arr 1 (Z.map bI)] (I c) [some (.box [.sl 1 K, .own 4, .vw 2 1 0 l.length, .vw 3 1 0 l.length]), none, some (.arr 1 (D'.map bI)), some (.arr 1 (S'.map bI)), some (.arr 1 (O'.map Ix.row))]) : CodeC Try.prog 0 25 wtB (wtS (l := l) K Z) (Ex.ret) ({ env := [((2 : Nat), V.ptr (900 : Nat) (0 : Nat) (0 : Nat) (0 : Nat))], st := [((900 : Nat), Obj.box [V.sl (1 : Nat) K, V.own (904 : Nat), V.vw (902 : Nat) (1 : Nat) (0 : Nat) (List.length l), V.vw (903 : Nat) (1 : Nat) (0 : Nat) (List.length l)]), ((902 : Nat), Obj.arr (1 : Nat) (List.map bI D')), ((903 : Nat), Obj.arr (1 : Nat) (List.map bI S')), ((904 : Nat), Obj.arr (1 : Nat) (List.map Ix.row O'))], ids := [(900 : Nat), (902 : Nat), (903 : Nat), (904 : Nat)] }) :=
  runP hmix [.reg 2 [(6, [.be (I ((l.length : Nat) : Int))], none), (8, [.row [.sl 1 (M.map Ix.row)]], none), (9, [.call [900, 901, 902, 903] [] (I c) [some (.box [.sl 1 K, .own 4, .vw 2 1 0 l.length, .vw 3 1 0 l.length]), none, some (.arr 1 (D'.map bI)), some (.arr 1 (S'.map bI)), some (.arr 1 (O'.map Ix.row))]], none)]] ⟨[2], [(900, 900), (902, 902), (903, 903), (410001, 904)], []⟩ [
      Int.ofNat (List.length (List.map Sp.row l)) = Int.ofNat (List.length l),
      (0 : Int) ≤ Int.ofNat (List.length l),
      Int.ofNat (List.length l) < Int.ofNat (List.length K),
      K[List.length l]? = some [V.sl (1 : Nat) (List.map Ix.row M)],
      Contract Try.prog (25 : Nat) [V.ptr (0 : Nat) (0 : Nat) (0 : Nat) (0 : Nat), V.sl (1 : Nat) (List.map Ix.row M), I (0 : Int)] [Obj.box [V.sl (1 : Nat) K, V.own (1 : Nat), V.vw (2 : Nat) (1 : Nat) (0 : Nat) (List.length l), V.vw (3 : Nat) (1 : Nat) (0 : Nat) (List.length l)], Obj.arr (1 : Nat) [], Obj.arr (1 : Nat) (List.map bI Z), Obj.arr (1 : Nat) (List.map bI Z)] (I c) [some (Obj.box [V.sl (1 : Nat) K, V.own (4 : Nat), V.vw (2 : Nat) (1 : Nat) (0 : Nat) (List.length l), V.vw (3 : Nat) (1 : Nat) (0 : Nat) (List.length l)]), none, some (Obj.arr (1 : Nat) (List.map bI D')), some (Obj.arr (1 : Nat) (List.map bI S')), some (Obj.arr (1 : Nat) (List.map Ix.row O'))]] (by kernel_rfl)
    (by
      simp only [allP]
      and_intros <;> first
        | omega
        | (have := (List.getElem?_eq_some_iff.1 hK).1; simp; omega)
        | (simp; done))

theorem wtG {l : List Sp} (K : List (List V)) (M O' : List (Ix l)) (Z D' S' : List Int) (c : Int) (hs : l.length ≤ 1000000) (hK : K[l.length]? = some [.sl 1 (M.map Ix.row)]) (hc : Contract Try.prog 25 [.ptr 0 0 0 0, .sl 1 (M.map Ix.row), I 0] [.box [.sl 1 K, .own 1, .vw 2 1 0 l.length, .vw 3 1 0 l.length], .arr 1 [], .arr 1 (Z.map bI), .arr 1 (Z.map bI)] (I c) [some (.box [.sl 1 K, .own 4, .vw 2 1 0 l.length, .vw 3 1 0 l.length]), none, some (.arr 1 (D'.map bI)), some (.arr 1 (S'.map bI)), some (.arr 1 (O'.map Ix.row))])  : CodeC Try.prog 0 25 wtB (wtS (l := l) K Z) .ret (wtE K O' D' S') := by
  exact CodeC.cast (by
    first
      | rfl) (wtG_0 K M O' Z D' S' c hs hK hc )

theorem walk_f_0 {l : List Sp} (K : List (List V)) (M O' : List (Ix l)) (Z D' S' : List Int) (hs : l.length ≤ 1000000) (hZ : Z = List.replicate l.length 0) (hk : Contract Try.prog 24 [.sl 10 (l.map Sp.row)] [] (.sl 1 K) []) (ht : CodeC Try.prog 0 25 wtB (wtS (l := l) K Z) .ret (wtE K O' D' S')) : Contract Try.prog 21 [.sl 10 (l.map Sp.row)] [] (V.ptr (0 : Nat) (0 : Nat) (0 : Nat) (0 : Nat)) ([some (Obj.box [V.sl (1 : Nat) K, V.own (3 : Nat), V.vw (1 : Nat) (1 : Nat) (0 : Nat) (List.length l), V.vw (2 : Nat) (1 : Nat) (0 : Nat) (List.length l)]), some (Obj.arr (1 : Nat) (List.map bI D')), some (Obj.arr (1 : Nat) (List.map bI S')), some (Obj.arr (1 : Nat) (List.map Ix.row O'))]) :=
  vcP hmix [.reg 1 [(1, [.call [] [] (.sl 1 K) []], none), (3, [.be (I ((l.length : Nat) : Int))], none), (4, [.idx 1, .be (.vw 205000 1 0 l.length), .beO (Z.map bI)], none), (6, [.be (I ((l.length : Nat) : Int))], none), (7, [.idx 1, .be (.vw 208000 1 0 l.length), .beO (Z.map bI)], none)], .tail 2 ⟨[0, 3], [(210000, 900), (205000, 902), (208000, 903)], [.cell 210000 1 901 1]⟩ .ret (wtE K O' D' S')] [900, 902, 903, 904] [
      Contract Try.prog (24 : Nat) [V.sl (10 : Nat) (List.map Sp.row l)] [] (V.sl (1 : Nat) K) [],
      Int.ofNat (List.length (List.map Sp.row l)) = Int.ofNat (List.length l),
      Int.ofNat (List.length l) = Int.ofNat (List.length l),
      (0 : Int) ≤ Int.ofNat (List.length l),
      List.length l * (8 : Nat) ≤ (140737488355328 : Nat),
      (0 : Nat) = (0 : Nat),
      List.length l = List.length l,
      List.replicate (List.length l) [I (0 : Int)] = List.map bI Z,
      Int.ofNat (List.length (List.map Sp.row l)) = Int.ofNat (List.length l),
      Int.ofNat (List.length l) = Int.ofNat (List.length l),
      (0 : Int) ≤ Int.ofNat (List.length l),
      List.length l * (8 : Nat) ≤ (140737488355328 : Nat),
      (0 : Nat) = (0 : Nat),
      List.length l = List.length l,
      List.replicate (List.length l) [I (0 : Int)] = List.map bI Z,
      CodeC Try.prog (0 : Nat) (25 : Nat) wtB { env := [((0 : Nat), V.sl (10 : Nat) (List.map Sp.row l)), ((3 : Nat), V.ptr (900 : Nat) (0 : Nat) (0 : Nat) (0 : Nat))], st := [((900 : Nat), Obj.box [V.sl (1 : Nat) K, V.own (901 : Nat), V.vw (902 : Nat) (1 : Nat) (0 : Nat) (List.length l), V.vw (903 : Nat) (1 : Nat) (0 : Nat) (List.length l)]), ((902 : Nat), Obj.arr (1 : Nat) (List.map bI Z)), ((903 : Nat), Obj.arr (1 : Nat) (List.map bI Z)), ((901 : Nat), Obj.arr (1 : Nat) [])], ids := [(900 : Nat), (902 : Nat), (903 : Nat), (901 : Nat)] } Ex.ret { env := [((2 : Nat), V.ptr (900 : Nat) (0 : Nat) (0 : Nat) (0 : Nat))], st := [((900 : Nat), Obj.box [V.sl (1 : Nat) K, V.own (904 : Nat), V.vw (902 : Nat) (1 : Nat) (0 : Nat) (List.length l), V.vw (903 : Nat) (1 : Nat) (0 : Nat) (List.length l)]), ((902 : Nat), Obj.arr (1 : Nat) (List.map bI D')), ((903 : Nat), Obj.arr (1 : Nat) (List.map bI S')), ((904 : Nat), Obj.arr (1 : Nat) (List.map Ix.row O'))], ids := [(900 : Nat), (902 : Nat), (903 : Nat), (904 : Nat)] }] (by kernel_rfl)
    (by
      simp only [allP]
      and_intros <;> first
        | omega
        | exact ht
        | (subst hZ; simp [bI]; done))

theorem walk_f {l : List Sp} (K : List (List V)) (M O' : List (Ix l)) (Z D' S' : List Int) (hs : l.length ≤ 1000000) (hZ : Z = List.replicate l.length 0) (hk : Contract Try.prog 24 [.sl 10 (l.map Sp.row)] [] (.sl 1 K) []) (ht : CodeC Try.prog 0 25 wtB (wtS (l := l) K Z) .ret (wtE K O' D' S')) : Contract Try.prog 21 [.sl 10 (l.map Sp.row)] [] (.ptr 0 0 0 0) [some (.box [.sl 1 K, .own 3, .vw 1 1 0 l.length, .vw 2 1 0 l.length]), some (.arr 1 (D'.map bI)), some (.arr 1 (S'.map bI)), some (.arr 1 (O'.map Ix.row))] := by
  exact Contract.cast (by
    first
      | rfl) (by
    first
      | rfl) (walk_f_0 K M O' Z D' S' hs hZ hk ht )

end Go.Proofs.Ythhggnnfiohnpaa

/- the order, the depths, the sizes. -/
namespace Go.Proofs.Ythhggnnfiohnpaa
open E
set_option maxRecDepth 100000
set_option linter.unusedVariables false
set_option linter.unusedSimpArgs false

def ordX (l : List Sp) : List (Ix l) := (ordP l).map (·.1)
def depF (l : List Sp) : List Int := setAll (List.replicate l.length 0) (ordP l)
def sizF (l : List Sp) : List Int := setAll (List.replicate l.length 0) (szL (kidX l (parF l)) l.length (kidX l (parF l) l.length))
theorem depF_len (l : List Sp) : (depF l).length = l.length := by simp [depF, setAll_len]
theorem sizF_len (l : List Sp) : (sizF l).length = l.length := by simp [sizF, setAll_len]
theorem takeB {A : List Int} {n : Nat} (h : A.length = n) : (A.map bI).take n = A.map bI := List.take_of_length_le (by simp; omega)
theorem cWalk (l : List Sp) (hs : l.length ≤ 500000) : Contract Try.prog 21 [.sl 10 (l.map Sp.row)] [] (.ptr 0 0 0 0) [some (.box [.sl 1 (kidsRows l (parF l)), .own 3, .vw 1 1 0 l.length, .vw 2 1 0 l.length]), some (.arr 1 ((depF l).map bI)), some (.arr 1 ((sizF l).map bI)), some (.arr 1 ((ordX l).map Ix.row))] := by
  have hw := cWalkM hs l.length 0 (kidX l (parF l) l.length) [] (List.replicate l.length 0) (List.replicate l.length 0) (by omega) (fun x hx => roots_deep (parF_inR l) (parF_len l) hx) (by have := kidX_len l (parF l) l.length; omega) (by simp) (by simp) (by
    have := ordP_len l
    unfold ordP at this
    simp only [List.length_nil, Nat.zero_add]
    have h0 : ((0 : Nat) : Int) = 0 := rfl
    rw [h0]; omega)
  rw [List.nil_append] at hw
  exact walk_f (kidsRows l (parF l)) (kidX l (parF l) l.length) (ordX l) (List.replicate l.length 0) (depF l) (sizF l) (by omega) rfl (cKids l hs) (wtG (kidsRows l (parF l)) (kidX l (parF l) l.length) (ordX l) (List.replicate l.length 0) (depF l) (sizF l) _ (by omega) (kids_row l.length (by omega)) hw)

theorem cOrder_0 (l : List Sp) (hs : l.length ≤ 500000) : Contract Try.prog 13 [.sl 10 (l.map Sp.row)] [] (V.own (0 : Nat)) ([some (Obj.arr (1 : Nat) (List.map Ix.row (ordX l)))]) :=
  vcP hmix [.reg 1 [(1, [.call [] [] (.ptr 0 0 0 0) [some (.box [.sl 1 (kidsRows l (parF l)), .own 3, .vw 1 1 0 l.length, .vw 2 1 0 l.length]), some (.arr 1 ((depF l).map bI)), some (.arr 1 ((sizF l).map bI)), some (.arr 1 ((ordX l).map Ix.row))]], none)]] [202004] [
      Contract Try.prog (21 : Nat) [V.sl (10 : Nat) (List.map Sp.row l)] [] (V.ptr (0 : Nat) (0 : Nat) (0 : Nat) (0 : Nat)) [some (Obj.box [V.sl (1 : Nat) (kidsRows l (parF l)), V.own (3 : Nat), V.vw (1 : Nat) (1 : Nat) (0 : Nat) (List.length l), V.vw (2 : Nat) (1 : Nat) (0 : Nat) (List.length l)]), some (Obj.arr (1 : Nat) (List.map bI (depF l))), some (Obj.arr (1 : Nat) (List.map bI (sizF l))), some (Obj.arr (1 : Nat) (List.map Ix.row (ordX l)))]] (by kernel_rfl)
    (by
      simp only [allP]
      and_intros <;> first
        | exact cWalk l hs)

theorem cOrder (l : List Sp) (hs : l.length ≤ 500000) : Contract Try.prog 13 [.sl 10 (l.map Sp.row)] [] (.own 0) [some (.arr 1 ((ordX l).map Ix.row))] := by
  exact Contract.cast (by
    first
      | rfl) (by
    first
      | rfl) (cOrder_0 l hs )

theorem cDepths_0 (l : List Sp) (hs : l.length ≤ 500000) : Contract Try.prog 9 [.sl 10 (l.map Sp.row)] [] (V.own (0 : Nat)) ([some (Obj.arr (1 : Nat) (List.map bI (depF l)))]) :=
  vcP hmix [.reg 1 [(1, [.call [] [] (.ptr 0 0 0 0) [some (.box [.sl 1 (kidsRows l (parF l)), .own 3, .vw 1 1 0 l.length, .vw 2 1 0 l.length]), some (.arr 1 ((depF l).map bI)), some (.arr 1 ((sizF l).map bI)), some (.arr 1 ((ordX l).map Ix.row))]], none), (5, [.idx 0, .beO ((depF l).map bI)], none)]] [206000] [
      Contract Try.prog (21 : Nat) [V.sl (10 : Nat) (List.map Sp.row l)] [] (V.ptr (0 : Nat) (0 : Nat) (0 : Nat) (0 : Nat)) [some (Obj.box [V.sl (1 : Nat) (kidsRows l (parF l)), V.own (3 : Nat), V.vw (1 : Nat) (1 : Nat) (0 : Nat) (List.length l), V.vw (2 : Nat) (1 : Nat) (0 : Nat) (List.length l)]), some (Obj.arr (1 : Nat) (List.map bI (depF l))), some (Obj.arr (1 : Nat) (List.map bI (sizF l))), some (Obj.arr (1 : Nat) (List.map Ix.row (ordX l)))],
      List.length l ≤ List.length (List.map bI (depF l)),
      List.take (List.length l) (List.map bI (depF l)) = List.map bI (depF l)] (by kernel_rfl)
    (by
      simp only [allP]
      and_intros <;> first
        | exact cWalk l hs
        | exact takeB (depF_len l)
        | (simp [depF_len]; done))

theorem cDepths (l : List Sp) (hs : l.length ≤ 500000) : Contract Try.prog 9 [.sl 10 (l.map Sp.row)] [] (.own 0) [some (.arr 1 ((depF l).map bI))] := by
  exact Contract.cast (by
    first
      | rfl) (by
    first
      | rfl) (cDepths_0 l hs )

theorem cSizes_0 (l : List Sp) (hs : l.length ≤ 500000) : Contract Try.prog 16 [.sl 10 (l.map Sp.row)] [] (V.own (0 : Nat)) ([some (Obj.arr (1 : Nat) (List.map bI (sizF l)))]) :=
  vcP hmix [.reg 1 [(1, [.call [] [] (.ptr 0 0 0 0) [some (.box [.sl 1 (kidsRows l (parF l)), .own 3, .vw 1 1 0 l.length, .vw 2 1 0 l.length]), some (.arr 1 ((depF l).map bI)), some (.arr 1 ((sizF l).map bI)), some (.arr 1 ((ordX l).map Ix.row))]], none), (5, [.idx 0, .beO ((sizF l).map bI)], none)]] [206000] [
      Contract Try.prog (21 : Nat) [V.sl (10 : Nat) (List.map Sp.row l)] [] (V.ptr (0 : Nat) (0 : Nat) (0 : Nat) (0 : Nat)) [some (Obj.box [V.sl (1 : Nat) (kidsRows l (parF l)), V.own (3 : Nat), V.vw (1 : Nat) (1 : Nat) (0 : Nat) (List.length l), V.vw (2 : Nat) (1 : Nat) (0 : Nat) (List.length l)]), some (Obj.arr (1 : Nat) (List.map bI (depF l))), some (Obj.arr (1 : Nat) (List.map bI (sizF l))), some (Obj.arr (1 : Nat) (List.map Ix.row (ordX l)))],
      List.length l ≤ List.length (List.map bI (sizF l)),
      List.take (List.length l) (List.map bI (sizF l)) = List.map bI (sizF l)] (by kernel_rfl)
    (by
      simp only [allP]
      and_intros <;> first
        | exact cWalk l hs
        | exact takeB (sizF_len l)
        | (simp [sizF_len]; done))

theorem cSizes (l : List Sp) (hs : l.length ≤ 500000) : Contract Try.prog 16 [.sl 10 (l.map Sp.row)] [] (.own 0) [some (.arr 1 ((sizF l).map bI))] := by
  exact Contract.cast (by
    first
      | rfl) (by
    first
      | rfl) (cSizes_0 l hs )

end Go.Proofs.Ythhggnnfiohnpaa

/- the reference's kids. -/
namespace Go.Proofs.Ythhggnnfiohnpaa
open E
set_option maxRecDepth 100000
set_option linter.unusedVariables false
set_option linter.unusedSimpArgs false

/-- The kids of one, of the first i. -/
def kidI (l : List Sp) (P : List Int) (o : Int) (i : Nat) : List (Ix l) := ((ixs l).take i).filter fun x => P.getD x.n 0 == o
def rkS {l : List Sp} (P : List Int) (o : Int) (L : List (Ix l)) (i : Nat) : SL := ⟨[(0, .sl 10 (l.map Sp.row)), (1, .sl 1 (P.map bI)), (2, I o), (7, .own 900), (8, I (i : Int))], [(900, .arr 1 (L.map Ix.row))], [900]⟩
def rlS {l : List Sp} (P : List Int) (o : Int) (L : List (Ix l)) (i k : Nat) : SL := ⟨[(0, .sl 10 (l.map Sp.row)), (1, .sl 1 (P.map bI)), (2, I o), (7, .own 900), (8, I (i : Int)), (9, I (k : Int))], [(900, .arr 1 (L.map Ix.row))], [900]⟩
noncomputable def rkB : Code := codeAt Try.prog 26 [true, true, false, true, false, false]

noncomputable def rlB : Code := codeAt Try.prog 26 [true, true, false, true, false, false, true, false, false, true, true, false, false, false]

theorem tailAB {l : List Sp} (A B : List (Ix l)) (x : Ix l) : (A ++ [x]).map Ix.row ++ (((A ++ B).map Ix.row).drop A.length).take (A.length + B.length - A.length) = (A ++ x :: B).map Ix.row := by
  have e : ((A ++ B).map Ix.row).drop A.length = B.map Ix.row := by rw [List.map_append, List.drop_left' (by simp)]
  rw [e, List.take_of_length_le (by simp)]
  simp
theorem rlG_0 {l : List Sp} (P : List Int) (o : Int) (L : List (Ix l)) (x y : Ix l) (k : Nat) (hy : L[k]? = some y) (hk : k < L.length) (hL : L.length ≤ 1000000) (hb : toLt x y = true) : CodeC Try.prog 0 57 rlB (rlS P o L x.n (k + 1)) (Ex.normal) ({ env := [((0 : Nat), V.sl (10 : Nat) (List.map Sp.row l)), ((1 : Nat), V.sl (1 : Nat) (List.map bI P)), ((2 : Nat), I o), ((7 : Nat), V.own (900 : Nat)), ((8 : Nat), I (Int.ofNat (Ix.n x))), ((9 : Nat), I (Int.ofNat k))], st := [((900 : Nat), Obj.arr (1 : Nat) (List.map Ix.row L))], ids := [(900 : Nat)] }) :=
  runP hmix [.reg 7 [(1, [], some true), (7, [.row (Sp.row x.get)], none), (11, [.be (I (k : Int))], none), (13, [.row [I (y.n : Int)]], none), (16, [.row (Sp.row y.get)], none), (17, [], some true)], .reg 8 [(1, [.be (I (k : Int))], none)]] ⟨[0, 1, 2, 7, 8, 9], [(900, 900)], []⟩ [
      decide (Int.ofNat (k + (1 : Nat)) > (0 : Int)) = true,
      (0 : Int) ≤ Int.ofNat (Ix.n x),
      Int.ofNat (Ix.n x) < Int.ofNat (List.length (List.map Sp.row l)),
      (List.map Sp.row l)[Ix.n x]? = some (Sp.row (Ix.get x)),
      IntKind.wrap IntKind.i64 (Int.ofNat (k + (1 : Nat)) + (-1 : Int)) = Int.ofNat k,
      (0 : Int) ≤ Int.ofNat k,
      Int.ofNat k < Int.ofNat (List.length (List.map Ix.row L)),
      (List.map Ix.row L)[k]? = some [I (Int.ofNat (Ix.n y))],
      (0 : Int) ≤ Int.ofNat (Ix.n y),
      Int.ofNat (Ix.n y) < Int.ofNat (List.length (List.map Sp.row l)),
      (List.map Sp.row l)[Ix.n y]? = some (Sp.row (Ix.get y)),
      decide (Sp.start (Ix.get x) < Sp.start (Ix.get y)) = true,
      IntKind.wrap IntKind.i64 (Int.ofNat (k + (1 : Nat)) + (-1 : Int)) = Int.ofNat k] (by kernel_rfl)
    (by
      simp only [allP]
      and_intros <;> first
        | exact ix_at hy
        | (rw [i64_small (by simp; omega)]; simp; omega)
        | (have := x.lt; simp; omega)
        | (have := y.lt; simp; omega)
        | exact Ix.at x
        | exact Ix.at y
        | (rw [decide_eq_true_eq]; exact (toLt_iff x y).1 hb)
        | (simp; done))

theorem rlG {l : List Sp} (P : List Int) (o : Int) (L : List (Ix l)) (x y : Ix l) (k : Nat) (hy : L[k]? = some y) (hk : k < L.length) (hL : L.length ≤ 1000000) (hb : toLt x y = true)  : CodeC Try.prog 0 57 rlB (rlS P o L x.n (k + 1)) .normal (rlS P o L x.n k) := by
  exact CodeC.cast (by
    first
      | rfl) (rlG_0 P o L x y k hy hk hL hb )

theorem rlE_0 {l : List Sp} (P : List Int) (o : Int) (L : List (Ix l)) (x y : Ix l) (k : Nat) (hy : L[k]? = some y) (hk : k < L.length) (hL : L.length ≤ 1000000) (hb : toLt x y = false) : CodeC Try.prog 0 57 rlB (rlS P o L x.n (k + 1)) (Ex.exit (2 : Nat)) ({ env := [((0 : Nat), V.sl (10 : Nat) (List.map Sp.row l)), ((1 : Nat), V.sl (1 : Nat) (List.map bI P)), ((2 : Nat), I o), ((7 : Nat), V.own (900 : Nat)), ((8 : Nat), I (Int.ofNat (Ix.n x))), ((9 : Nat), I (Int.ofNat (k + (1 : Nat))))], st := [((900 : Nat), Obj.arr (1 : Nat) (List.map Ix.row L))], ids := [(900 : Nat)] }) :=
  runP hmix [.reg 7 [(1, [], some true), (7, [.row (Sp.row x.get)], none), (11, [.be (I (k : Int))], none), (13, [.row [I (y.n : Int)]], none), (16, [.row (Sp.row y.get)], none), (17, [], some false)]] ⟨[0, 1, 2, 7, 8, 9], [(900, 900)], []⟩ [
      decide (Int.ofNat (k + (1 : Nat)) > (0 : Int)) = true,
      (0 : Int) ≤ Int.ofNat (Ix.n x),
      Int.ofNat (Ix.n x) < Int.ofNat (List.length (List.map Sp.row l)),
      (List.map Sp.row l)[Ix.n x]? = some (Sp.row (Ix.get x)),
      IntKind.wrap IntKind.i64 (Int.ofNat (k + (1 : Nat)) + (-1 : Int)) = Int.ofNat k,
      (0 : Int) ≤ Int.ofNat k,
      Int.ofNat k < Int.ofNat (List.length (List.map Ix.row L)),
      (List.map Ix.row L)[k]? = some [I (Int.ofNat (Ix.n y))],
      (0 : Int) ≤ Int.ofNat (Ix.n y),
      Int.ofNat (Ix.n y) < Int.ofNat (List.length (List.map Sp.row l)),
      (List.map Sp.row l)[Ix.n y]? = some (Sp.row (Ix.get y)),
      decide (Sp.start (Ix.get x) < Sp.start (Ix.get y)) = false] (by kernel_rfl)
    (by
      simp only [allP]
      and_intros <;> first
        | exact ix_at hy
        | (rw [i64_small (by simp; omega)]; simp; omega)
        | (have := x.lt; simp; omega)
        | (have := y.lt; simp; omega)
        | exact Ix.at x
        | exact Ix.at y
        | (rw [decide_eq_false_iff_not]; exact (toLt_f x y).1 hb)
        | (simp; done))

theorem rlE {l : List Sp} (P : List Int) (o : Int) (L : List (Ix l)) (x y : Ix l) (k : Nat) (hy : L[k]? = some y) (hk : k < L.length) (hL : L.length ≤ 1000000) (hb : toLt x y = false)  : CodeC Try.prog 0 57 rlB (rlS P o L x.n (k + 1)) (.exit 2) (rlS P o L x.n (k + 1)) := by
  exact CodeC.cast (by
    first
      | rfl) (rlE_0 P o L x y k hy hk hL hb )

theorem rlZ_0 {l : List Sp} (P : List Int) (o : Int) (L : List (Ix l)) (i : Nat)  : CodeC Try.prog 0 57 rlB (rlS P o L i 0) (Ex.exit (2 : Nat)) ({ env := [((0 : Nat), V.sl (10 : Nat) (List.map Sp.row l)), ((1 : Nat), V.sl (1 : Nat) (List.map bI P)), ((2 : Nat), I o), ((7 : Nat), V.own (900 : Nat)), ((8 : Nat), I (Int.ofNat i)), ((9 : Nat), I (0 : Int))], st := [((900 : Nat), Obj.arr (1 : Nat) (List.map Ix.row L))], ids := [(900 : Nat)] }) :=
  runP hmix [.reg 7 [(1, [], some false)]] ⟨[0, 1, 2, 7, 8, 9], [(900, 900)], []⟩ [
      false = false] (by kernel_rfl)
    (by simp [allP])

theorem rlZ {l : List Sp} (P : List Int) (o : Int) (L : List (Ix l)) (i : Nat)   : CodeC Try.prog 0 57 rlB (rlS P o L i 0) (.exit 2) (rlS P o L i 0) := by
  exact CodeC.cast (by
    first
      | rfl) (rlZ_0 P o L i  )

theorem rkG_0 {l : List Sp} (P : List Int) (o v : Int) (A B : List (Ix l)) (x : Ix l) (hv : P[x.n]? = some v) (hP : P.length = l.length) (hs : l.length ≤ 1000000) (hL : A.length + B.length ≤ 1000000) (hb : v = o) (hl : LoopC Try.prog 0 57 rlB (rlS P o (A ++ B) x.n (A.length + B.length)) (.exit 2) (rlS P o (A ++ B) x.n A.length)) : CodeC Try.prog 0 57 rkB (rkS P o (A ++ B) x.n) (Ex.normal) ({ env := [((0 : Nat), V.sl (10 : Nat) (List.map Sp.row l)), ((1 : Nat), V.sl (1 : Nat) (List.map bI P)), ((2 : Nat), I o), ((7 : Nat), V.own (900 : Nat)), ((8 : Nat), I (Int.ofNat (Ix.n x + (1 : Nat))))], st := [((900 : Nat), Obj.arr (1 : Nat) (List.map Ix.row (A ++ x :: B)))], ids := [(900 : Nat)] }) :=
  runP hmix [.reg 3 [(3, [], some true)], .reg 5 [(3, [.row [I v]], none), (5, [], some false)], .reg 6 [(1, [.be (I ((A.length + B.length : Nat) : Int))], none)], .cut ⟨[0, 1, 2, 7, 8, 9], [(900, 900)], []⟩ (.exit 2) (rlS P o (A ++ B) x.n A.length), .reg 9 [(2, [.idx 0, .be (.vw 900 1 0 A.length)], none), (3, [.beO (A.map Ix.row)], none), (6, [.beO ((A ++ [x]).map Ix.row)], none), (9, [.idx 0, .be (.vw 900 1 A.length (A.length + B.length))], none), (10, [.beO ((A ++ x :: B).map Ix.row)], none)], .reg 4 [(1, [.be (I ((x.n + 1 : Nat) : Int))], none)]] ⟨[0, 1, 2, 7, 8], [(1811000, 900)], []⟩ [
      decide (Int.ofNat (Ix.n x) < Int.ofNat (List.length (List.map Sp.row l))) = true,
      (0 : Int) ≤ Int.ofNat (Ix.n x),
      Int.ofNat (Ix.n x) < Int.ofNat (List.length (List.map bI P)),
      (List.map bI P)[Ix.n x]? = some [I v],
      (v != o) = false,
      Int.ofNat (List.length (List.map Ix.row (A ++ B))) = Int.ofNat (List.length A + List.length B),
      LoopC Try.prog (0 : Nat) (57 : Nat) rlB { env := [((0 : Nat), V.sl (10 : Nat) (List.map Sp.row l)), ((1 : Nat), V.sl (1 : Nat) (List.map bI P)), ((2 : Nat), I o), ((7 : Nat), V.own (900 : Nat)), ((8 : Nat), I (Int.ofNat (Ix.n x))), ((9 : Nat), I (Int.ofNat (List.length A + List.length B)))], st := [((900 : Nat), Obj.arr (1 : Nat) (List.map Ix.row (A ++ B)))], ids := [(900 : Nat)] } (Ex.exit (2 : Nat)) { env := [((0 : Nat), V.sl (10 : Nat) (List.map Sp.row l)), ((1 : Nat), V.sl (1 : Nat) (List.map bI P)), ((2 : Nat), I o), ((7 : Nat), V.own (900 : Nat)), ((8 : Nat), I (Int.ofNat (Ix.n x))), ((9 : Nat), I (Int.ofNat (List.length A)))], st := [((900 : Nat), Obj.arr (1 : Nat) (List.map Ix.row (A ++ B)))], ids := [(900 : Nat)] },
      (0 : Int) ≤ (0 : Int),
      (0 : Int) ≤ Int.ofNat (List.length A),
      List.length A ≤ List.length (List.map Ix.row (A ++ B)),
      (0 : Nat) = (0 : Nat),
      List.length A = List.length A,
      List.length A ≤ List.length (List.map Ix.row (A ++ B)),
      List.length (List.take (List.length A) (List.map Ix.row (A ++ B))) * (8 : Nat) ≤ (140737488355328 : Nat),
      List.take (List.length A) (List.map Ix.row (A ++ B)) = List.map Ix.row A,
      (List.length (List.map Ix.row A) + (1 : Nat)) * (8 : Nat) ≤ (140737488355328 : Nat),
      List.map Ix.row A ++ [[I (Int.ofNat (Ix.n x))]] = List.map Ix.row (A ++ [x]),
      (0 : Int) ≤ Int.ofNat (List.length A),
      Int.ofNat (List.length A) ≤ Int.ofNat (List.length (List.map Ix.row (A ++ B))),
      List.length (List.map Ix.row (A ++ B)) ≤ List.length (List.map Ix.row (A ++ B)),
      List.length A = List.length A,
      List.length (List.map Ix.row (A ++ B)) = List.length A + List.length B,
      List.length A + List.length B ≤ List.length (List.map Ix.row (A ++ B)),
      (List.length (List.map Ix.row (A ++ [x])) + List.length (List.take (List.length A + List.length B - List.length A) (List.drop (List.length A) (List.map Ix.row (A ++ B))))) * (8 : Nat) ≤ (140737488355328 : Nat),
      List.map Ix.row (A ++ [x]) ++ List.take (List.length A + List.length B - List.length A) (List.drop (List.length A) (List.map Ix.row (A ++ B))) = List.map Ix.row (A ++ x :: B),
      IntKind.wrap IntKind.i64 (Int.ofNat (Ix.n x + (1 : Nat))) = Int.ofNat (Ix.n x + (1 : Nat))] (by kernel_rfl)
    (by
      simp only [allP]
      and_intros <;> first
        | omega
        | exact hl
        | exact bI_at hv
        | exact ix_snoc A x
        | exact i64_small (by have := x.lt; simp; omega)
        | (have := x.lt; simp; omega)
        | exact tailAB A B x
        | (simp [Ix.row]; done))

theorem rkG {l : List Sp} (P : List Int) (o v : Int) (A B : List (Ix l)) (x : Ix l) (hv : P[x.n]? = some v) (hP : P.length = l.length) (hs : l.length ≤ 1000000) (hL : A.length + B.length ≤ 1000000) (hb : v = o) (hl : LoopC Try.prog 0 57 rlB (rlS P o (A ++ B) x.n (A.length + B.length)) (.exit 2) (rlS P o (A ++ B) x.n A.length))  : CodeC Try.prog 0 57 rkB (rkS P o (A ++ B) x.n) .normal (rkS P o (A ++ x :: B) (x.n + 1)) := by
  exact CodeC.cast (by
    first
      | rfl) (rkG_0 P o v A B x hv hP hs hL hb hl )

theorem rkN_0 {l : List Sp} (P : List Int) (o v : Int) (L : List (Ix l)) (x : Ix l) (hv : P[x.n]? = some v) (hP : P.length = l.length) (hs : l.length ≤ 1000000) (hb : v ≠ o) : CodeC Try.prog 0 57 rkB (rkS P o L x.n) (Ex.normal) ({ env := [((0 : Nat), V.sl (10 : Nat) (List.map Sp.row l)), ((1 : Nat), V.sl (1 : Nat) (List.map bI P)), ((2 : Nat), I o), ((7 : Nat), V.own (900 : Nat)), ((8 : Nat), I (Int.ofNat (Ix.n x + (1 : Nat))))], st := [((900 : Nat), Obj.arr (1 : Nat) (List.map Ix.row L))], ids := [(900 : Nat)] }) :=
  runP hmix [.reg 3 [(3, [], some true)], .reg 5 [(3, [.row [I v]], none), (5, [], some true)], .reg 4 [(1, [.be (I ((x.n + 1 : Nat) : Int))], none)]] ⟨[0, 1, 2, 7, 8], [(900, 900)], []⟩ [
      decide (Int.ofNat (Ix.n x) < Int.ofNat (List.length (List.map Sp.row l))) = true,
      (0 : Int) ≤ Int.ofNat (Ix.n x),
      Int.ofNat (Ix.n x) < Int.ofNat (List.length (List.map bI P)),
      (List.map bI P)[Ix.n x]? = some [I v],
      (v != o) = true,
      IntKind.wrap IntKind.i64 (Int.ofNat (Ix.n x + (1 : Nat))) = Int.ofNat (Ix.n x + (1 : Nat))] (by kernel_rfl)
    (by
      simp only [allP]
      and_intros <;> first
        | exact bI_at hv
        | exact i64_small (by have := x.lt; simp; omega)
        | (have := x.lt; simp; omega)
        | (simp; done))

theorem rkN {l : List Sp} (P : List Int) (o v : Int) (L : List (Ix l)) (x : Ix l) (hv : P[x.n]? = some v) (hP : P.length = l.length) (hs : l.length ≤ 1000000) (hb : v ≠ o)  : CodeC Try.prog 0 57 rkB (rkS P o L x.n) .normal (rkS P o L (x.n + 1)) := by
  exact CodeC.cast (by
    first
      | rfl) (rkN_0 P o v L x hv hP hs hb )

theorem rkE_0 {l : List Sp} (P : List Int) (o : Int) (L : List (Ix l)) (i : Nat) (h : l.length ≤ i) : CodeC Try.prog 0 57 rkB (rkS P o L i) (Ex.exit (0 : Nat)) ({ env := [((0 : Nat), V.sl (10 : Nat) (List.map Sp.row l)), ((1 : Nat), V.sl (1 : Nat) (List.map bI P)), ((2 : Nat), I o), ((7 : Nat), V.own (900 : Nat)), ((8 : Nat), I (Int.ofNat i))], st := [((900 : Nat), Obj.arr (1 : Nat) (List.map Ix.row L))], ids := [(900 : Nat)] }) :=
  runP hmix [.reg 3 [(3, [], some false)]] ⟨[0, 1, 2, 7, 8], [(900, 900)], []⟩ [
      decide (Int.ofNat i < Int.ofNat (List.length (List.map Sp.row l))) = false] (by kernel_rfl)
    (by
      simp only [allP]
      and_intros <;> first
        | (simp; omega))

theorem rkE {l : List Sp} (P : List Int) (o : Int) (L : List (Ix l)) (i : Nat) (h : l.length ≤ i)  : CodeC Try.prog 0 57 rkB (rkS P o L i) (.exit 0) (rkS P o L i) := by
  exact CodeC.cast (by
    first
      | rfl) (rkE_0 P o L i h )

theorem rk_f_0 {l : List Sp} (P : List Int) (o : Int) (L : List (Ix l)) (hl : LoopC Try.prog 0 57 rkB (rkS (l := l) P o [] 0) (.exit 0) (rkS P o L l.length)) : Contract Try.prog 26 [.sl 10 (l.map Sp.row), .sl 1 (P.map bI), I o] [] (V.own (0 : Nat)) ([some (Obj.arr (1 : Nat) (List.map Ix.row L))]) :=
  vcP hmix [.reg 1 [(0, [.idx 1], none)], .cut ⟨[0, 1, 2, 7, 8], [(201000, 900)], []⟩ (.exit 0) (rkS P o L l.length)] [900] [
      LoopC Try.prog (0 : Nat) (57 : Nat) rkB { env := [((0 : Nat), V.sl (10 : Nat) (List.map Sp.row l)), ((1 : Nat), V.sl (1 : Nat) (List.map bI P)), ((2 : Nat), I o), ((7 : Nat), V.own (900 : Nat)), ((8 : Nat), I (0 : Int))], st := [((900 : Nat), Obj.arr (1 : Nat) [])], ids := [(900 : Nat)] } (Ex.exit (0 : Nat)) { env := [((0 : Nat), V.sl (10 : Nat) (List.map Sp.row l)), ((1 : Nat), V.sl (1 : Nat) (List.map bI P)), ((2 : Nat), I o), ((7 : Nat), V.own (900 : Nat)), ((8 : Nat), I (Int.ofNat (List.length l)))], st := [((900 : Nat), Obj.arr (1 : Nat) (List.map Ix.row L))], ids := [(900 : Nat)] }] (by kernel_rfl)
    (by
      simp only [allP]
      and_intros <;> first
        | exact hl)

theorem rk_f {l : List Sp} (P : List Int) (o : Int) (L : List (Ix l)) (hl : LoopC Try.prog 0 57 rkB (rkS (l := l) P o [] 0) (.exit 0) (rkS P o L l.length)) : Contract Try.prog 26 [.sl 10 (l.map Sp.row), .sl 1 (P.map bI), I o] [] (.own 0) [some (.arr 1 (L.map Ix.row))] := by
  exact Contract.cast (by
    first
      | rfl) (by
    first
      | rfl) (rk_f_0 P o L hl )

theorem rlL {l : List Sp} (P : List Int) (o : Int) (x : Ix l) : ∀ (L1 R : List (Ix l)), Srt (toLt (sp := l)) (L1 ++ R) → (L1 ++ R).length ≤ 1000000 → (∀ y ∈ R, toLt x y = true) →
    ∃ A B, L1 ++ R = A ++ B ∧ (∀ y ∈ A, toLt x y = false) ∧ (∀ y ∈ B, toLt x y = true) ∧ LoopC Try.prog 0 57 rlB (rlS P o (L1 ++ R) x.n L1.length) (.exit 2) (rlS P o (L1 ++ R) x.n A.length) := by
  intro L1
  refine snoc_ind (P := fun L1 => ∀ R : List (Ix l), Srt (toLt (sp := l)) (L1 ++ R) → (L1 ++ R).length ≤ 1000000 → (∀ y ∈ R, toLt x y = true) →
    ∃ A B, L1 ++ R = A ++ B ∧ (∀ y ∈ A, toLt x y = false) ∧ (∀ y ∈ B, toLt x y = true) ∧ LoopC Try.prog 0 57 rlB (rlS P o (L1 ++ R) x.n L1.length) (.exit 2) (rlS P o (L1 ++ R) x.n A.length)) ?_ ?_ L1
  · intro R hS hl hR
    exact ⟨[], R, rfl, by simp, hR, LoopC.last (rlZ _ _ _ _) (by simp)⟩
  · intro L1 y ih R hS hl hR
    have e : L1 ++ [y] ++ R = L1 ++ (y :: R) := by simp
    have hy : (L1 ++ (y :: R))[L1.length]? = some y := by simp
    have hk : L1.length < (L1 ++ (y :: R)).length := by simp
    rw [e] at hS hl ⊢
    rw [show (L1 ++ [y]).length = L1.length + 1 by simp]
    cases hb : toLt x y with
    | true =>
      obtain ⟨A, B, h1, h2, h3, h4⟩ := ih (y :: R) hS hl (fun z hz => by
        rcases List.mem_cons.1 hz with rfl | hz
        · exact hb
        · exact hR z hz)
      exact ⟨A, B, h1, h2, h3, LoopC.next (rlG P o _ x y L1.length hy hk hl hb) h4⟩
    | false =>
      refine ⟨L1 ++ [y], R, by simp, fun z hz => ?_, hR, ?_⟩
      · rcases List.mem_append.1 hz with hz | hz
        · have := (List.pairwise_append.1 hS).2.2 z hz y (by simp)
          rw [toLt_f] at this hb ⊢; omega
        · simp only [List.mem_singleton] at hz; subst hz; exact hb
      · rw [show (L1 ++ [y]).length = L1.length + 1 by simp]
        exact LoopC.last (rlE P o _ x y L1.length hy hk hl hb) (by simp)
theorem kidI_succ (l : List Sp) (P : List Int) (o : Int) (x : Ix l) (v : Int) (hv : P[x.n]? = some v) : kidI l P o (x.n + 1) = kidI l P o x.n ++ (bif v == o then [x] else []) := by
  unfold kidI
  rw [List.take_add_one, ixs_at l x.n x.lt, List.filter_append]
  congr 1
  have e : (⟨x.n, x.lt⟩ : Ix l) = x := Ix.ext rfl
  have : P.getD x.n 0 = v := by rw [List.getD_eq_getElem?_getD, hv]; rfl
  simp only [Option.toList_some, e, List.filter_cons, this, List.filter_nil]
  cases v == o <;> rfl
theorem kidI_len (l : List Sp) (P : List Int) (o : Int) (i : Nat) : (kidI l P o i).length ≤ l.length := by
  unfold kidI
  refine Nat.le_trans (List.length_filter_le _ _) ?_
  rw [List.length_take, ixs_len]; omega
theorem cRKids (l : List Sp) (hs : l.length ≤ 1000000) (P : List Int) (hP : P.length = l.length) (o : Int) : Contract Try.prog 26 [.sl 10 (l.map Sp.row), .sl 1 (P.map bI), I o] [] (.own 0) [some (.arr 1 ((srt (toLt (sp := l)) (kidI l P o l.length)).map Ix.row))] := by
  refine rk_f P o _ ?_
  have key : ∀ m i, i + m = l.length → LoopC Try.prog 0 57 rkB (rkS P o (srt (toLt (sp := l)) (kidI l P o i)) i) (.exit 0) (rkS P o (srt (toLt (sp := l)) (kidI l P o l.length)) l.length) := by
    intro m
    induction m with
    | zero =>
      intro i h
      have : i = l.length := by omega
      subst this
      exact LoopC.last (rkE P o _ _ (Nat.le_refl _)) (by simp)
    | succ m ih =>
      intro i h
      have hi : i < l.length := by omega
      have hv := List.getElem?_eq_getElem (show i < P.length by omega)
      have hlen := kidI_len l P o i
      have ih' := ih (i + 1) (by omega)
      have hsu := kidI_succ l P o ⟨i, hi⟩ _ hv
      simp only [Ix.n] at hsu
      by_cases hb : P[i] = o
      · obtain ⟨A, B, h1, h2, h3, h4⟩ := rlL P o (⟨i, hi⟩ : Ix l) (srt (toLt (sp := l)) (kidI l P o i)) [] (by rw [List.append_nil]; exact srt_srt toOrd _) (by rw [List.append_nil, srt_len]; omega) (by simp)
        rw [List.append_nil] at h1 h4
        have hAB : A.length + B.length ≤ 1000000 := by
          have := congrArg List.length h1
          rw [srt_len, List.length_append] at this; omega
        have hl2 : (srt (toLt (sp := l)) (kidI l P o i)).length = A.length + B.length := by rw [h1, List.length_append]
        rw [hl2, h1] at h4
        have hr := rkG P o _ A B (⟨i, hi⟩ : Ix l) hv hP hs hAB hb h4
        have e : srt (toLt (sp := l)) (kidI l P o (i + 1)) = A ++ (⟨i, hi⟩ : Ix l) :: B := by
          have hb' : (P[i] == o) = true := by simpa using hb
          rw [hsu, hb', cond_true, srt_snoc, h1]
          exact mrg_one toOrd A _ B h2 h3
        rw [← e, ← h1] at hr
        exact LoopC.next hr ih'
      · have hr := rkN P o _ (srt (toLt (sp := l)) (kidI l P o i)) (⟨i, hi⟩ : Ix l) hv hP hs hb
        have e : kidI l P o (i + 1) = kidI l P o i := by
          have hb' : (P[i] == o) = false := by simpa using hb
          rw [hsu, hb', cond_false, List.append_nil]
        rw [e] at ih'
        exact LoopC.next hr ih'
  have := key l.length 0 (by omega)
  simpa [kidI, srt_nil] using this

end Go.Proofs.Ythhggnnfiohnpaa

/- the reference's below. -/
namespace Go.Proofs.Ythhggnnfiohnpaa
open E
set_option maxRecDepth 100000
set_option linter.unusedVariables false
set_option linter.unusedSimpArgs false

def blS {l : List Sp} (P : List Int) (K : List (Ix l)) (d : Int) (O : List (Ix l)) (D : List Int) (i : Nat) : SL := ⟨[(0, .sl 10 (l.map Sp.row)), (1, .sl 1 (P.map bI)), (3, I d), (10, .own 900), (11, .own 901), (12, .sl 1 (K.map Ix.row)), (13, I (i : Int))], [(900, .arr 1 (O.map Ix.row)), (901, .arr 1 (D.map bI))], [900, 901]⟩
noncomputable def blB : Code := codeAt Try.prog 23 [true, true, true, true, false, true, false, false]

theorem flatX {l : List Sp} (L : List (Ix l)) : FlatRows (L.map Ix.row) := by
  intro r hr
  obtain ⟨v, _, rfl⟩ := List.mem_map.1 hr
  rfl
theorem blG_0 {l : List Sp} (P : List Int) (K : List (Ix l)) (d : Int) (O X : List (Ix l)) (D Y : List Int) (x : Ix l) (i : Nat) (hx : K[i]? = some x) (hi : i < K.length) (hK : K.length ≤ 1000000) (hO : O.length + X.length ≤ 1000000) (hD : D.length + Y.length ≤ 1000000) (hc : Contract Try.prog 23 [.sl 10 (l.map Sp.row), .sl 1 (P.map bI), I (x.n : Int), I d] [] (.tup [.own 0, .own 1]) [some (.arr 1 (X.map Ix.row)), some (.arr 1 (Y.map bI))]) : CodeC Try.prog 0 57 blB (blS P K d O D i) (Ex.normal) ({ env := [((0 : Nat), V.sl (10 : Nat) (List.map Sp.row l)), ((1 : Nat), V.sl (1 : Nat) (List.map bI P)), ((3 : Nat), I d), ((10 : Nat), V.own (900 : Nat)), ((11 : Nat), V.own (901 : Nat)), ((12 : Nat), V.sl (1 : Nat) (List.map Ix.row K)), ((13 : Nat), I (Int.ofNat (i + (1 : Nat))))], st := [((900 : Nat), Obj.arr (1 : Nat) (List.map Ix.row (O ++ X))), ((901 : Nat), Obj.arr (1 : Nat) (List.map bI (D ++ Y)))], ids := [(900 : Nat), (901 : Nat)] }) :=
  runP hmix [.reg 8 [(3, [], some true)], .reg 10 [(5, [.row [I (x.n : Int)]], none), (7, [.call [] [] (.tup [.own 0, .own 1]) [some (.arr 1 (X.map Ix.row)), some (.arr 1 (Y.map bI))]], none)], .reg 11 [(2, [.beO ((O ++ X).map Ix.row)], none)], .reg 12 [(2, [.beO ((D ++ Y).map bI)], none)], .reg 9 [(1, [.be (I ((i + 1 : Nat) : Int))], none)]] ⟨[0, 1, 3, 10, 11, 12, 13], [(2203000, 900), (2403000, 901)], []⟩ [
      decide (Int.ofNat i < Int.ofNat (List.length (List.map Ix.row K))) = true,
      (0 : Int) ≤ Int.ofNat i,
      Int.ofNat i < Int.ofNat (List.length (List.map Ix.row K)),
      (List.map Ix.row K)[i]? = some [I (Int.ofNat (Ix.n x))],
      Contract Try.prog (23 : Nat) [V.sl (10 : Nat) (List.map Sp.row l), V.sl (1 : Nat) (List.map bI P), I (Int.ofNat (Ix.n x)), I d] [] (V.tup [V.own (0 : Nat), V.own (1 : Nat)]) [some (Obj.arr (1 : Nat) (List.map Ix.row X)), some (Obj.arr (1 : Nat) (List.map bI Y))],
      (List.length (List.map Ix.row O) + List.length (List.map Ix.row X)) * (8 : Nat) ≤ (140737488355328 : Nat),
      List.map Ix.row O ++ List.map Ix.row X = List.map Ix.row (O ++ X),
      (List.length (List.map bI D) + List.length (List.map bI Y)) * (8 : Nat) ≤ (140737488355328 : Nat),
      List.map bI D ++ List.map bI Y = List.map bI (D ++ Y),
      IntKind.wrap IntKind.i64 (Int.ofNat (i + (1 : Nat))) = Int.ofNat (i + (1 : Nat))] (by kernel_rfl)
    (by
      simp only [allP]
      and_intros <;> first
        | omega
        | exact ix_at hx
        | exact i64_small (by simp; omega)
        | (simp; omega)
        | (simp; done))

theorem blG {l : List Sp} (P : List Int) (K : List (Ix l)) (d : Int) (O X : List (Ix l)) (D Y : List Int) (x : Ix l) (i : Nat) (hx : K[i]? = some x) (hi : i < K.length) (hK : K.length ≤ 1000000) (hO : O.length + X.length ≤ 1000000) (hD : D.length + Y.length ≤ 1000000) (hc : Contract Try.prog 23 [.sl 10 (l.map Sp.row), .sl 1 (P.map bI), I (x.n : Int), I d] [] (.tup [.own 0, .own 1]) [some (.arr 1 (X.map Ix.row)), some (.arr 1 (Y.map bI))])  : CodeC Try.prog 0 57 blB (blS P K d O D i) .normal (blS P K d (O ++ X) (D ++ Y) (i + 1)) := by
  exact CodeC.cast (by
    first
      | rfl) (blG_0 P K d O X D Y x i hx hi hK hO hD hc )

theorem blE_0 {l : List Sp} (P : List Int) (K : List (Ix l)) (d : Int) (O : List (Ix l)) (D : List Int) (i : Nat) (h : K.length ≤ i) : CodeC Try.prog 0 57 blB (blS P K d O D i) (Ex.exit (0 : Nat)) ({ env := [((0 : Nat), V.sl (10 : Nat) (List.map Sp.row l)), ((1 : Nat), V.sl (1 : Nat) (List.map bI P)), ((3 : Nat), I d), ((10 : Nat), V.own (900 : Nat)), ((11 : Nat), V.own (901 : Nat)), ((12 : Nat), V.sl (1 : Nat) (List.map Ix.row K)), ((13 : Nat), I (Int.ofNat i))], st := [((900 : Nat), Obj.arr (1 : Nat) (List.map Ix.row O)), ((901 : Nat), Obj.arr (1 : Nat) (List.map bI D))], ids := [(900 : Nat), (901 : Nat)] }) :=
  runP hmix [.reg 8 [(3, [], some false)]] ⟨[0, 1, 3, 10, 11, 12, 13], [(900, 900), (901, 901)], []⟩ [
      decide (Int.ofNat i < Int.ofNat (List.length (List.map Ix.row K))) = false] (by kernel_rfl)
    (by
      simp only [allP]
      and_intros <;> first
        | (simp; omega))

theorem blE {l : List Sp} (P : List Int) (K : List (Ix l)) (d : Int) (O : List (Ix l)) (D : List Int) (i : Nat) (h : K.length ≤ i)  : CodeC Try.prog 0 57 blB (blS P K d O D i) (.exit 0) (blS P K d O D i) := by
  exact CodeC.cast (by
    first
      | rfl) (blE_0 P K d O D i h )

theorem bl_n_0 {l : List Sp} (P : List Int) (K O : List (Ix l)) (D : List Int) (d : Int) (x : Ix l) (hd : 0 ≤ d ∧ d ≤ 1000000) (hk : Contract Try.prog 26 [.sl 10 (l.map Sp.row), .sl 1 (P.map bI), I (x.n : Int)] [] (.own 0) [some (.arr 1 (K.map Ix.row))]) (hl : LoopC Try.prog 0 57 blB (blS P K (d + 1) [x] [d] 0) (.exit 0) (blS P K (d + 1) O D K.length)) : Contract Try.prog 23 [.sl 10 (l.map Sp.row), .sl 1 (P.map bI), I (x.n : Int), I d] [] (V.tup [V.own (0 : Nat), V.own (1 : Nat)]) ([some (Obj.arr (1 : Nat) (List.map Ix.row O)), some (Obj.arr (1 : Nat) (List.map bI D))]) :=
  vcP hmix [.reg 1 [(0, [.idx 1], none), (1, [.idx 1], none)], .reg 2 [(1, [], some true)], .reg 3 [(3, [.beO (([x] : List (Ix l)).map Ix.row)], none)], .reg 4 [(3, [.beO (([d] : List Int).map bI)], none)], .reg 5 [(1, [.be (I (d + 1))], none)], .reg 6 [(3, [.call [] [] (.own 0) [some (.arr 1 (K.map Ix.row))]], none), (4, [.idx 1], none)], .cut ⟨[0, 1, 3, 10, 11, 12, 13], [(604000, 900), (804000, 901)], []⟩ (.exit 0) (blS P K (d + 1) O D K.length)] [900, 901] [
      true = true,
      (8 : Nat) ≤ (140737488355328 : Nat),
      [[I (Int.ofNat (Ix.n x))]] = [Ix.row x],
      (8 : Nat) ≤ (140737488355328 : Nat),
      [[I d]] = [bI d],
      IntKind.wrap IntKind.i64 (d + (1 : Int)) = d + (1 : Int),
      Contract Try.prog (26 : Nat) [V.sl (10 : Nat) (List.map Sp.row l), V.sl (1 : Nat) (List.map bI P), I (Int.ofNat (Ix.n x))] [] (V.own (0 : Nat)) [some (Obj.arr (1 : Nat) (List.map Ix.row K))],
      LoopC Try.prog (0 : Nat) (57 : Nat) blB { env := [((0 : Nat), V.sl (10 : Nat) (List.map Sp.row l)), ((1 : Nat), V.sl (1 : Nat) (List.map bI P)), ((3 : Nat), I (d + (1 : Int))), ((10 : Nat), V.own (900 : Nat)), ((11 : Nat), V.own (901 : Nat)), ((12 : Nat), V.sl (1 : Nat) (List.map Ix.row K)), ((13 : Nat), I (0 : Int))], st := [((900 : Nat), Obj.arr (1 : Nat) [Ix.row x]), ((901 : Nat), Obj.arr (1 : Nat) [bI d])], ids := [(900 : Nat), (901 : Nat)] } (Ex.exit (0 : Nat)) { env := [((0 : Nat), V.sl (10 : Nat) (List.map Sp.row l)), ((1 : Nat), V.sl (1 : Nat) (List.map bI P)), ((3 : Nat), I (d + (1 : Int))), ((10 : Nat), V.own (900 : Nat)), ((11 : Nat), V.own (901 : Nat)), ((12 : Nat), V.sl (1 : Nat) (List.map Ix.row K)), ((13 : Nat), I (Int.ofNat (List.length K)))], st := [((900 : Nat), Obj.arr (1 : Nat) (List.map Ix.row O)), ((901 : Nat), Obj.arr (1 : Nat) (List.map bI D))], ids := [(900 : Nat), (901 : Nat)] }] (by kernel_rfl)
    (by
      simp only [allP]
      and_intros <;> first
        | omega
        | exact hl
        | exact i64_small (by omega)
        | (simp [Ix.row]; done)
        | (simp [bI]; done))

theorem bl_n {l : List Sp} (P : List Int) (K O : List (Ix l)) (D : List Int) (d : Int) (x : Ix l) (hd : 0 ≤ d ∧ d ≤ 1000000) (hk : Contract Try.prog 26 [.sl 10 (l.map Sp.row), .sl 1 (P.map bI), I (x.n : Int)] [] (.own 0) [some (.arr 1 (K.map Ix.row))]) (hl : LoopC Try.prog 0 57 blB (blS P K (d + 1) [x] [d] 0) (.exit 0) (blS P K (d + 1) O D K.length)) : Contract Try.prog 23 [.sl 10 (l.map Sp.row), .sl 1 (P.map bI), I (x.n : Int), I d] [] (.tup [.own 0, .own 1]) [some (.arr 1 (O.map Ix.row)), some (.arr 1 (D.map bI))] := by
  exact Contract.cast (by
    first
      | rfl) (by
    first
      | rfl) (bl_n_0 P K O D d x hd hk hl )

theorem bl_r_0 {l : List Sp} (P : List Int) (K O : List (Ix l)) (D : List Int) (d : Int) (hk : Contract Try.prog 26 [.sl 10 (l.map Sp.row), .sl 1 (P.map bI), I (-1)] [] (.own 0) [some (.arr 1 (K.map Ix.row))]) (hl : LoopC Try.prog 0 57 blB (blS P K d [] [] 0) (.exit 0) (blS P K d O D K.length)) : Contract Try.prog 23 [.sl 10 (l.map Sp.row), .sl 1 (P.map bI), I (-1), I d] [] (V.tup [V.own (0 : Nat), V.own (1 : Nat)]) ([some (Obj.arr (1 : Nat) (List.map Ix.row O)), some (Obj.arr (1 : Nat) (List.map bI D))]) :=
  vcP hmix [.reg 1 [(0, [.idx 1], none), (1, [.idx 1], none)], .reg 2 [(1, [], some false)], .reg 6 [(3, [.call [] [] (.own 0) [some (.arr 1 (K.map Ix.row))]], none), (4, [.idx 1], none)], .cut ⟨[0, 1, 3, 10, 11, 12, 13], [(201000, 900), (202000, 901)], []⟩ (.exit 0) (blS P K d O D K.length)] [900, 901] [
      false = false,
      Contract Try.prog (26 : Nat) [V.sl (10 : Nat) (List.map Sp.row l), V.sl (1 : Nat) (List.map bI P), I (-1 : Int)] [] (V.own (0 : Nat)) [some (Obj.arr (1 : Nat) (List.map Ix.row K))],
      LoopC Try.prog (0 : Nat) (57 : Nat) blB { env := [((0 : Nat), V.sl (10 : Nat) (List.map Sp.row l)), ((1 : Nat), V.sl (1 : Nat) (List.map bI P)), ((3 : Nat), I d), ((10 : Nat), V.own (900 : Nat)), ((11 : Nat), V.own (901 : Nat)), ((12 : Nat), V.sl (1 : Nat) (List.map Ix.row K)), ((13 : Nat), I (0 : Int))], st := [((900 : Nat), Obj.arr (1 : Nat) []), ((901 : Nat), Obj.arr (1 : Nat) [])], ids := [(900 : Nat), (901 : Nat)] } (Ex.exit (0 : Nat)) { env := [((0 : Nat), V.sl (10 : Nat) (List.map Sp.row l)), ((1 : Nat), V.sl (1 : Nat) (List.map bI P)), ((3 : Nat), I d), ((10 : Nat), V.own (900 : Nat)), ((11 : Nat), V.own (901 : Nat)), ((12 : Nat), V.sl (1 : Nat) (List.map Ix.row K)), ((13 : Nat), I (Int.ofNat (List.length K)))], st := [((900 : Nat), Obj.arr (1 : Nat) (List.map Ix.row O)), ((901 : Nat), Obj.arr (1 : Nat) (List.map bI D))], ids := [(900 : Nat), (901 : Nat)] }] (by kernel_rfl)
    (by
      simp only [allP]
      and_intros <;> first
        | omega
        | exact hl
        | (simp; done))

theorem bl_r {l : List Sp} (P : List Int) (K O : List (Ix l)) (D : List Int) (d : Int) (hk : Contract Try.prog 26 [.sl 10 (l.map Sp.row), .sl 1 (P.map bI), I (-1)] [] (.own 0) [some (.arr 1 (K.map Ix.row))]) (hl : LoopC Try.prog 0 57 blB (blS P K d [] [] 0) (.exit 0) (blS P K d O D K.length)) : Contract Try.prog 23 [.sl 10 (l.map Sp.row), .sl 1 (P.map bI), I (-1), I d] [] (.tup [.own 0, .own 1]) [some (.arr 1 (O.map Ix.row)), some (.arr 1 (D.map bI))] := by
  exact Contract.cast (by
    first
      | rfl) (by
    first
      | rfl) (bl_r_0 P K O D d hk hl )

theorem kid_n (l : List Sp) (q : Nat) (hq : q < l.length) : srt (toLt (sp := l)) (kidI l (parF l) (q : Int) l.length) = kidX l (parF l) q := by
  unfold kidX kidI kidR
  congr 1
  refine List.filter_congr fun x _ => ?_
  have hlt : x.n < (parF l).length := by rw [parF_len]; exact x.lt
  have hv := List.getElem?_eq_getElem hlt
  rw [List.getD_eq_getElem?_getD, hv, Option.getD_some]
  rcases parF_inR l _ _ hv with h | ⟨j, hj, h⟩
  · rw [h]
    have h1 : ((-1 : Int) == (q : Int)) = false := by simp <;> omega
    have h2 : (slotN l.length (-1) == q) = false := by
      show (l.length == q) = false
      simp; omega
    rw [h1, h2]
  · rw [h]
    have hn : (((j : Nat) : Int) == -1) = false := by simp
    have h2 : slotN l.length (j : Int) = j := by simp [slotN, hn]
    rw [h2]
    exact decide_eq_decide.2 (by omega)
theorem kid_r (l : List Sp) : srt (toLt (sp := l)) (kidI l (parF l) (-1) l.length) = kidX l (parF l) l.length := by
  unfold kidX kidI kidR
  congr 1
  refine List.filter_congr fun x _ => ?_
  have hlt : x.n < (parF l).length := by rw [parF_len]; exact x.lt
  have hv := List.getElem?_eq_getElem hlt
  rw [List.getD_eq_getElem?_getD, hv, Option.getD_some]
  rcases parF_inR l _ _ hv with h | ⟨j, hj, h⟩
  · rw [h]
    have h2 : slotN l.length (-1) = l.length := rfl
    rw [h2]; simp
  · rw [h]
    have hn : (((j : Nat) : Int) == -1) = false := by simp
    have h2 : slotN l.length (j : Int) = j := by simp [slotN, hn]
    rw [h2, hn]
    rw [parF_len] at hj
    have : (j == l.length) = false := by simp; omega
    rw [this]
theorem pr_app {l : List Sp} (kd : Nat → List (Ix l)) (m : Nat) (d : Int) (A B : List (Ix l)) : prD kd m d (A ++ B) = prD kd m d A ++ prD kd m d B := by
  cases m with
  | zero => rfl
  | succ m => simp [prD, List.flatMap_append]
theorem blL {l : List Sp} (P : List Int) (kd : Nat → List (Ix l)) (m : Nat) (d : Int) (K : List (Ix l)) (O : List (Ix l)) (D : List Int) (hK : K.length ≤ 1000000) (hO : O.length + (prD kd m d K).length ≤ 1000000) (hD : D.length + (prD kd m d K).length ≤ 1000000)
    (hc : ∀ x ∈ K, Contract Try.prog 23 [.sl 10 (l.map Sp.row), .sl 1 (P.map bI), I (x.n : Int), I d] [] (.tup [.own 0, .own 1]) [some (.arr 1 (((prD kd m d [x]).map (·.1)).map Ix.row)), some (.arr 1 (((prD kd m d [x]).map (·.2)).map bI))]) :
    LoopC Try.prog 0 57 blB (blS P K d O D 0) (.exit 0) (blS P K d (O ++ (prD kd m d K).map (·.1)) (D ++ (prD kd m d K).map (·.2)) K.length) := by
  have key : ∀ (B A : List (Ix l)), K = A ++ B → LoopC Try.prog 0 57 blB (blS P K d (O ++ (prD kd m d A).map (·.1)) (D ++ (prD kd m d A).map (·.2)) A.length) (.exit 0) (blS P K d (O ++ (prD kd m d K).map (·.1)) (D ++ (prD kd m d K).map (·.2)) K.length) := by
    intro B
    induction B with
    | nil =>
      intro A hA
      rw [List.append_nil] at hA
      subst hA
      exact LoopC.last (blE _ _ _ _ _ _ (Nat.le_refl _)) (by simp)
    | cons x B ih =>
      intro A hA
      have hxK : x ∈ K := by rw [hA]; simp
      have hx : K[A.length]? = some x := by rw [hA]; simp
      have htot : (prD kd m d A).length + (prD kd m d [x]).length ≤ (prD kd m d K).length := by
        have e : K = A ++ [x] ++ B := by rw [hA]; simp
        rw [e, pr_app, pr_app]; simp only [List.length_append]; omega
      have hr := blG P K d (O ++ (prD kd m d A).map (·.1)) _ (D ++ (prD kd m d A).map (·.2)) _ x A.length hx (List.getElem?_eq_some_iff.1 hx).1 hK (by simp only [List.length_append, List.length_map]; omega) (by simp only [List.length_append, List.length_map]; omega) (hc x hxK)
      have e1 : O ++ (prD kd m d A).map (·.1) ++ (prD kd m d [x]).map (·.1) = O ++ (prD kd m d (A ++ [x])).map (·.1) := by rw [pr_app]; simp
      have e2 : D ++ (prD kd m d A).map (·.2) ++ (prD kd m d [x]).map (·.2) = D ++ (prD kd m d (A ++ [x])).map (·.2) := by rw [pr_app]; simp
      rw [e1, e2] at hr
      have ih' := ih (A ++ [x]) (by rw [hA]; simp)
      rw [List.length_append, List.length_singleton] at ih'
      exact LoopC.next hr ih'
  have h0 : prD kd m d ([] : List (Ix l)) = [] := by cases m <;> rfl
  have := key K [] rfl
  simpa [h0] using this
theorem cBelowN {l : List Sp} (hs : l.length ≤ 500000) : ∀ (m t : Nat) (e : Int) (x : Ix l), t + m = l.length → Dp (parF l) t x.n → 0 ≤ e ∧ e + (m : Int) ≤ 1000000 → (prD (kidX l (parF l)) m e [x]).length ≤ 1000000 →
    Contract Try.prog 23 [.sl 10 (l.map Sp.row), .sl 1 ((parF l).map bI), I (x.n : Int), I e] [] (.tup [.own 0, .own 1]) [some (.arr 1 (((prD (kidX l (parF l)) m e [x]).map (·.1)).map Ix.row)), some (.arr 1 (((prD (kidX l (parF l)) m e [x]).map (·.2)).map bI))]
  | 0, t, e, x, ht, hx, _, _ => by
    exfalso
    obtain ⟨s, h2, h3⟩ := acyc l x.n x.lt
    have := hx.uniq h3
    omega
  | m + 1, t, e, x, ht, hx, he, htot => by
    have hk := fun z (hz : z ∈ kidX l (parF l) x.n) => kids_deep (parF_inR l) (parF_len l) hx hz
    have e0 : prD (kidX l (parF l)) (m + 1) e [x] = (x, e) :: prD (kidX l (parF l)) m (e + 1) (kidX l (parF l) x.n) := by simp [prD]
    rw [e0] at htot ⊢
    simp only [List.length_cons] at htot
    have hkc := cRKids l (by omega) (parF l) (parF_len l) (x.n : Int)
    rw [kid_n l x.n x.lt] at hkc
    refine bl_n (parF l) (kidX l (parF l) x.n) _ _ e x (by omega) hkc ?_
    have := blL (parF l) (kidX l (parF l)) m (e + 1) (kidX l (parF l) x.n) [x] [e] (by have := kidX_len l (parF l) x.n; omega) (by simp only [List.length_singleton]; omega) (by simp only [List.length_singleton]; omega)
      (fun z hz => cBelowN hs m (t + 1) (e + 1) z (by omega) (hk z hz) (by omega) (by
        obtain ⟨A, B, hAB⟩ := List.append_of_mem hz
        have e1 : (prD (kidX l (parF l)) m (e + 1) (kidX l (parF l) x.n)).length = (prD (kidX l (parF l)) m (e + 1) A).length + ((prD (kidX l (parF l)) m (e + 1) [z]).length + (prD (kidX l (parF l)) m (e + 1) B).length) := by
          rw [hAB, pr_app, show z :: B = [z] ++ B from rfl, pr_app]; simp
        omega))
    simpa using this
/-- All below none. -/
theorem cBelowR {l : List Sp} (hs : l.length ≤ 500000) : Contract Try.prog 23 [.sl 10 (l.map Sp.row), .sl 1 ((parF l).map bI), I (-1), I 0] [] (.tup [.own 0, .own 1]) [some (.arr 1 ((ordX l).map Ix.row)), some (.arr 1 (((ordP l).map (·.2)).map bI))] := by
  have hkc := cRKids l (by omega) (parF l) (parF_len l) (-1)
  rw [kid_r l] at hkc
  have hlen := ordP_len l
  refine bl_r (parF l) (kidX l (parF l) l.length) _ _ 0 hkc ?_
  unfold ordP at hlen
  have := blL (parF l) (kidX l (parF l)) l.length 0 (kidX l (parF l) l.length) [] [] (by have := kidX_len l (parF l) l.length; omega) (by simp only [List.length_nil]; omega) (by simp only [List.length_nil]; omega)
    (fun z hz => cBelowN hs l.length 0 0 z (by omega) (roots_deep (parF_inR l) (parF_len l) hz) (by omega) (by
      obtain ⟨A, B, hAB⟩ := List.append_of_mem hz
      have e1 : (prD (kidX l (parF l)) l.length 0 (kidX l (parF l) l.length)).length = (prD (kidX l (parF l)) l.length 0 A).length + ((prD (kidX l (parF l)) l.length 0 [z]).length + (prD (kidX l (parF l)) l.length 0 B).length) := by
        conv => lhs; rw [hAB, pr_app, show z :: B = [z] ++ B from rfl, pr_app]
        simp
      omega))
  simpa [ordX, ordP] using this

end Go.Proofs.Ythhggnnfiohnpaa

/- the reference's order, depths, sizes. -/
namespace Go.Proofs.Ythhggnnfiohnpaa
open E
set_option maxRecDepth 100000
set_option linter.unusedVariables false
set_option linter.unusedSimpArgs false

def rdS {l : List Sp} (Q : List (Ix l × Int)) (Z : List Int) (i : Nat) : SL := ⟨[(3, .own 900), (4, .own 901), (5, .own 902), (6, I (i : Int))], [(900, .arr 1 ((Q.map (·.1)).map Ix.row)), (901, .arr 1 ((Q.map (·.2)).map bI)), (902, .arr 1 (Z.map bI))], [900, 901, 902]⟩
def rzS (l : List Sp) (P Z : List Int) (i : Nat) : SL := ⟨[(0, .sl 10 (l.map Sp.row)), (3, .own 900), (4, .own 901), (5, I (i : Int))], [(900, .arr 1 (P.map bI)), (901, .arr 1 (Z.map bI))], [900, 901]⟩
noncomputable def rdB : Code := codeAt Try.prog 15 [true, true, true, false, true, false, false]

noncomputable def rzB : Code := codeAt Try.prog 17 [true, true, true, false, true, false, false]

theorem cRPar' (l : List Sp) (hs : l.length ≤ 1000000) : Contract Try.prog 12 [.sl 10 (l.map Sp.row)] [] (.own 0) [some (.arr 1 ((parF l).map bI))] := by
  have := cRPar l hs
  rwa [rparF_eq] at this
theorem cROrder_0 (l : List Sp) (hs : l.length ≤ 500000) : Contract Try.prog 14 [.sl 10 (l.map Sp.row)] [] (V.own (0 : Nat)) ([some (Obj.arr (1 : Nat) (List.map Ix.row (ordX l)))]) :=
  vcP hmix [.reg 1 [(2, [.call [] [] (.own 0) [some (.arr 1 ((parF l).map bI))]], none), (3, [.call [] [] (.tup [.own 0, .own 1]) [some (.arr 1 ((ordX l).map Ix.row)), some (.arr 1 (((ordP l).map (·.2)).map bI))]], none)]] [204001] [
      Contract Try.prog (12 : Nat) [V.sl (10 : Nat) (List.map Sp.row l)] [] (V.own (0 : Nat)) [some (Obj.arr (1 : Nat) (List.map bI (parF l)))],
      Contract Try.prog (23 : Nat) [V.sl (10 : Nat) (List.map Sp.row l), V.sl (1 : Nat) (List.map bI (parF l)), I (-1 : Int), I (0 : Int)] [] (V.tup [V.own (0 : Nat), V.own (1 : Nat)]) [some (Obj.arr (1 : Nat) (List.map Ix.row (ordX l))), some (Obj.arr (1 : Nat) (List.map bI (List.map (fun x0 => Prod.snd x0) (ordP l))))],
      true = true,
      FlatRows (List.map Ix.row (ordX l)),
      FlatRows (List.map bI (List.map (fun x0 => Prod.snd x0) (ordP l)))] (by kernel_rfl)
    (by
      simp only [allP]
      and_intros <;> first
        | exact cRPar' l (by omega)
        | exact cBelowR hs
        | exact flatX _
        | exact flatI _
        | (simp; done))

theorem cROrder (l : List Sp) (hs : l.length ≤ 500000) : Contract Try.prog 14 [.sl 10 (l.map Sp.row)] [] (.own 0) [some (.arr 1 ((ordX l).map Ix.row))] := by
  exact Contract.cast (by
    first
      | rfl) (by
    first
      | rfl) (cROrder_0 l hs )

theorem rdG_0 {l : List Sp} (Q : List (Ix l × Int)) (Z : List Int) (x : Ix l) (e c : Int) (i : Nat) (hx : Q[i]? = some (x, e)) (hi : i < Q.length) (hQ : Q.length ≤ 1000000) (hc : Z[x.n]? = some c) : CodeC Try.prog 0 34 rdB (rdS Q Z i) (Ex.normal) ({ env := [((3 : Nat), V.own (900 : Nat)), ((4 : Nat), V.own (901 : Nat)), ((5 : Nat), V.own (902 : Nat)), ((6 : Nat), I (Int.ofNat (i + (1 : Nat))))], st := [((900 : Nat), Obj.arr (1 : Nat) (List.map Ix.row (List.map (fun x0 => Prod.fst x0) Q))), ((901 : Nat), Obj.arr (1 : Nat) (List.map bI (List.map (fun x0 => Prod.snd x0) Q))), ((902 : Nat), Obj.arr (1 : Nat) (List.map bI (List.set Z (Ix.n x) e)))], ids := [(900 : Nat), (901 : Nat), (902 : Nat)] }) :=
  runP hmix [.reg 4 [(3, [], some true)], .reg 6 [(4, [.row [I (x.n : Int)]], none), (8, [.row [I e]], none), (10, [.row [I c], .beO ((Z.set x.n e).map bI)], none)], .reg 5 [(1, [.be (I ((i + 1 : Nat) : Int))], none)]] ⟨[3, 4, 5, 6], [(900, 900), (901, 901), (902, 902)], []⟩ [
      decide (Int.ofNat i < Int.ofNat (List.length (List.map Ix.row (List.map (fun x0 => Prod.fst x0) Q)))) = true,
      (0 : Int) ≤ Int.ofNat i,
      Int.ofNat i < Int.ofNat (List.length (List.map Ix.row (List.map (fun x0 => Prod.fst x0) Q))),
      (List.map Ix.row (List.map (fun x0 => Prod.fst x0) Q))[i]? = some [I (Int.ofNat (Ix.n x))],
      (0 : Int) ≤ Int.ofNat i,
      Int.ofNat i < Int.ofNat (List.length (List.map bI (List.map (fun x0 => Prod.snd x0) Q))),
      (List.map bI (List.map (fun x0 => Prod.snd x0) Q))[i]? = some [I e],
      (0 : Int) ≤ Int.ofNat (Ix.n x),
      Int.ofNat (Ix.n x) < Int.ofNat (List.length (List.map bI Z)),
      (List.map bI Z)[Ix.n x]? = some [I c],
      List.set (List.map bI Z) (Ix.n x) [I e] = List.map bI (List.set Z (Ix.n x) e),
      IntKind.wrap IntKind.i64 (Int.ofNat (i + (1 : Nat))) = Int.ofNat (i + (1 : Nat))] (by kernel_rfl)
    (by
      simp only [allP]
      and_intros <;> first
        | exact bI_at hc
        | exact bI_set Z x.n e
        | exact i64_small (by simp; omega)
        | (have := (List.getElem?_eq_some_iff.1 hc).1; simp; omega)
        | (simp [hx, Ix.row]; done)
        | (simp [hx, bI]; done))

theorem rdG {l : List Sp} (Q : List (Ix l × Int)) (Z : List Int) (x : Ix l) (e c : Int) (i : Nat) (hx : Q[i]? = some (x, e)) (hi : i < Q.length) (hQ : Q.length ≤ 1000000) (hc : Z[x.n]? = some c)  : CodeC Try.prog 0 34 rdB (rdS Q Z i) .normal (rdS Q (Z.set x.n e) (i + 1)) := by
  exact CodeC.cast (by
    first
      | rfl) (rdG_0 Q Z x e c i hx hi hQ hc )

theorem rdE_0 {l : List Sp} (Q : List (Ix l × Int)) (Z : List Int) (i : Nat) (h : Q.length ≤ i) : CodeC Try.prog 0 34 rdB (rdS Q Z i) (Ex.exit (0 : Nat)) ({ env := [((3 : Nat), V.own (900 : Nat)), ((4 : Nat), V.own (901 : Nat)), ((5 : Nat), V.own (902 : Nat)), ((6 : Nat), I (Int.ofNat i))], st := [((900 : Nat), Obj.arr (1 : Nat) (List.map Ix.row (List.map (fun x0 => Prod.fst x0) Q))), ((901 : Nat), Obj.arr (1 : Nat) (List.map bI (List.map (fun x0 => Prod.snd x0) Q))), ((902 : Nat), Obj.arr (1 : Nat) (List.map bI Z))], ids := [(900 : Nat), (901 : Nat), (902 : Nat)] }) :=
  runP hmix [.reg 4 [(3, [], some false)]] ⟨[3, 4, 5, 6], [(900, 900), (901, 901), (902, 902)], []⟩ [
      decide (Int.ofNat i < Int.ofNat (List.length (List.map Ix.row (List.map (fun x0 => Prod.fst x0) Q)))) = false] (by kernel_rfl)
    (by
      simp only [allP]
      and_intros <;> first
        | (simp; omega))

theorem rdE {l : List Sp} (Q : List (Ix l × Int)) (Z : List Int) (i : Nat) (h : Q.length ≤ i)  : CodeC Try.prog 0 34 rdB (rdS Q Z i) (.exit 0) (rdS Q Z i) := by
  exact CodeC.cast (by
    first
      | rfl) (rdE_0 Q Z i h )

theorem rd_f_0 (l : List Sp) (Z : List Int) (hs : l.length ≤ 500000) (hl : LoopC Try.prog 0 34 rdB (rdS (ordP l) (List.replicate l.length 0) 0) (.exit 0) (rdS (ordP l) Z (ordP l).length)) : Contract Try.prog 15 [.sl 10 (l.map Sp.row)] [] (V.own (0 : Nat)) ([some (Obj.arr (1 : Nat) (List.map bI Z))]) :=
  vcP hmix [.reg 1 [(2, [.call [] [] (.own 0) [some (.arr 1 ((parF l).map bI))]], none), (3, [.call [] [] (.tup [.own 0, .own 1]) [some (.arr 1 ((ordX l).map Ix.row)), some (.arr 1 (((ordP l).map (·.2)).map bI))]], none)], .reg 2 [(1, [.be (I ((l.length : Nat) : Int))], none), (2, [.beO ((List.replicate l.length (0 : Int)).map bI)], none)], .cut ⟨[3, 4, 5, 6], [(204001, 900), (204002, 901), (403000, 902)], []⟩ (.exit 0) (rdS (ordP l) Z (ordP l).length)] [902] [
      Contract Try.prog (12 : Nat) [V.sl (10 : Nat) (List.map Sp.row l)] [] (V.own (0 : Nat)) [some (Obj.arr (1 : Nat) (List.map bI (parF l)))],
      Contract Try.prog (23 : Nat) [V.sl (10 : Nat) (List.map Sp.row l), V.sl (1 : Nat) (List.map bI (parF l)), I (-1 : Int), I (0 : Int)] [] (V.tup [V.own (0 : Nat), V.own (1 : Nat)]) [some (Obj.arr (1 : Nat) (List.map Ix.row (ordX l))), some (Obj.arr (1 : Nat) (List.map bI (List.map (fun x0 => Prod.snd x0) (ordP l))))],
      true = true,
      FlatRows (List.map Ix.row (ordX l)),
      FlatRows (List.map bI (List.map (fun x0 => Prod.snd x0) (ordP l))),
      Int.ofNat (List.length (List.map Sp.row l)) = Int.ofNat (List.length l),
      Int.ofNat (List.length l) = Int.ofNat (List.length l),
      (0 : Int) ≤ Int.ofNat (List.length l),
      List.length l * (8 : Nat) ≤ (140737488355328 : Nat),
      List.replicate (List.length l) [I (0 : Int)] = List.map bI (List.replicate (List.length l) (0 : Int)),
      LoopC Try.prog (0 : Nat) (34 : Nat) rdB { env := [((3 : Nat), V.own (900 : Nat)), ((4 : Nat), V.own (901 : Nat)), ((5 : Nat), V.own (902 : Nat)), ((6 : Nat), I (0 : Int))], st := [((900 : Nat), Obj.arr (1 : Nat) (List.map Ix.row (ordX l))), ((901 : Nat), Obj.arr (1 : Nat) (List.map bI (List.map (fun x0 => Prod.snd x0) (ordP l)))), ((902 : Nat), Obj.arr (1 : Nat) (List.map bI (List.replicate (List.length l) (0 : Int))))], ids := [(900 : Nat), (901 : Nat), (902 : Nat)] } (Ex.exit (0 : Nat)) { env := [((3 : Nat), V.own (900 : Nat)), ((4 : Nat), V.own (901 : Nat)), ((5 : Nat), V.own (902 : Nat)), ((6 : Nat), I (Int.ofNat (List.length (ordP l))))], st := [((900 : Nat), Obj.arr (1 : Nat) (List.map Ix.row (List.map (fun x0 => Prod.fst x0) (ordP l)))), ((901 : Nat), Obj.arr (1 : Nat) (List.map bI (List.map (fun x0 => Prod.snd x0) (ordP l)))), ((902 : Nat), Obj.arr (1 : Nat) (List.map bI Z))], ids := [(900 : Nat), (901 : Nat), (902 : Nat)] }] (by kernel_rfl)
    (by
      simp only [allP]
      and_intros <;> first
        | omega
        | exact hl
        | exact cRPar' l (by omega)
        | exact cBelowR hs
        | exact flatX _
        | exact flatI _
        | (simp [bI]; done))

theorem rd_f (l : List Sp) (Z : List Int) (hs : l.length ≤ 500000) (hl : LoopC Try.prog 0 34 rdB (rdS (ordP l) (List.replicate l.length 0) 0) (.exit 0) (rdS (ordP l) Z (ordP l).length)) : Contract Try.prog 15 [.sl 10 (l.map Sp.row)] [] (.own 0) [some (.arr 1 (Z.map bI))] := by
  exact Contract.cast (by
    first
      | rfl) (by
    first
      | rfl) (rd_f_0 l Z hs hl )

theorem rdL {l : List Sp} (Q : List (Ix l × Int)) (hQ : Q.length ≤ 1000000) (Z : List Int) (hZ : Z.length = l.length) : LoopC Try.prog 0 34 rdB (rdS Q Z 0) (.exit 0) (rdS Q (setAll Z Q) Q.length) := by
  have key : ∀ (B A : List (Ix l × Int)), Q = A ++ B → LoopC Try.prog 0 34 rdB (rdS Q (setAll Z A) A.length) (.exit 0) (rdS Q (setAll Z Q) Q.length) := by
    intro B
    induction B with
    | nil =>
      intro A hA
      rw [List.append_nil] at hA
      subst hA
      exact LoopC.last (rdE _ _ _ (Nat.le_refl _)) (by simp)
    | cons q B ih =>
      intro A hA
      obtain ⟨x, e⟩ := q
      have hx : Q[A.length]? = some (x, e) := by rw [hA]; simp
      have hlt : x.n < (setAll Z A).length := by rw [setAll_len, hZ]; exact x.lt
      have hr := rdG Q (setAll Z A) x e _ A.length hx (List.getElem?_eq_some_iff.1 hx).1 hQ (List.getElem?_eq_getElem hlt)
      have e1 : (setAll Z A).set x.n e = setAll Z (A ++ [(x, e)]) := by rw [setAll_app]; rfl
      rw [e1] at hr
      have ih' := ih (A ++ [(x, e)]) (by rw [hA]; simp)
      rw [List.length_append, List.length_singleton] at ih'
      exact LoopC.next hr ih'
  exact key Q [] rfl
theorem cRDepths (l : List Sp) (hs : l.length ≤ 500000) : Contract Try.prog 15 [.sl 10 (l.map Sp.row)] [] (.own 0) [some (.arr 1 ((depF l).map bI))] :=
  rd_f l (depF l) hs (rdL (ordP l) (by have := ordP_len l; omega) _ (by simp))

theorem rzG_0 (l : List Sp) (P Z : List Int) (x : Ix l) (X : List (Ix l)) (Y : List Int) (c : Int) (hs : l.length ≤ 1000000) (hX : X.length ≤ 1000000) (hc : Z[x.n]? = some c) (hb : Contract Try.prog 23 [.sl 10 (l.map Sp.row), .sl 1 (P.map bI), I (x.n : Int), I 0] [] (.tup [.own 0, .own 1]) [some (.arr 1 (X.map Ix.row)), some (.arr 1 (Y.map bI))]) : CodeC Try.prog 0 32 rzB (rzS l P Z x.n) (Ex.normal) ({ env := [((0 : Nat), V.sl (10 : Nat) (List.map Sp.row l)), ((3 : Nat), V.own (900 : Nat)), ((4 : Nat), V.own (901 : Nat)), ((5 : Nat), I (Int.ofNat (Ix.n x + (1 : Nat))))], st := [((900 : Nat), Obj.arr (1 : Nat) (List.map bI P)), ((901 : Nat), Obj.arr (1 : Nat) (List.map bI (List.set Z (Ix.n x) (Int.ofNat (List.length X)))))], ids := [(900 : Nat), (901 : Nat)] }) :=
  runP hmix [.reg 4 [(3, [], some true)], .reg 6 [(3, [.call [] [] (.tup [.own 0, .own 1]) [some (.arr 1 (X.map Ix.row)), some (.arr 1 (Y.map bI))]], none)], .reg 7 [(3, [.be (I ((X.length : Nat) : Int))], none), (5, [.row [I c], .beO ((Z.set x.n (X.length : Int)).map bI)], none)], .reg 5 [(1, [.be (I ((x.n + 1 : Nat) : Int))], none)]] ⟨[0, 3, 4, 5], [(900, 900), (901, 901)], []⟩ [
      decide (Int.ofNat (Ix.n x) < Int.ofNat (List.length (List.map Sp.row l))) = true,
      Contract Try.prog (23 : Nat) [V.sl (10 : Nat) (List.map Sp.row l), V.sl (1 : Nat) (List.map bI P), I (Int.ofNat (Ix.n x)), I (0 : Int)] [] (V.tup [V.own (0 : Nat), V.own (1 : Nat)]) [some (Obj.arr (1 : Nat) (List.map Ix.row X)), some (Obj.arr (1 : Nat) (List.map bI Y))],
      true = true,
      FlatRows (List.map Ix.row X),
      FlatRows (List.map bI Y),
      Int.ofNat (List.length (List.map Ix.row X)) = Int.ofNat (List.length X),
      (0 : Int) ≤ Int.ofNat (Ix.n x),
      Int.ofNat (Ix.n x) < Int.ofNat (List.length (List.map bI Z)),
      (List.map bI Z)[Ix.n x]? = some [I c],
      List.set (List.map bI Z) (Ix.n x) [I (Int.ofNat (List.length X))] = List.map bI (List.set Z (Ix.n x) (Int.ofNat (List.length X))),
      IntKind.wrap IntKind.i64 (Int.ofNat (Ix.n x + (1 : Nat))) = Int.ofNat (Ix.n x + (1 : Nat))] (by kernel_rfl)
    (by
      simp only [allP]
      and_intros <;> first
        | omega
        | exact bI_at hc
        | exact bI_set Z x.n _
        | exact flatX _
        | exact flatI _
        | exact i64_small (by have := x.lt; simp; omega)
        | (have := x.lt; simp; omega)
        | (have := (List.getElem?_eq_some_iff.1 hc).1; simp; omega)
        | (simp; done))

theorem rzG (l : List Sp) (P Z : List Int) (x : Ix l) (X : List (Ix l)) (Y : List Int) (c : Int) (hs : l.length ≤ 1000000) (hX : X.length ≤ 1000000) (hc : Z[x.n]? = some c) (hb : Contract Try.prog 23 [.sl 10 (l.map Sp.row), .sl 1 (P.map bI), I (x.n : Int), I 0] [] (.tup [.own 0, .own 1]) [some (.arr 1 (X.map Ix.row)), some (.arr 1 (Y.map bI))])  : CodeC Try.prog 0 32 rzB (rzS l P Z x.n) .normal (rzS l P (Z.set x.n (X.length : Int)) (x.n + 1)) := by
  exact CodeC.cast (by
    first
      | rfl) (rzG_0 l P Z x X Y c hs hX hc hb )

theorem rzE_0 (l : List Sp) (P Z : List Int) (i : Nat) (h : l.length ≤ i) : CodeC Try.prog 0 32 rzB (rzS l P Z i) (Ex.exit (0 : Nat)) ({ env := [((0 : Nat), V.sl (10 : Nat) (List.map Sp.row l)), ((3 : Nat), V.own (900 : Nat)), ((4 : Nat), V.own (901 : Nat)), ((5 : Nat), I (Int.ofNat i))], st := [((900 : Nat), Obj.arr (1 : Nat) (List.map bI P)), ((901 : Nat), Obj.arr (1 : Nat) (List.map bI Z))], ids := [(900 : Nat), (901 : Nat)] }) :=
  runP hmix [.reg 4 [(3, [], some false)]] ⟨[0, 3, 4, 5], [(900, 900), (901, 901)], []⟩ [
      decide (Int.ofNat i < Int.ofNat (List.length (List.map Sp.row l))) = false] (by kernel_rfl)
    (by
      simp only [allP]
      and_intros <;> first
        | (simp; omega))

theorem rzE (l : List Sp) (P Z : List Int) (i : Nat) (h : l.length ≤ i)  : CodeC Try.prog 0 32 rzB (rzS l P Z i) (.exit 0) (rzS l P Z i) := by
  exact CodeC.cast (by
    first
      | rfl) (rzE_0 l P Z i h )

theorem rz_f_0 (l : List Sp) (Z : List Int) (hs : l.length ≤ 500000) (hl : LoopC Try.prog 0 32 rzB (rzS l (parF l) (List.replicate l.length 0) 0) (.exit 0) (rzS l (parF l) Z l.length)) : Contract Try.prog 17 [.sl 10 (l.map Sp.row)] [] (V.own (0 : Nat)) ([some (Obj.arr (1 : Nat) (List.map bI Z))]) :=
  vcP hmix [.reg 1 [(1, [.call [] [] (.own 0) [some (.arr 1 ((parF l).map bI))]], none)], .reg 2 [(1, [.be (I ((l.length : Nat) : Int))], none), (2, [.beO ((List.replicate l.length (0 : Int)).map bI)], none)], .cut ⟨[0, 3, 4, 5], [(202001, 900), (403000, 901)], []⟩ (.exit 0) (rzS l (parF l) Z l.length)] [901] [
      Contract Try.prog (12 : Nat) [V.sl (10 : Nat) (List.map Sp.row l)] [] (V.own (0 : Nat)) [some (Obj.arr (1 : Nat) (List.map bI (parF l)))],
      Int.ofNat (List.length (List.map Sp.row l)) = Int.ofNat (List.length l),
      Int.ofNat (List.length l) = Int.ofNat (List.length l),
      (0 : Int) ≤ Int.ofNat (List.length l),
      List.length l * (8 : Nat) ≤ (140737488355328 : Nat),
      List.replicate (List.length l) [I (0 : Int)] = List.map bI (List.replicate (List.length l) (0 : Int)),
      LoopC Try.prog (0 : Nat) (32 : Nat) rzB { env := [((0 : Nat), V.sl (10 : Nat) (List.map Sp.row l)), ((3 : Nat), V.own (900 : Nat)), ((4 : Nat), V.own (901 : Nat)), ((5 : Nat), I (0 : Int))], st := [((900 : Nat), Obj.arr (1 : Nat) (List.map bI (parF l))), ((901 : Nat), Obj.arr (1 : Nat) (List.map bI (List.replicate (List.length l) (0 : Int))))], ids := [(900 : Nat), (901 : Nat)] } (Ex.exit (0 : Nat)) { env := [((0 : Nat), V.sl (10 : Nat) (List.map Sp.row l)), ((3 : Nat), V.own (900 : Nat)), ((4 : Nat), V.own (901 : Nat)), ((5 : Nat), I (Int.ofNat (List.length l)))], st := [((900 : Nat), Obj.arr (1 : Nat) (List.map bI (parF l))), ((901 : Nat), Obj.arr (1 : Nat) (List.map bI Z))], ids := [(900 : Nat), (901 : Nat)] }] (by kernel_rfl)
    (by
      simp only [allP]
      and_intros <;> first
        | omega
        | exact hl
        | exact cRPar' l (by omega)
        | (simp [bI]; done))

theorem rz_f (l : List Sp) (Z : List Int) (hs : l.length ≤ 500000) (hl : LoopC Try.prog 0 32 rzB (rzS l (parF l) (List.replicate l.length 0) 0) (.exit 0) (rzS l (parF l) Z l.length)) : Contract Try.prog 17 [.sl 10 (l.map Sp.row)] [] (.own 0) [some (.arr 1 (Z.map bI))] := by
  exact Contract.cast (by
    first
      | rfl) (by
    first
      | rfl) (rz_f_0 l Z hs hl )

/-- How many one and all below it are. -/
theorem sz_fst {l : List Sp} (kd : Nat → List (Ix l)) : ∀ (m : Nat) (d : Int) (L : List (Ix l)), ((szL kd m L).map (·.1)).Perm ((prD kd m d L).map (·.1))
  | 0, d, L => List.Perm.refl _
  | m + 1, d, L => by
    simp only [szL, prD, List.map_flatMap]
    induction L with
    | nil => exact List.Perm.refl _
    | cons x L ih =>
      rw [List.flatMap_cons, List.flatMap_cons]
      refine List.Perm.append ?_ ih
      rw [List.map_append, List.map_cons]
      refine List.perm_append_comm.trans ?_
      exact (sz_fst kd m (d + 1) (kd x.n)).cons x
theorem setAll_at {l : List Sp} : ∀ (ps : List (Ix l × Int)) (A : List Int) (x : Ix l) (e : Int), A.length = l.length → (ps.map (·.1)).Nodup → (x, e) ∈ ps → (setAll A ps)[x.n]? = some e
  | [], A, x, e, _, _, h => by simp at h
  | q :: ps, A, x, e, hA, hn, h => by
    rw [List.map_cons, List.nodup_cons] at hn
    have hs : setAll A (q :: ps) = setAll (A.set q.1.n q.2) ps := rfl
    rw [hs]
    rcases List.mem_cons.1 h with rfl | h
    · have keep : ∀ (ps : List (Ix l × Int)) (A : List Int), x ∉ ps.map (·.1) → (setAll A ps)[x.n]? = A[x.n]? := by
        intro ps
        induction ps with
        | nil => intro A _; rfl
        | cons p ps ih =>
          intro A hx
          rw [List.map_cons, List.mem_cons, not_or] at hx
          have hs : setAll A (p :: ps) = setAll (A.set p.1.n p.2) ps := rfl
          rw [hs, ih _ hx.2, List.getElem?_set, if_neg (fun e => hx.1 (Ix.ext e.symm))]
      rw [keep ps _ hn.1, List.getElem?_set, if_pos rfl, if_pos (by rw [hA]; exact x.lt)]
    · exact setAll_at ps _ x e (by rw [List.length_set, hA]) hn.2 h
theorem sz_val {l : List Sp} : ∀ (m d : Nat) (L : List (Ix l)), d + m = l.length → (∀ x ∈ L, Dp (parF l) d x.n) → ∀ q ∈ szL (kidX l (parF l)) m L, ∃ t m' : Nat, t + m' = l.length ∧ Dp (parF l) t q.1.n ∧ q.2 = ((prD (kidX l (parF l)) m' 0 [q.1]).length : Int)
  | 0, d, L, _, _, q, hq => by simp [szL] at hq
  | m + 1, d, L, hd, hL, q, hq => by
    rw [szL, List.mem_flatMap] at hq
    obtain ⟨x, hx, hq⟩ := hq
    rcases List.mem_append.1 hq with hq | hq
    · exact sz_val m (d + 1) _ (by omega) (fun z hz => kids_deep (parF_inR l) (parF_len l) (hL x hx) hz) q hq
    · simp only [List.mem_singleton] at hq
      subst hq
      refine ⟨d, m + 1, hd, hL x hx, ?_⟩
      have : prD (kidX l (parF l)) (m + 1) 0 [x] = (x, 0) :: prD (kidX l (parF l)) m (0 + 1) (kidX l (parF l) x.n) := by simp [prD]
      rw [this, List.length_cons, pr_len0 _ m (0 + 1)]
      simp only
      omega
/-- How many there are at a place. -/
theorem sizF_at (l : List Sp) (x : Ix l) (t m : Nat) (ht : t + m = l.length) (hx : Dp (parF l) t x.n) : (sizF l)[x.n]? = some ((prD (kidX l (parF l)) m 0 [x]).length : Int) := by
  have hR : ∀ z ∈ kidX l (parF l) l.length, Dp (parF l) 0 z.n := fun z hz => roots_deep (parF_inR l) (parF_len l) hz
  have hperm := sz_fst (kidX l (parF l)) l.length 0 (kidX l (parF l) l.length)
  have hn : ((szL (kidX l (parF l)) l.length (kidX l (parF l) l.length)).map (·.1)).Nodup := by
    rw [hperm.nodup_iff]; exact ordP_nodup l
  obtain ⟨t0, _, _, hmem⟩ := ordP_mem l x
  have hx1 : x ∈ (szL (kidX l (parF l)) l.length (kidX l (parF l) l.length)).map (·.1) := by
    rw [hperm.mem_iff]
    exact List.mem_map.2 ⟨_, hmem, rfl⟩
  obtain ⟨q, hq, rfl⟩ := List.mem_map.1 hx1
  obtain ⟨t', m', h1, h2, h3⟩ := sz_val l.length 0 _ (by omega) hR q hq
  have := hx.uniq h2
  have hm : m = m' := by omega
  subst hm
  rw [← h3]
  exact setAll_at _ _ q.1 q.2 (by simp) hn hq
theorem cRSizes (l : List Sp) (hs : l.length ≤ 500000) : Contract Try.prog 17 [.sl 10 (l.map Sp.row)] [] (.own 0) [some (.arr 1 ((sizF l).map bI))] := by
  refine rz_f l (sizF l) hs ?_
  have key : ∀ m i, i + m = l.length → LoopC Try.prog 0 32 rzB (rzS l (parF l) ((sizF l).take i ++ (List.replicate l.length (0 : Int)).drop i) i) (.exit 0) (rzS l (parF l) (sizF l) l.length) := by
    intro m
    induction m with
    | zero =>
      intro i h
      have : i = l.length := by omega
      subst this
      have e : (sizF l).take l.length ++ (List.replicate l.length (0 : Int)).drop l.length = sizF l := by
        rw [List.take_of_length_le (by rw [sizF_len]; exact Nat.le_refl _), List.drop_of_length_le (by simp), List.append_nil]
      rw [e]
      exact LoopC.last (rzE _ _ _ _ (Nat.le_refl _)) (by simp)
    | succ m ih =>
      intro i h
      have hi : i < l.length := by omega
      obtain ⟨t, ht, hx⟩ := acyc l i hi
      have hc : ((sizF l).take i ++ (List.replicate l.length (0 : Int)).drop i)[i]? = some 0 := by rw [at_take _ _ _ (by rw [sizF_len]; omega)]; simp [hi]
      have hsz := sizF_at l ⟨i, hi⟩ t (l.length - t) (by omega) hx
      have hnd := pr_nodup (parF_inR l) (parF_len l) (l.length - t) t [(⟨i, hi⟩ : Ix l)] (List.nodup_cons.2 ⟨by simp, List.nodup_nil⟩) (fun z hz => by simp only [List.mem_singleton] at hz; subst hz; exact hx)
      have hle := nodup_le _ hnd
      rw [List.length_map, pr_len0] at hle
      have hb := cBelowN hs (l.length - t) t 0 ⟨i, hi⟩ (by omega) hx (by omega) (by omega)
      have hr := rzG l (parF l) _ ⟨i, hi⟩ _ _ 0 (by omega) (by rw [List.length_map]; omega) hc hb
      rw [List.length_map] at hr
      simp only [Ix.n] at hr hsz
      rw [set_take _ _ _ _ hsz (by simp; exact hi)] at hr
      exact LoopC.next hr (ih (i + 1) (by omega))
  have := key l.length 0 (by omega)
  simpa using this

end Go.Proofs.Ythhggnnfiohnpaa

/- spans: few and short. -/
namespace Go.Proofs.Ythhggnnfiohnpaa
open E
set_option maxRecDepth 100000
set_option linter.unusedVariables false
set_option linter.unusedSimpArgs false

def longA (a : At) : Bool := decide ((a.key.size : Int) > 100) || decide ((a.val.size : Int) > 100)
def fewS (s : Sp) : Bool := !decide ((s.svc.size : Int) > 100) && !decide ((s.op.size : Int) > 100) && !decide ((s.attrs.length : Int) > 20) && s.attrs.all (fun a => !longA a)
def fewAll (l : List Sp) : Bool := !decide ((l.length : Int) > 60) && l.all fewS
def feS (s : Sp) (r : Bool) (i : Nat) : SL := ⟨[(1, .ptr 1000 0 0 0), (2, Bo r), (3, I (i : Int))], [(1000, .box s.row)], [1000]⟩
def faS (l : List Sp) (r : Bool) (i : Nat) : SL := ⟨[(0, .sl 10 (l.map Sp.row)), (2, Bo r), (3, I (i : Int))], [], []⟩
noncomputable def feB : Code := codeAt Try.prog 22 [true, true, false, true, false, false]

noncomputable def faB : Code := codeAt Try.prog 10 [true, true, false, true, false, false]

theorem fe_0 (s : Sp) (a : At) (i : Nat) (h : i < s.attrs.length) (hx : s.attrs[i]? = some a) (hs : s.attrs.length ≤ 20) (tq0 : (decide (Int.ofNat (ByteArray.size (At.key a)) > (100 : Int))) = true) : CodeC Try.prog 0 45 feB (feS s false i) (Ex.ret) ({ env := [((1 : Nat), V.ptr (1000 : Nat) (0 : Nat) (0 : Nat) (0 : Nat)), ((2 : Nat), Bo false), ((3 : Nat), I (Int.ofNat i))], st := [((1000 : Nat), Obj.box [V.val (Value.int IntKind.u64 (Sp.hi s)), V.val (Value.int IntKind.u64 (Sp.lo s)), V.val (Value.int IntKind.u64 (Sp.id s)), V.val (Value.int IntKind.u64 (Sp.par s)), Sg (Sp.svc s), Sg (Sp.op s), I (Sp.start s), I (Sp.dur s), Bo (Sp.err s), V.sl (2 : Nat) (List.map At.row (Sp.attrs s))])], ids := [(1000 : Nat)] }) :=
  runP hmix [.reg 4 [(4, [], some true)], .reg 6 [(5, [.row (At.row a)], none), (8, [], some true)]] ⟨[1, 2, 3], [(1000, 1000)], []⟩ [
      decide (Int.ofNat i < Int.ofNat (List.length (List.map At.row (Sp.attrs s)))) = true,
      (0 : Int) ≤ Int.ofNat i,
      Int.ofNat i < Int.ofNat (List.length (List.map At.row (Sp.attrs s))),
      (List.map At.row (Sp.attrs s))[i]? = some (At.row a),
      decide (Int.ofNat (ByteArray.size (At.key a)) > (100 : Int)) = true] (by kernel_rfl)
    (by
      have d0 := tq0
      try simp only [Int.ofNat_eq_natCast, List.length_map, Bool.not_eq_true', Bool.not_eq_false', decide_eq_true_eq, decide_eq_false_iff_not] at d0
      simp only [allP]
      and_intros <;> first
        | omega
        | (simp; omega)
        | (simp [hx]; done))

theorem fe_1 (s : Sp) (a : At) (i : Nat) (h : i < s.attrs.length) (hx : s.attrs[i]? = some a) (hs : s.attrs.length ≤ 20) (tq0 : (decide (Int.ofNat (ByteArray.size (At.key a)) > (100 : Int))) = false) (tq1 : (decide (Int.ofNat (ByteArray.size (At.val a)) > (100 : Int))) = true) : CodeC Try.prog 0 45 feB (feS s false i) (Ex.ret) ({ env := [((1 : Nat), V.ptr (1000 : Nat) (0 : Nat) (0 : Nat) (0 : Nat)), ((2 : Nat), Bo false), ((3 : Nat), I (Int.ofNat i))], st := [((1000 : Nat), Obj.box [V.val (Value.int IntKind.u64 (Sp.hi s)), V.val (Value.int IntKind.u64 (Sp.lo s)), V.val (Value.int IntKind.u64 (Sp.id s)), V.val (Value.int IntKind.u64 (Sp.par s)), Sg (Sp.svc s), Sg (Sp.op s), I (Sp.start s), I (Sp.dur s), Bo (Sp.err s), V.sl (2 : Nat) (List.map At.row (Sp.attrs s))])], ids := [(1000 : Nat)] }) :=
  runP hmix [.reg 4 [(4, [], some true)], .reg 6 [(5, [.row (At.row a)], none), (8, [], some false), (14, [.row (At.row a)], none), (17, [], some true)]] ⟨[1, 2, 3], [(1000, 1000)], []⟩ [
      decide (Int.ofNat i < Int.ofNat (List.length (List.map At.row (Sp.attrs s)))) = true,
      (0 : Int) ≤ Int.ofNat i,
      Int.ofNat i < Int.ofNat (List.length (List.map At.row (Sp.attrs s))),
      (List.map At.row (Sp.attrs s))[i]? = some (At.row a),
      decide (Int.ofNat (ByteArray.size (At.key a)) > (100 : Int)) = false,
      (0 : Int) ≤ Int.ofNat i,
      Int.ofNat i < Int.ofNat (List.length (List.map At.row (Sp.attrs s))),
      (List.map At.row (Sp.attrs s))[i]? = some (At.row a),
      decide (Int.ofNat (ByteArray.size (At.val a)) > (100 : Int)) = true] (by kernel_rfl)
    (by
      have d0 := tq0
      have d1 := tq1
      try simp only [Int.ofNat_eq_natCast, List.length_map, Bool.not_eq_true', Bool.not_eq_false', decide_eq_true_eq, decide_eq_false_iff_not] at d0 d1
      simp only [allP]
      and_intros <;> first
        | omega
        | (simp; omega)
        | (simp [hx]; done))

theorem fe_2 (s : Sp) (a : At) (i : Nat) (h : i < s.attrs.length) (hx : s.attrs[i]? = some a) (hs : s.attrs.length ≤ 20) (tq0 : (decide (Int.ofNat (ByteArray.size (At.key a)) > (100 : Int))) = false) (tq1 : (decide (Int.ofNat (ByteArray.size (At.val a)) > (100 : Int))) = false) : CodeC Try.prog 0 45 feB (feS s false i) (Ex.normal) ({ env := [((1 : Nat), V.ptr (1000 : Nat) (0 : Nat) (0 : Nat) (0 : Nat)), ((2 : Nat), Bo false), ((3 : Nat), I (Int.ofNat (i + (1 : Nat))))], st := [((1000 : Nat), Obj.box [V.val (Value.int IntKind.u64 (Sp.hi s)), V.val (Value.int IntKind.u64 (Sp.lo s)), V.val (Value.int IntKind.u64 (Sp.id s)), V.val (Value.int IntKind.u64 (Sp.par s)), Sg (Sp.svc s), Sg (Sp.op s), I (Sp.start s), I (Sp.dur s), Bo (Sp.err s), V.sl (2 : Nat) (List.map At.row (Sp.attrs s))])], ids := [(1000 : Nat)] }) :=
  runP hmix [.reg 4 [(4, [], some true)], .reg 6 [(5, [.row (At.row a)], none), (8, [], some false), (14, [.row (At.row a)], none), (17, [], some false)], .reg 5 [(1, [.be (I ((i + 1 : Nat) : Int))], none)]] ⟨[1, 2, 3], [(1000, 1000)], []⟩ [
      decide (Int.ofNat i < Int.ofNat (List.length (List.map At.row (Sp.attrs s)))) = true,
      (0 : Int) ≤ Int.ofNat i,
      Int.ofNat i < Int.ofNat (List.length (List.map At.row (Sp.attrs s))),
      (List.map At.row (Sp.attrs s))[i]? = some (At.row a),
      decide (Int.ofNat (ByteArray.size (At.key a)) > (100 : Int)) = false,
      (0 : Int) ≤ Int.ofNat i,
      Int.ofNat i < Int.ofNat (List.length (List.map At.row (Sp.attrs s))),
      (List.map At.row (Sp.attrs s))[i]? = some (At.row a),
      decide (Int.ofNat (ByteArray.size (At.val a)) > (100 : Int)) = false,
      IntKind.wrap IntKind.i64 (Int.ofNat (i + (1 : Nat))) = Int.ofNat (i + (1 : Nat))] (by kernel_rfl)
    (by
      have d0 := tq0
      have d1 := tq1
      try simp only [Int.ofNat_eq_natCast, List.length_map, Bool.not_eq_true', Bool.not_eq_false', decide_eq_true_eq, decide_eq_false_iff_not] at d0 d1
      simp only [allP]
      and_intros <;> first
        | omega
        | (simp; omega)
        | (simp [hx]; done)
        | exact i64_small (by simp; omega))

theorem feGo (s : Sp) (a : At) (i : Nat) (h : i < s.attrs.length) (hx : s.attrs[i]? = some a) (hs : s.attrs.length ≤ 20) (hb : longA a = false) : CodeC Try.prog 0 45 feB (feS s false i) .normal (feS s false (i + 1)) := by
  rcases tf (decide (Int.ofNat (ByteArray.size (At.key a)) > (100 : Int))) with tq0 | tq0
  · exact absurd hb (by
      first
        | ((try simp only [Int.ofNat_eq_natCast, List.length_map, Bool.not_eq_true', Bool.not_eq_false', decide_eq_true_eq, decide_eq_false_iff_not] at tq0); simp [longA, tq0]; done))
  · rcases tf (decide (Int.ofNat (ByteArray.size (At.val a)) > (100 : Int))) with tq1 | tq1
    · exact absurd hb (by
        first
          | ((try simp only [Int.ofNat_eq_natCast, List.length_map, Bool.not_eq_true', Bool.not_eq_false', decide_eq_true_eq, decide_eq_false_iff_not] at tq0 tq1); simp [longA, tq0, tq1]; done))
    · exact CodeC.cast (by
        first
          | rfl) (fe_2 s a i h hx hs tq0 tq1)

theorem feStop (s : Sp) (a : At) (i : Nat) (h : i < s.attrs.length) (hx : s.attrs[i]? = some a) (hs : s.attrs.length ≤ 20) (hb : longA a = true) : CodeC Try.prog 0 45 feB (feS s false i) .ret (feS s false i) := by
  rcases tf (decide (Int.ofNat (ByteArray.size (At.key a)) > (100 : Int))) with tq0 | tq0
  · exact CodeC.cast (by
      first
        | rfl) (fe_0 s a i h hx hs tq0)
  · rcases tf (decide (Int.ofNat (ByteArray.size (At.val a)) > (100 : Int))) with tq1 | tq1
    · exact CodeC.cast (by
        first
          | rfl) (fe_1 s a i h hx hs tq0 tq1)
    · exact absurd hb (by
        first
          | ((try simp only [Int.ofNat_eq_natCast, List.length_map, Bool.not_eq_true', Bool.not_eq_false', decide_eq_true_eq, decide_eq_false_iff_not] at tq0 tq1); simp [longA, tq0, tq1]; done))

theorem feE_0 (s : Sp) (i : Nat) (h : s.attrs.length ≤ i) : CodeC Try.prog 0 45 feB (feS s false i) (Ex.exit (0 : Nat)) ({ env := [((1 : Nat), V.ptr (1000 : Nat) (0 : Nat) (0 : Nat) (0 : Nat)), ((2 : Nat), Bo false), ((3 : Nat), I (Int.ofNat i))], st := [((1000 : Nat), Obj.box [V.val (Value.int IntKind.u64 (Sp.hi s)), V.val (Value.int IntKind.u64 (Sp.lo s)), V.val (Value.int IntKind.u64 (Sp.id s)), V.val (Value.int IntKind.u64 (Sp.par s)), Sg (Sp.svc s), Sg (Sp.op s), I (Sp.start s), I (Sp.dur s), Bo (Sp.err s), V.sl (2 : Nat) (List.map At.row (Sp.attrs s))])], ids := [(1000 : Nat)] }) :=
  runP hmix [.reg 4 [(4, [], some false)]] ⟨[1, 2, 3], [(1000, 1000)], []⟩ [
      decide (Int.ofNat i < Int.ofNat (List.length (List.map At.row (Sp.attrs s)))) = false] (by kernel_rfl)
    (by
      simp only [allP]
      and_intros <;> first
        | (simp; omega))

theorem feE (s : Sp) (i : Nat) (h : s.attrs.length ≤ i)  : CodeC Try.prog 0 45 feB (feS s false i) (.exit 0) (feS s false i) := by
  exact CodeC.cast (by
    first
      | rfl) (feE_0 s i h )

theorem few1_0 (s : Sp) (i : Nat) (hl : LoopC Try.prog 0 45 feB (feS s false 0) .ret (feS s false i)) (tq0 : (decide (Int.ofNat (ByteArray.size (Sp.svc s)) > (100 : Int))) = true) : Contract Try.prog 22 [s.v] [] (Bo false) ([]) :=
  vcP hmix [.reg 1 [(4, [], some true)]] [] [
      decide (Int.ofNat (ByteArray.size (Sp.svc s)) > (100 : Int)) = true] (by kernel_rfl)
    (by
      have d0 := tq0
      try simp only [Int.ofNat_eq_natCast, List.length_map, Bool.not_eq_true', Bool.not_eq_false', decide_eq_true_eq, decide_eq_false_iff_not] at d0
      simp only [allP]
      and_intros <;> first
        | omega)

theorem few1_1 (s : Sp) (i : Nat) (hl : LoopC Try.prog 0 45 feB (feS s false 0) .ret (feS s false i)) (tq0 : (decide (Int.ofNat (ByteArray.size (Sp.svc s)) > (100 : Int))) = false) (tq1 : (decide (Int.ofNat (ByteArray.size (Sp.op s)) > (100 : Int))) = true) : Contract Try.prog 22 [s.v] [] (Bo false) ([]) :=
  vcP hmix [.reg 1 [(4, [], some false), (10, [], some true)]] [] [
      decide (Int.ofNat (ByteArray.size (Sp.svc s)) > (100 : Int)) = false,
      decide (Int.ofNat (ByteArray.size (Sp.op s)) > (100 : Int)) = true] (by kernel_rfl)
    (by
      have d0 := tq0
      have d1 := tq1
      try simp only [Int.ofNat_eq_natCast, List.length_map, Bool.not_eq_true', Bool.not_eq_false', decide_eq_true_eq, decide_eq_false_iff_not] at d0 d1
      simp only [allP]
      and_intros <;> first
        | omega)

theorem few1_2 (s : Sp) (i : Nat) (hl : LoopC Try.prog 0 45 feB (feS s false 0) .ret (feS s false i)) (tq0 : (decide (Int.ofNat (ByteArray.size (Sp.svc s)) > (100 : Int))) = false) (tq1 : (decide (Int.ofNat (ByteArray.size (Sp.op s)) > (100 : Int))) = false) (tq2 : (decide (Int.ofNat (List.length (List.map At.row (Sp.attrs s))) > (20 : Int))) = true) : Contract Try.prog 22 [s.v] [] (Bo false) ([]) :=
  vcP hmix [.reg 1 [(4, [], some false), (10, [], some false), (15, [], some true)]] [] [
      decide (Int.ofNat (ByteArray.size (Sp.svc s)) > (100 : Int)) = false,
      decide (Int.ofNat (ByteArray.size (Sp.op s)) > (100 : Int)) = false,
      decide (Int.ofNat (List.length (List.map At.row (Sp.attrs s))) > (20 : Int)) = true] (by kernel_rfl)
    (by
      have d0 := tq0
      have d1 := tq1
      have d2 := tq2
      try simp only [Int.ofNat_eq_natCast, List.length_map, Bool.not_eq_true', Bool.not_eq_false', decide_eq_true_eq, decide_eq_false_iff_not] at d0 d1 d2
      simp only [allP]
      and_intros <;> first
        | omega)

theorem few1_3 (s : Sp) (i : Nat) (hl : LoopC Try.prog 0 45 feB (feS s false 0) .ret (feS s false i)) (tq0 : (decide (Int.ofNat (ByteArray.size (Sp.svc s)) > (100 : Int))) = false) (tq1 : (decide (Int.ofNat (ByteArray.size (Sp.op s)) > (100 : Int))) = false) (tq2 : (decide (Int.ofNat (List.length (List.map At.row (Sp.attrs s))) > (20 : Int))) = false) : Contract Try.prog 22 [s.v] [] (Bo false) ([]) :=
  vcP hmix [.reg 1 [(4, [], some false), (10, [], some false), (15, [], some false)], .cut ⟨[1, 2, 3], [(1000, 1000)], []⟩ .ret (feS s false i)] [] [
      decide (Int.ofNat (ByteArray.size (Sp.svc s)) > (100 : Int)) = false,
      decide (Int.ofNat (ByteArray.size (Sp.op s)) > (100 : Int)) = false,
      decide (Int.ofNat (List.length (List.map At.row (Sp.attrs s))) > (20 : Int)) = false,
      LoopC Try.prog (0 : Nat) (45 : Nat) feB { env := [((1 : Nat), V.ptr (1000 : Nat) (0 : Nat) (0 : Nat) (0 : Nat)), ((2 : Nat), Bo false), ((3 : Nat), I (0 : Int))], st := [((1000 : Nat), Obj.box [V.val (Value.int IntKind.u64 (Sp.hi s)), V.val (Value.int IntKind.u64 (Sp.lo s)), V.val (Value.int IntKind.u64 (Sp.id s)), V.val (Value.int IntKind.u64 (Sp.par s)), Sg (Sp.svc s), Sg (Sp.op s), I (Sp.start s), I (Sp.dur s), Bo (Sp.err s), V.sl (2 : Nat) (List.map At.row (Sp.attrs s))])], ids := [(1000 : Nat)] } Ex.ret { env := [((1 : Nat), V.ptr (1000 : Nat) (0 : Nat) (0 : Nat) (0 : Nat)), ((2 : Nat), Bo false), ((3 : Nat), I (Int.ofNat i))], st := [((1000 : Nat), Obj.box (Sp.row s))], ids := [(1000 : Nat)] }] (by kernel_rfl)
    (by
      have d0 := tq0
      have d1 := tq1
      have d2 := tq2
      try simp only [Int.ofNat_eq_natCast, List.length_map, Bool.not_eq_true', Bool.not_eq_false', decide_eq_true_eq, decide_eq_false_iff_not] at d0 d1 d2
      simp only [allP]
      and_intros <;> first
        | omega
        | exact hl)

theorem few1 (s : Sp) (i : Nat) (hl : LoopC Try.prog 0 45 feB (feS s false 0) .ret (feS s false i)) : Contract Try.prog 22 [s.v] [] (Bo false) [] := by
  rcases tf (decide (Int.ofNat (ByteArray.size (Sp.svc s)) > (100 : Int))) with tq0 | tq0
  · exact Contract.cast (by
      first
        | rfl) (by
      first
        | rfl) (few1_0 s i hl tq0)
  · rcases tf (decide (Int.ofNat (ByteArray.size (Sp.op s)) > (100 : Int))) with tq1 | tq1
    · exact Contract.cast (by
        first
          | rfl) (by
        first
          | rfl) (few1_1 s i hl tq0 tq1)
    · rcases tf (decide (Int.ofNat (List.length (List.map At.row (Sp.attrs s))) > (20 : Int))) with tq2 | tq2
      · exact Contract.cast (by
          first
            | rfl) (by
          first
            | rfl) (few1_2 s i hl tq0 tq1 tq2)
      · exact Contract.cast (by
          first
            | rfl) (by
          first
            | rfl) (few1_3 s i hl tq0 tq1 tq2)

theorem few2_0 (s : Sp) (hl : LoopC Try.prog 0 45 feB (feS s false 0) (.exit 0) (feS s false s.attrs.length)) (tq0 : (decide (Int.ofNat (ByteArray.size (Sp.svc s)) > (100 : Int))) = true) : Contract Try.prog 22 [s.v] [] (Bo false) ([]) :=
  vcP hmix [.reg 1 [(4, [], some true)]] [] [
      decide (Int.ofNat (ByteArray.size (Sp.svc s)) > (100 : Int)) = true] (by kernel_rfl)
    (by
      have d0 := tq0
      try simp only [Int.ofNat_eq_natCast, List.length_map, Bool.not_eq_true', Bool.not_eq_false', decide_eq_true_eq, decide_eq_false_iff_not] at d0
      simp only [allP]
      and_intros <;> first
        | omega)

theorem few2_1 (s : Sp) (hl : LoopC Try.prog 0 45 feB (feS s false 0) (.exit 0) (feS s false s.attrs.length)) (tq0 : (decide (Int.ofNat (ByteArray.size (Sp.svc s)) > (100 : Int))) = false) (tq1 : (decide (Int.ofNat (ByteArray.size (Sp.op s)) > (100 : Int))) = true) : Contract Try.prog 22 [s.v] [] (Bo false) ([]) :=
  vcP hmix [.reg 1 [(4, [], some false), (10, [], some true)]] [] [
      decide (Int.ofNat (ByteArray.size (Sp.svc s)) > (100 : Int)) = false,
      decide (Int.ofNat (ByteArray.size (Sp.op s)) > (100 : Int)) = true] (by kernel_rfl)
    (by
      have d0 := tq0
      have d1 := tq1
      try simp only [Int.ofNat_eq_natCast, List.length_map, Bool.not_eq_true', Bool.not_eq_false', decide_eq_true_eq, decide_eq_false_iff_not] at d0 d1
      simp only [allP]
      and_intros <;> first
        | omega)

theorem few2_2 (s : Sp) (hl : LoopC Try.prog 0 45 feB (feS s false 0) (.exit 0) (feS s false s.attrs.length)) (tq0 : (decide (Int.ofNat (ByteArray.size (Sp.svc s)) > (100 : Int))) = false) (tq1 : (decide (Int.ofNat (ByteArray.size (Sp.op s)) > (100 : Int))) = false) (tq2 : (decide (Int.ofNat (List.length (List.map At.row (Sp.attrs s))) > (20 : Int))) = true) : Contract Try.prog 22 [s.v] [] (Bo false) ([]) :=
  vcP hmix [.reg 1 [(4, [], some false), (10, [], some false), (15, [], some true)]] [] [
      decide (Int.ofNat (ByteArray.size (Sp.svc s)) > (100 : Int)) = false,
      decide (Int.ofNat (ByteArray.size (Sp.op s)) > (100 : Int)) = false,
      decide (Int.ofNat (List.length (List.map At.row (Sp.attrs s))) > (20 : Int)) = true] (by kernel_rfl)
    (by
      have d0 := tq0
      have d1 := tq1
      have d2 := tq2
      try simp only [Int.ofNat_eq_natCast, List.length_map, Bool.not_eq_true', Bool.not_eq_false', decide_eq_true_eq, decide_eq_false_iff_not] at d0 d1 d2
      simp only [allP]
      and_intros <;> first
        | omega)

theorem few2_3 (s : Sp) (hl : LoopC Try.prog 0 45 feB (feS s false 0) (.exit 0) (feS s false s.attrs.length)) (tq0 : (decide (Int.ofNat (ByteArray.size (Sp.svc s)) > (100 : Int))) = false) (tq1 : (decide (Int.ofNat (ByteArray.size (Sp.op s)) > (100 : Int))) = false) (tq2 : (decide (Int.ofNat (List.length (List.map At.row (Sp.attrs s))) > (20 : Int))) = false) : Contract Try.prog 22 [s.v] [] (Bo true) ([]) :=
  vcP hmix [.reg 1 [(4, [], some false), (10, [], some false), (15, [], some false)], .cut ⟨[1, 2, 3], [(1000, 1000)], []⟩ (.exit 0) (feS s false s.attrs.length)] [] [
      decide (Int.ofNat (ByteArray.size (Sp.svc s)) > (100 : Int)) = false,
      decide (Int.ofNat (ByteArray.size (Sp.op s)) > (100 : Int)) = false,
      decide (Int.ofNat (List.length (List.map At.row (Sp.attrs s))) > (20 : Int)) = false,
      LoopC Try.prog (0 : Nat) (45 : Nat) feB { env := [((1 : Nat), V.ptr (1000 : Nat) (0 : Nat) (0 : Nat) (0 : Nat)), ((2 : Nat), Bo false), ((3 : Nat), I (0 : Int))], st := [((1000 : Nat), Obj.box [V.val (Value.int IntKind.u64 (Sp.hi s)), V.val (Value.int IntKind.u64 (Sp.lo s)), V.val (Value.int IntKind.u64 (Sp.id s)), V.val (Value.int IntKind.u64 (Sp.par s)), Sg (Sp.svc s), Sg (Sp.op s), I (Sp.start s), I (Sp.dur s), Bo (Sp.err s), V.sl (2 : Nat) (List.map At.row (Sp.attrs s))])], ids := [(1000 : Nat)] } (Ex.exit (0 : Nat)) { env := [((1 : Nat), V.ptr (1000 : Nat) (0 : Nat) (0 : Nat) (0 : Nat)), ((2 : Nat), Bo false), ((3 : Nat), I (Int.ofNat (List.length (Sp.attrs s))))], st := [((1000 : Nat), Obj.box (Sp.row s))], ids := [(1000 : Nat)] }] (by kernel_rfl)
    (by
      have d0 := tq0
      have d1 := tq1
      have d2 := tq2
      try simp only [Int.ofNat_eq_natCast, List.length_map, Bool.not_eq_true', Bool.not_eq_false', decide_eq_true_eq, decide_eq_false_iff_not] at d0 d1 d2
      simp only [allP]
      and_intros <;> first
        | omega
        | exact hl)

theorem few2 (s : Sp) (hl : LoopC Try.prog 0 45 feB (feS s false 0) (.exit 0) (feS s false s.attrs.length)) : Contract Try.prog 22 [s.v] [] (Bo (!decide ((s.svc.size : Int) > 100) && !decide ((s.op.size : Int) > 100) && !decide ((s.attrs.length : Int) > 20))) [] := by
  rcases tf (decide (Int.ofNat (ByteArray.size (Sp.svc s)) > (100 : Int))) with tq0 | tq0
  · exact Contract.cast (by
      first
        | ((try simp only [Int.ofNat_eq_natCast, List.length_map, Bool.not_eq_true', Bool.not_eq_false', decide_eq_true_eq, decide_eq_false_iff_not] at tq0); simp [tq0]; done)) (by
      first
        | rfl) (few2_0 s hl tq0)
  · rcases tf (decide (Int.ofNat (ByteArray.size (Sp.op s)) > (100 : Int))) with tq1 | tq1
    · exact Contract.cast (by
        first
          | ((try simp only [Int.ofNat_eq_natCast, List.length_map, Bool.not_eq_true', Bool.not_eq_false', decide_eq_true_eq, decide_eq_false_iff_not] at tq0 tq1); simp [tq0, tq1]; done)) (by
        first
          | rfl) (few2_1 s hl tq0 tq1)
    · rcases tf (decide (Int.ofNat (List.length (List.map At.row (Sp.attrs s))) > (20 : Int))) with tq2 | tq2
      · exact Contract.cast (by
          first
            | ((try simp only [Int.ofNat_eq_natCast, List.length_map, Bool.not_eq_true', Bool.not_eq_false', decide_eq_true_eq, decide_eq_false_iff_not] at tq0 tq1 tq2); simp [tq0, tq1, tq2]; done)) (by
          first
            | rfl) (few2_2 s hl tq0 tq1 tq2)
      · exact Contract.cast (by
          first
            | ((try simp only [Int.ofNat_eq_natCast, List.length_map, Bool.not_eq_true', Bool.not_eq_false', decide_eq_true_eq, decide_eq_false_iff_not] at tq0 tq1 tq2); simp [tq0, tq1, tq2]; done)) (by
          first
            | rfl) (few2_3 s hl tq0 tq1 tq2)

theorem few3_0 (s : Sp) (h : decide ((s.attrs.length : Int) > 20) = true) (tq0 : (decide (Int.ofNat (ByteArray.size (Sp.svc s)) > (100 : Int))) = true) : Contract Try.prog 22 [s.v] [] (Bo false) ([]) :=
  vcP hmix [.reg 1 [(4, [], some true), (14, [], some true)]] [] [
      decide (Int.ofNat (ByteArray.size (Sp.svc s)) > (100 : Int)) = true] (by kernel_rfl)
    (by
      have d0 := tq0
      try simp only [Int.ofNat_eq_natCast, List.length_map, Bool.not_eq_true', Bool.not_eq_false', decide_eq_true_eq, decide_eq_false_iff_not] at d0
      simp only [allP]
      and_intros <;> first
        | omega)

theorem few3_1 (s : Sp) (h : decide ((s.attrs.length : Int) > 20) = true) (tq0 : (decide (Int.ofNat (ByteArray.size (Sp.svc s)) > (100 : Int))) = false) (tq1 : (decide (Int.ofNat (ByteArray.size (Sp.op s)) > (100 : Int))) = true) : Contract Try.prog 22 [s.v] [] (Bo false) ([]) :=
  vcP hmix [.reg 1 [(4, [], some false), (10, [], some true), (14, [], some true)]] [] [
      decide (Int.ofNat (ByteArray.size (Sp.svc s)) > (100 : Int)) = false,
      decide (Int.ofNat (ByteArray.size (Sp.op s)) > (100 : Int)) = true] (by kernel_rfl)
    (by
      have d0 := tq0
      have d1 := tq1
      try simp only [Int.ofNat_eq_natCast, List.length_map, Bool.not_eq_true', Bool.not_eq_false', decide_eq_true_eq, decide_eq_false_iff_not] at d0 d1
      simp only [allP]
      and_intros <;> first
        | omega)

theorem few3_2 (s : Sp) (h : decide ((s.attrs.length : Int) > 20) = true) (tq0 : (decide (Int.ofNat (ByteArray.size (Sp.svc s)) > (100 : Int))) = false) (tq1 : (decide (Int.ofNat (ByteArray.size (Sp.op s)) > (100 : Int))) = false) : Contract Try.prog 22 [s.v] [] (Bo false) ([]) :=
  vcP hmix [.reg 1 [(4, [], some false), (10, [], some false), (14, [], some true)]] [] [
      decide (Int.ofNat (ByteArray.size (Sp.svc s)) > (100 : Int)) = false,
      decide (Int.ofNat (ByteArray.size (Sp.op s)) > (100 : Int)) = false,
      decide (Int.ofNat (List.length (List.map At.row (Sp.attrs s))) > (20 : Int)) = true] (by kernel_rfl)
    (by
      have d0 := tq0
      have d1 := tq1
      try simp only [Int.ofNat_eq_natCast, List.length_map, Bool.not_eq_true', Bool.not_eq_false', decide_eq_true_eq, decide_eq_false_iff_not] at d0 d1
      simp only [allP]
      and_intros <;> first
        | omega
        | (simp at h ⊢; omega))

theorem few3 (s : Sp) (h : decide ((s.attrs.length : Int) > 20) = true) : Contract Try.prog 22 [s.v] [] (Bo false) [] := by
  rcases tf (decide (Int.ofNat (ByteArray.size (Sp.svc s)) > (100 : Int))) with tq0 | tq0
  · exact Contract.cast (by
      first
        | rfl) (by
      first
        | rfl) (few3_0 s h tq0)
  · rcases tf (decide (Int.ofNat (ByteArray.size (Sp.op s)) > (100 : Int))) with tq1 | tq1
    · exact Contract.cast (by
        first
          | rfl) (by
        first
          | rfl) (few3_1 s h tq0 tq1)
    · exact Contract.cast (by
        first
          | rfl) (by
        first
          | rfl) (few3_2 s h tq0 tq1)

theorem cFew (s : Sp) : Contract Try.prog 22 [s.v] [] (Bo (fewS s)) [] := by
  unfold fewS
  rcases tf (decide ((s.attrs.length : Int) > 20)) with h3 | h3
  · rw [h3]; simp only [Bool.not_true, Bool.and_false, Bool.false_and]; exact few3 s h3
  · have hs : s.attrs.length ≤ 20 := by simp at h3; omega
    rcases LoopC.search (P := Try.prog) (k := 0) (n := 45) (c := feB) s.attrs (fun _ a => longA a) (fun i => feS s false i) (fun i => feS s false i) (e1 := .ret) (e2 := .exit 0) (by simp) (by simp)
      (fun i a hx hi hb => feGo s a i hi hx hs hb) (fun i a hx hi hb => feStop s a i hi hx hs hb) (feE s _ (Nat.le_refl _)) with ⟨i, a, k1, k2, _, k4⟩ | ⟨k1, k2⟩
    · rw [all_not k1 k2, Bool.and_false]; exact few1 s i k4
    · rw [all_of_idx k1, Bool.and_true]; exact few2 s k2
theorem fa_0 (l : List Sp) (x : Sp) (i : Nat) (h : i < l.length) (hx : l[i]? = some x) (hs : l.length ≤ 60) (tq0 : (!fewS x) = true) : CodeC Try.prog 0 19 faB (faS l false i) (Ex.ret) ({ env := [((0 : Nat), V.sl (10 : Nat) (List.map Sp.row l)), ((2 : Nat), Bo false), ((3 : Nat), I (Int.ofNat i))], st := [], ids := [] }) :=
  runP hmix [.reg 4 [(3, [], some true)], .reg 6 [(3, [.row (Sp.row x)], none), (4, [.call [] [] (Bo (fewS x)) []], none), (5, [], some true)]] ⟨[0, 2, 3], [], []⟩ [
      decide (Int.ofNat i < Int.ofNat (List.length (List.map Sp.row l))) = true,
      (0 : Int) ≤ Int.ofNat i,
      Int.ofNat i < Int.ofNat (List.length (List.map Sp.row l)),
      (List.map Sp.row l)[i]? = some (Sp.row x),
      Contract Try.prog (22 : Nat) [V.agg [V.val (Value.int IntKind.u64 (Sp.hi x)), V.val (Value.int IntKind.u64 (Sp.lo x)), V.val (Value.int IntKind.u64 (Sp.id x)), V.val (Value.int IntKind.u64 (Sp.par x)), Sg (Sp.svc x), Sg (Sp.op x), I (Sp.start x), I (Sp.dur x), Bo (Sp.err x), V.sl (2 : Nat) (List.map At.row (Sp.attrs x))]] [] (Bo (fewS x)) [],
      (!fewS x) = true] (by kernel_rfl)
    (by
      have d0 := tq0
      try simp only [Int.ofNat_eq_natCast, List.length_map, Bool.not_eq_true', Bool.not_eq_false', decide_eq_true_eq, decide_eq_false_iff_not] at d0
      simp only [allP]
      and_intros <;> first
        | omega
        | exact cFew x
        | (simp; omega)
        | (simp [hx]; done))

theorem fa_1 (l : List Sp) (x : Sp) (i : Nat) (h : i < l.length) (hx : l[i]? = some x) (hs : l.length ≤ 60) (tq0 : (!fewS x) = false) : CodeC Try.prog 0 19 faB (faS l false i) (Ex.normal) ({ env := [((0 : Nat), V.sl (10 : Nat) (List.map Sp.row l)), ((2 : Nat), Bo false), ((3 : Nat), I (Int.ofNat (i + (1 : Nat))))], st := [], ids := [] }) :=
  runP hmix [.reg 4 [(3, [], some true)], .reg 6 [(3, [.row (Sp.row x)], none), (4, [.call [] [] (Bo (fewS x)) []], none), (5, [], some false)], .reg 5 [(1, [.be (I ((i + 1 : Nat) : Int))], none)]] ⟨[0, 2, 3], [], []⟩ [
      decide (Int.ofNat i < Int.ofNat (List.length (List.map Sp.row l))) = true,
      (0 : Int) ≤ Int.ofNat i,
      Int.ofNat i < Int.ofNat (List.length (List.map Sp.row l)),
      (List.map Sp.row l)[i]? = some (Sp.row x),
      Contract Try.prog (22 : Nat) [V.agg [V.val (Value.int IntKind.u64 (Sp.hi x)), V.val (Value.int IntKind.u64 (Sp.lo x)), V.val (Value.int IntKind.u64 (Sp.id x)), V.val (Value.int IntKind.u64 (Sp.par x)), Sg (Sp.svc x), Sg (Sp.op x), I (Sp.start x), I (Sp.dur x), Bo (Sp.err x), V.sl (2 : Nat) (List.map At.row (Sp.attrs x))]] [] (Bo (fewS x)) [],
      (!fewS x) = false,
      IntKind.wrap IntKind.i64 (Int.ofNat (i + (1 : Nat))) = Int.ofNat (i + (1 : Nat))] (by kernel_rfl)
    (by
      have d0 := tq0
      try simp only [Int.ofNat_eq_natCast, List.length_map, Bool.not_eq_true', Bool.not_eq_false', decide_eq_true_eq, decide_eq_false_iff_not] at d0
      simp only [allP]
      and_intros <;> first
        | omega
        | exact cFew x
        | (simp; omega)
        | (simp [hx]; done)
        | exact i64_small (by simp; omega))

theorem faGo (l : List Sp) (x : Sp) (i : Nat) (h : i < l.length) (hx : l[i]? = some x) (hs : l.length ≤ 60) (hb : fewS x = true) : CodeC Try.prog 0 19 faB (faS l false i) .normal (faS l false (i + 1)) := by
  rcases tf (!fewS x) with tq0 | tq0
  · exact absurd hb (by
      first
        | ((try simp only [Int.ofNat_eq_natCast, List.length_map, Bool.not_eq_true', Bool.not_eq_false', decide_eq_true_eq, decide_eq_false_iff_not] at tq0); simp [tq0]; done))
  · exact CodeC.cast (by
      first
        | rfl) (fa_1 l x i h hx hs tq0)

theorem faStop (l : List Sp) (x : Sp) (i : Nat) (h : i < l.length) (hx : l[i]? = some x) (hs : l.length ≤ 60) (hb : fewS x = false) : CodeC Try.prog 0 19 faB (faS l false i) .ret (faS l false i) := by
  rcases tf (!fewS x) with tq0 | tq0
  · exact CodeC.cast (by
      first
        | rfl) (fa_0 l x i h hx hs tq0)
  · exact absurd hb (by
      first
        | ((try simp only [Int.ofNat_eq_natCast, List.length_map, Bool.not_eq_true', Bool.not_eq_false', decide_eq_true_eq, decide_eq_false_iff_not] at tq0); simp [tq0]; done))

theorem faE_0 (l : List Sp) (i : Nat) (h : l.length ≤ i) : CodeC Try.prog 0 19 faB (faS l false i) (Ex.exit (0 : Nat)) ({ env := [((0 : Nat), V.sl (10 : Nat) (List.map Sp.row l)), ((2 : Nat), Bo false), ((3 : Nat), I (Int.ofNat i))], st := [], ids := [] }) :=
  runP hmix [.reg 4 [(3, [], some false)]] ⟨[0, 2, 3], [], []⟩ [
      decide (Int.ofNat i < Int.ofNat (List.length (List.map Sp.row l))) = false] (by kernel_rfl)
    (by
      simp only [allP]
      and_intros <;> first
        | (simp; omega))

theorem faE (l : List Sp) (i : Nat) (h : l.length ≤ i)  : CodeC Try.prog 0 19 faB (faS l false i) (.exit 0) (faS l false i) := by
  exact CodeC.cast (by
    first
      | rfl) (faE_0 l i h )

theorem fewAll1_0 (l : List Sp) (i : Nat) (hl : LoopC Try.prog 0 19 faB (faS l false 0) .ret (faS l false i)) (tq0 : (decide (Int.ofNat (List.length (List.map Sp.row l)) > (60 : Int))) = true) : Contract Try.prog 10 [.sl 10 (l.map Sp.row)] [] (Bo false) ([]) :=
  vcP hmix [.reg 1 [(2, [], some true)]] [] [
      decide (Int.ofNat (List.length (List.map Sp.row l)) > (60 : Int)) = true] (by kernel_rfl)
    (by
      have d0 := tq0
      try simp only [Int.ofNat_eq_natCast, List.length_map, Bool.not_eq_true', Bool.not_eq_false', decide_eq_true_eq, decide_eq_false_iff_not] at d0
      simp only [allP]
      and_intros <;> first
        | omega)

theorem fewAll1_1 (l : List Sp) (i : Nat) (hl : LoopC Try.prog 0 19 faB (faS l false 0) .ret (faS l false i)) (tq0 : (decide (Int.ofNat (List.length (List.map Sp.row l)) > (60 : Int))) = false) : Contract Try.prog 10 [.sl 10 (l.map Sp.row)] [] (Bo false) ([]) :=
  vcP hmix [.reg 1 [(2, [], some false)], .cut ⟨[0, 2, 3], [], []⟩ .ret (faS l false i)] [] [
      decide (Int.ofNat (List.length (List.map Sp.row l)) > (60 : Int)) = false,
      LoopC Try.prog (0 : Nat) (19 : Nat) faB { env := [((0 : Nat), V.sl (10 : Nat) (List.map Sp.row l)), ((2 : Nat), Bo false), ((3 : Nat), I (0 : Int))], st := [], ids := [] } Ex.ret { env := [((0 : Nat), V.sl (10 : Nat) (List.map Sp.row l)), ((2 : Nat), Bo false), ((3 : Nat), I (Int.ofNat i))], st := [], ids := [] }] (by kernel_rfl)
    (by
      have d0 := tq0
      try simp only [Int.ofNat_eq_natCast, List.length_map, Bool.not_eq_true', Bool.not_eq_false', decide_eq_true_eq, decide_eq_false_iff_not] at d0
      simp only [allP]
      and_intros <;> first
        | omega
        | exact hl)

theorem fewAll1 (l : List Sp) (i : Nat) (hl : LoopC Try.prog 0 19 faB (faS l false 0) .ret (faS l false i)) : Contract Try.prog 10 [.sl 10 (l.map Sp.row)] [] (Bo false) [] := by
  rcases tf (decide (Int.ofNat (List.length (List.map Sp.row l)) > (60 : Int))) with tq0 | tq0
  · exact Contract.cast (by
      first
        | rfl) (by
      first
        | rfl) (fewAll1_0 l i hl tq0)
  · exact Contract.cast (by
      first
        | rfl) (by
      first
        | rfl) (fewAll1_1 l i hl tq0)

theorem fewAll2_0 (l : List Sp) (hl : LoopC Try.prog 0 19 faB (faS l false 0) (.exit 0) (faS l false l.length)) (tq0 : (decide (Int.ofNat (List.length (List.map Sp.row l)) > (60 : Int))) = true) : Contract Try.prog 10 [.sl 10 (l.map Sp.row)] [] (Bo false) ([]) :=
  vcP hmix [.reg 1 [(2, [], some true)]] [] [
      decide (Int.ofNat (List.length (List.map Sp.row l)) > (60 : Int)) = true] (by kernel_rfl)
    (by
      have d0 := tq0
      try simp only [Int.ofNat_eq_natCast, List.length_map, Bool.not_eq_true', Bool.not_eq_false', decide_eq_true_eq, decide_eq_false_iff_not] at d0
      simp only [allP]
      and_intros <;> first
        | omega)

theorem fewAll2_1 (l : List Sp) (hl : LoopC Try.prog 0 19 faB (faS l false 0) (.exit 0) (faS l false l.length)) (tq0 : (decide (Int.ofNat (List.length (List.map Sp.row l)) > (60 : Int))) = false) : Contract Try.prog 10 [.sl 10 (l.map Sp.row)] [] (Bo true) ([]) :=
  vcP hmix [.reg 1 [(2, [], some false)], .cut ⟨[0, 2, 3], [], []⟩ (.exit 0) (faS l false l.length)] [] [
      decide (Int.ofNat (List.length (List.map Sp.row l)) > (60 : Int)) = false,
      LoopC Try.prog (0 : Nat) (19 : Nat) faB { env := [((0 : Nat), V.sl (10 : Nat) (List.map Sp.row l)), ((2 : Nat), Bo false), ((3 : Nat), I (0 : Int))], st := [], ids := [] } (Ex.exit (0 : Nat)) { env := [((0 : Nat), V.sl (10 : Nat) (List.map Sp.row l)), ((2 : Nat), Bo false), ((3 : Nat), I (Int.ofNat (List.length l)))], st := [], ids := [] }] (by kernel_rfl)
    (by
      have d0 := tq0
      try simp only [Int.ofNat_eq_natCast, List.length_map, Bool.not_eq_true', Bool.not_eq_false', decide_eq_true_eq, decide_eq_false_iff_not] at d0
      simp only [allP]
      and_intros <;> first
        | omega
        | exact hl)

theorem fewAll2 (l : List Sp) (hl : LoopC Try.prog 0 19 faB (faS l false 0) (.exit 0) (faS l false l.length)) : Contract Try.prog 10 [.sl 10 (l.map Sp.row)] [] (Bo (!decide ((l.length : Int) > 60))) [] := by
  rcases tf (decide (Int.ofNat (List.length (List.map Sp.row l)) > (60 : Int))) with tq0 | tq0
  · exact Contract.cast (by
      first
        | ((try simp only [Int.ofNat_eq_natCast, List.length_map, Bool.not_eq_true', Bool.not_eq_false', decide_eq_true_eq, decide_eq_false_iff_not] at tq0); simp [tq0]; done)) (by
      first
        | rfl) (fewAll2_0 l hl tq0)
  · exact Contract.cast (by
      first
        | ((try simp only [Int.ofNat_eq_natCast, List.length_map, Bool.not_eq_true', Bool.not_eq_false', decide_eq_true_eq, decide_eq_false_iff_not] at tq0); simp [tq0]; done)) (by
      first
        | rfl) (fewAll2_1 l hl tq0)

theorem fewAll3_0 (l : List Sp) (h : decide ((l.length : Int) > 60) = true) : Contract Try.prog 10 [.sl 10 (l.map Sp.row)] [] (Bo false) ([]) :=
  vcP hmix [.reg 1 [(2, [], some true)]] [] [
      decide (Int.ofNat (List.length (List.map Sp.row l)) > (60 : Int)) = true] (by kernel_rfl)
    (by
      simp only [allP]
      and_intros <;> first
        | (simp at h ⊢; omega))

theorem fewAll3 (l : List Sp) (h : decide ((l.length : Int) > 60) = true) : Contract Try.prog 10 [.sl 10 (l.map Sp.row)] [] (Bo false) [] := by
  exact Contract.cast (by
    first
      | rfl) (by
    first
      | rfl) (fewAll3_0 l h )

theorem cFewAll (l : List Sp) : Contract Try.prog 10 [.sl 10 (l.map Sp.row)] [] (Bo (fewAll l)) [] := by
  unfold fewAll
  rcases tf (decide ((l.length : Int) > 60)) with h3 | h3
  · rw [h3]; simp only [Bool.not_true, Bool.false_and]; exact fewAll3 l h3
  · have hs : l.length ≤ 60 := by simp at h3; omega
    rcases LoopC.search (P := Try.prog) (k := 0) (n := 19) (c := faB) l (fun _ x => !fewS x) (fun i => faS l false i) (fun i => faS l false i) (e1 := .ret) (e2 := .exit 0) (by simp) (by simp)
      (fun i a hx hi hb => faGo l a i hi hx hs (by simpa using hb)) (fun i a hx hi hb => faStop l a i hi hx hs (by simpa using hb)) (faE l _ (Nat.le_refl _)) with ⟨i, a, k1, k2, _, k4⟩ | ⟨k1, k2⟩
    · have := all_not (p := fun x => !fewS x) k1 k2
      simp only [Bool.not_not] at this
      rw [show l.all fewS = false from this, Bool.and_false]; exact fewAll1 l i k4
    · have := all_of_idx (p := fun x => !fewS x) k1
      simp only [Bool.not_not] at this
      rw [show l.all fewS = true from this, Bool.and_true]; exact fewAll2 l k2
theorem few_of {x : Sp} (h : fewS x = true) : x.attrs.length ≤ 20 := by
  unfold fewS at h
  simp only [Bool.and_eq_true, Bool.not_eq_true', decide_eq_false_iff_not] at h
  omega
theorem fewAll_len {l : List Sp} (h : fewAll l = true) : l.length ≤ 60 ∧ ∀ x ∈ l, x.attrs.length ≤ 20 := by
  unfold fewAll at h
  simp only [Bool.and_eq_true, Bool.not_eq_true', decide_eq_false_iff_not, List.all_eq_true] at h
  exact ⟨by omega, fun x hx => few_of (h.2 x hx)⟩
end Go.Proofs.Ythhggnnfiohnpaa

/- that two lists are one; the example of the document. -/
namespace Go.Proofs.Ythhggnnfiohnpaa
open E
set_option maxRecDepth 100000
set_option linter.unusedVariables false
set_option linter.unusedSimpArgs false

def s1 : Sp := ⟨0, 0, 1, 9, ByteArray.empty, ByteArray.empty, 0, 0, false, []⟩
def s2 : Sp := ⟨0, 0, 2, 1, ByteArray.empty, ByteArray.empty, 0, 0, false, []⟩
def saS (A : List Int) (i : Nat) : SL := ⟨[(0, .sl 1 (A.map bI)), (1, .sl 1 (A.map bI)), (5, I (i : Int))], [], []⟩
def FAl : List V → Option V := fun _ => some (Bo true)
noncomputable def saB : Code := codeAt Try.prog 11 [true, true, false, true, false, false]

theorem saG_0 (A : List Int) (v : Int) (i : Nat) (hv : A[i]? = some v) (hi : i < A.length) (hs : A.length ≤ 1000000) : CodeC Try.prog 0 26 saB (saS A i) (Ex.normal) ({ env := [((0 : Nat), V.sl (1 : Nat) (List.map bI A)), ((1 : Nat), V.sl (1 : Nat) (List.map bI A)), ((5 : Nat), I (Int.ofNat (i + (1 : Nat))))], st := [], ids := [] }) :=
  runP hmix [.reg 4 [(3, [], some true)], .reg 6 [(3, [.row [I v]], none), (7, [.row [I v]], none), (8, [], some false)], .reg 5 [(1, [.be (I ((i + 1 : Nat) : Int))], none)]] ⟨[0, 1, 5], [], []⟩ [
      decide (Int.ofNat i < Int.ofNat (List.length (List.map bI A))) = true,
      (0 : Int) ≤ Int.ofNat i,
      Int.ofNat i < Int.ofNat (List.length (List.map bI A)),
      (List.map bI A)[i]? = some [I v],
      (0 : Int) ≤ Int.ofNat i,
      Int.ofNat i < Int.ofNat (List.length (List.map bI A)),
      (List.map bI A)[i]? = some [I v],
      (v != v) = false,
      IntKind.wrap IntKind.i64 (Int.ofNat (i + (1 : Nat))) = Int.ofNat (i + (1 : Nat))] (by kernel_rfl)
    (by
      simp only [allP]
      and_intros <;> first
        | exact bI_at hv
        | exact i64_small (by simp; omega)
        | (simp; omega)
        | (simp; done))

theorem saG (A : List Int) (v : Int) (i : Nat) (hv : A[i]? = some v) (hi : i < A.length) (hs : A.length ≤ 1000000)  : CodeC Try.prog 0 26 saB (saS A i) .normal (saS A (i + 1)) := by
  exact CodeC.cast (by
    first
      | rfl) (saG_0 A v i hv hi hs )

theorem saE_0 (A : List Int) (i : Nat) (h : A.length ≤ i) : CodeC Try.prog 0 26 saB (saS A i) (Ex.exit (0 : Nat)) ({ env := [((0 : Nat), V.sl (1 : Nat) (List.map bI A)), ((1 : Nat), V.sl (1 : Nat) (List.map bI A)), ((5 : Nat), I (Int.ofNat i))], st := [], ids := [] }) :=
  runP hmix [.reg 4 [(3, [], some false)]] ⟨[0, 1, 5], [], []⟩ [
      decide (Int.ofNat i < Int.ofNat (List.length (List.map bI A))) = false] (by kernel_rfl)
    (by
      simp only [allP]
      and_intros <;> first
        | (simp; omega))

theorem saE (A : List Int) (i : Nat) (h : A.length ≤ i)  : CodeC Try.prog 0 26 saB (saS A i) (.exit 0) (saS A i) := by
  exact CodeC.cast (by
    first
      | rfl) (saE_0 A i h )

theorem sa_f_0 (A : List Int) (hl : LoopC Try.prog 0 26 saB (saS A 0) (.exit 0) (saS A A.length)) : Contract Try.prog 11 [.sl 1 (A.map bI), .sl 1 (A.map bI)] [] (Bo true) ([]) :=
  vcP hmix [.reg 1 [(4, [], some false)], .cut ⟨[0, 1, 5], [], []⟩ (.exit 0) (saS A A.length)] [] [
      (Int.ofNat (List.length (List.map bI A)) != Int.ofNat (List.length (List.map bI A))) = false,
      LoopC Try.prog (0 : Nat) (26 : Nat) saB { env := [((0 : Nat), V.sl (1 : Nat) (List.map bI A)), ((1 : Nat), V.sl (1 : Nat) (List.map bI A)), ((5 : Nat), I (0 : Int))], st := [], ids := [] } (Ex.exit (0 : Nat)) { env := [((0 : Nat), V.sl (1 : Nat) (List.map bI A)), ((1 : Nat), V.sl (1 : Nat) (List.map bI A)), ((5 : Nat), I (Int.ofNat (List.length A)))], st := [], ids := [] }] (by kernel_rfl)
    (by
      simp only [allP]
      and_intros <;> first
        | exact hl
        | (simp; done))

theorem sa_f (A : List Int) (hl : LoopC Try.prog 0 26 saB (saS A 0) (.exit 0) (saS A A.length)) : Contract Try.prog 11 [.sl 1 (A.map bI), .sl 1 (A.map bI)] [] (Bo true) [] := by
  exact Contract.cast (by
    first
      | rfl) (by
    first
      | rfl) (sa_f_0 A hl )

theorem cSame (A : List Int) (hs : A.length ≤ 1000000) : Contract Try.prog 11 [.sl 1 (A.map bI), .sl 1 (A.map bI)] [] (Bo true) [] :=
  sa_f A (LoopC.pass A (fun i => saS A i) (by simp) (fun i v hv hi => saG A v i hv hi hs) (saE A _ (Nat.le_refl _)))
theorem ixB {l : List Sp} (L : List (Ix l)) : (L.map fun x => (x.n : Int)).map bI = L.map Ix.row := by
  rw [List.map_map]; rfl
theorem cSameX {l : List Sp} (L : List (Ix l)) (hs : L.length ≤ 1000000) : Contract Try.prog 11 [.sl 1 (L.map Ix.row), .sl 1 (L.map Ix.row)] [] (Bo true) [] := by
  have := cSame (L.map fun x => (x.n : Int)) (by simpa using hs)
  rwa [ixB] at this
theorem cParAl : Contract Try.prog 8 [.sl 10 ([s1, s2].map Sp.row)] [] (.own 0) [some (.arr 1 [[I (-1)], [I 0]])] := by
  have h := cPar [s1, s2] (by decide)
  have e : parF [s1, s2] = [-1, 0] := by decide
  rw [e] at h
  exact h
theorem cOrdAl : Contract Try.prog 13 [.sl 10 []] [] (.own 0) [some (.arr 1 [])] := by
  have h := cOrder [] (by simp)
  have e : ordX [] = [] := rfl
  rw [e] at h
  exact h
theorem cAlive_0   : Contract Try.prog 7 [] [] (Bo true) ([]) :=
  vcP hmix [.reg 1 [(3, [.call [] [] (.own 0) [some (.arr 1 [[I (-1)], [I 0]])]], none)], .reg 2 [(0, [.call [] [] (.own 0) [some (.arr 1 [])]], none)]] [] [
      Contract Try.prog (8 : Nat) [V.sl (10 : Nat) [[V.val (Value.int IntKind.u64 (0 : Int)), V.val (Value.int IntKind.u64 (0 : Int)), V.val (Value.int IntKind.u64 (1 : Int)), V.val (Value.int IntKind.u64 (9 : Int)), Sg { data := { toList := [] } }, Sg { data := { toList := [] } }, I (0 : Int), I (0 : Int), Bo false, V.sl (2 : Nat) []], [V.val (Value.int IntKind.u64 (0 : Int)), V.val (Value.int IntKind.u64 (0 : Int)), V.val (Value.int IntKind.u64 (2 : Int)), V.val (Value.int IntKind.u64 (1 : Int)), Sg { data := { toList := [] } }, Sg { data := { toList := [] } }, I (0 : Int), I (0 : Int), Bo false, V.sl (2 : Nat) []]]] [] (V.own (0 : Nat)) [some (Obj.arr (1 : Nat) [[I (-1 : Int)], [I (0 : Int)]])],
      true = true,
      FlatRows [[I (-1 : Int)], [I (0 : Int)]],
      Contract Try.prog (13 : Nat) [V.sl (10 : Nat) []] [] (V.own (0 : Nat)) [some (Obj.arr (1 : Nat) [])],
      (0 : Int) ≤ (0 : Int),
      (0 : Int) < (2 : Int),
      (0 : Int) ≤ (1 : Int),
      (1 : Int) < (2 : Int)] (by kernel_rfl)
    (by
      simp only [allP]
      and_intros <;> first
        | omega
        | exact cParAl
        | exact cOrdAl
        | (intro r hr; simp at hr; rcases hr with rfl | rfl <;> rfl)
        | (simp; done))

theorem cAlive   : Contract Try.prog 7 [] [] (Bo true) [] := by
  exact Contract.cast (by
    first
      | rfl) (by
    first
      | rfl) (cAlive_0   )

end Go.Proofs.Ythhggnnfiohnpaa

/- TreeRing: the walks. -/
namespace Go.Proofs.Ythhggnnfiohnpaa
open E
set_option maxRecDepth 100000
set_option linter.unusedVariables false
set_option linter.unusedSimpArgs false

def mkS (a b : Nat) : Sp := ⟨0, 0, (a : Int), (b : Int), ByteArray.empty, ByteArray.empty, 0, 0, false, []⟩
def ring1 (n i : Nat) : List Sp := (List.range i).map fun i => mkS i ((i + 1) % n)
def ring2 (n i : Nat) : List Sp := ring1 n n ++ (List.range i).map fun i => mkS (100 + i) (n - 1)
def tr1S (n t : Nat) (L : List Sp) (i : Nat) : SL := ⟨[(0, I (n : Int)), (1, I (t : Int)), (6, .own 900), (7, I (i : Int))], [(900, .arr 10 (L.map Sp.row))], [900]⟩
def tr2S (n t : Nat) (L : List Sp) (i : Nat) : SL := ⟨[(0, I (n : Int)), (1, I (t : Int)), (6, .own 900), (8, I (i : Int))], [(900, .arr 10 (L.map Sp.row))], [900]⟩
def tr3S (n : Nat) (L : List Sp) (P D : List Int) (i : Nat) : SL := ⟨[(0, I (n : Int)), (6, .own 900), (9, .own 901), (10, .own 902), (11, I (i : Int))], [(900, .arr 10 (L.map Sp.row)), (901, .arr 1 (P.map bI)), (902, .arr 1 (D.map bI))], [900, 901, 902]⟩
def tr4S (n : Nat) (L : List Sp) (P D : List Int) (i : Nat) : SL := ⟨[(0, I (n : Int)), (6, .own 900), (9, .own 901), (10, .own 902), (14, I (i : Int))], [(900, .arr 10 (L.map Sp.row)), (901, .arr 1 (P.map bI)), (902, .arr 1 (D.map bI))], [900, 901, 902]⟩
theorem u64_small {n : Int} (h : 0 ≤ n ∧ n ≤ 9223372036854775807) : IntKind.u64.wrap n = n := by
  simp only [IntKind.wrap, IntKind.signed, IntKind.bits]
  simp
  omega
theorem tmodN (a b : Nat) : Int.tmod (a : Int) (b : Int) = ((a % b : Nat) : Int) := rfl
theorem mkS_snoc (L : List Sp) (a b : Nat) : L.map Sp.row ++ [[U 0, U 0, U (a : Int), U (b : Int), Sg ByteArray.empty, Sg ByteArray.empty, I 0, I 0, Bo false, .sl 2 []]] = (L ++ [mkS a b]).map Sp.row := by rw [List.map_append]; rfl
noncomputable def tr1B : Code := codeAt Try.prog 3 [true, true, true, true, false, true, false, false]

noncomputable def tr2B : Code := codeAt Try.prog 3 [true, true, true, true, true, false, true, false, false]

noncomputable def tr3B : Code := codeAt Try.prog 3 [true, true, true, true, true, true, true, true, true, false, true, false, false]

noncomputable def tr4B : Code := codeAt Try.prog 3 [true, true, true, true, true, true, true, true, true, true, false, true, false, false]

theorem tr1G_0 (n t i : Nat) (L : List Sp) (h1 : 1 ≤ n) (hn : n ≤ 20) (hi : i < n) (hL : L.length ≤ 1000) : CodeC Try.prog 0 141 tr1B (tr1S n t L i) (Ex.normal) ({ env := [((0 : Nat), I (Int.ofNat n)), ((1 : Nat), I (Int.ofNat t)), ((6 : Nat), V.own (900 : Nat)), ((7 : Nat), I (Int.ofNat (i + (1 : Nat))))], st := [((900 : Nat), Obj.arr (10 : Nat) (List.map Sp.row (L ++ [mkS i ((i + (1 : Nat)) % n)])))], ids := [(900 : Nat)] }) :=
  runP hmix [.reg 6 [(2, [], some true)], .reg 8 [(2, [.be (U ((i : Nat) : Int))], none), (4, [.be (I ((i + 1 : Nat) : Int))], none), (6, [.idx 0, .be (I (((i + 1) % n : Nat) : Int))], none), (7, [.be (U (((i + 1) % n : Nat) : Int))], none), (10, [.beO ((L ++ [mkS i ((i + 1) % n)]).map Sp.row)], none)], .reg 7 [(1, [.be (I ((i + 1 : Nat) : Int))], none)]] ⟨[0, 1, 6, 7], [(1611000, 900)], []⟩ [
      decide (Int.ofNat i < Int.ofNat n) = true,
      Int.ofNat (i % (18446744073709551616 : Nat)) = Int.ofNat i,
      IntKind.wrap IntKind.i64 (Int.ofNat (i + (1 : Nat))) = Int.ofNat (i + (1 : Nat)),
      Int.ofNat n ≠ (0 : Int),
      Int.ofNat ((i + (1 : Nat)) % n) = Int.ofNat ((i + (1 : Nat)) % n),
      Int.ofNat ((i + (1 : Nat)) % n % (18446744073709551616 : Nat)) = Int.ofNat ((i + (1 : Nat)) % n),
      (List.length (List.map Sp.row L) + (1 : Nat)) * (112 : Nat) ≤ (140737488355328 : Nat),
      List.map Sp.row L ++ [[V.val (Value.int IntKind.u64 (0 : Int)), V.val (Value.int IntKind.u64 (0 : Int)), V.val (Value.int IntKind.u64 (Int.ofNat i)), V.val (Value.int IntKind.u64 (Int.ofNat ((i + (1 : Nat)) % n))), Sg { data := { toList := [] } }, Sg { data := { toList := [] } }, I (0 : Int), I (0 : Int), Bo false, V.sl (2 : Nat) []]] = List.map Sp.row (L ++ [mkS i ((i + (1 : Nat)) % n)]),
      IntKind.wrap IntKind.i64 (Int.ofNat (i + (1 : Nat))) = Int.ofNat (i + (1 : Nat))] (by kernel_rfl)
    (by
      simp only [allP]
      and_intros <;> first
        | exact mkS_snoc _ _ _
        | exact i64_small (by simp; omega)
        | (congr 1; exact Nat.mod_eq_of_lt (by have h9 := Nat.mod_lt (i + 1) (show 0 < n by omega); omega))
        | (simp; omega)
        | (simp; done))

theorem tr1G (n t i : Nat) (L : List Sp) (h1 : 1 ≤ n) (hn : n ≤ 20) (hi : i < n) (hL : L.length ≤ 1000)  : CodeC Try.prog 0 141 tr1B (tr1S n t L i) .normal (tr1S n t (L ++ [mkS i ((i + 1) % n)]) (i + 1)) := by
  exact CodeC.cast (by
    first
      | rfl) (tr1G_0 n t i L h1 hn hi hL )

theorem tr1E_0 (n t i : Nat) (L : List Sp) (h : n ≤ i) : CodeC Try.prog 0 141 tr1B (tr1S n t L i) (Ex.exit (0 : Nat)) ({ env := [((0 : Nat), I (Int.ofNat n)), ((1 : Nat), I (Int.ofNat t)), ((6 : Nat), V.own (900 : Nat)), ((7 : Nat), I (Int.ofNat i))], st := [((900 : Nat), Obj.arr (10 : Nat) (List.map Sp.row L))], ids := [(900 : Nat)] }) :=
  runP hmix [.reg 6 [(2, [], some false)]] ⟨[0, 1, 6, 7], [(900, 900)], []⟩ [
      decide (Int.ofNat i < Int.ofNat n) = false] (by kernel_rfl)
    (by
      simp only [allP]
      and_intros <;> first
        | (simp; omega))

theorem tr1E (n t i : Nat) (L : List Sp) (h : n ≤ i)  : CodeC Try.prog 0 141 tr1B (tr1S n t L i) (.exit 0) (tr1S n t L i) := by
  exact CodeC.cast (by
    first
      | rfl) (tr1E_0 n t i L h )

theorem tr2G_0 (n t i : Nat) (L : List Sp) (h1 : 1 ≤ n) (hn : n ≤ 20) (hi : i < t) (ht : t ≤ 10) (hL : L.length ≤ 1000) : CodeC Try.prog 0 141 tr2B (tr2S n t L i) (Ex.normal) ({ env := [((0 : Nat), I (Int.ofNat n)), ((1 : Nat), I (Int.ofNat t)), ((6 : Nat), V.own (900 : Nat)), ((8 : Nat), I (Int.ofNat (i + (1 : Nat))))], st := [((900 : Nat), Obj.arr (10 : Nat) (List.map Sp.row (L ++ [mkS ((100 : Nat) + i) (n - (1 : Nat))])))], ids := [(900 : Nat)] }) :=
  runP hmix [.reg 10 [(2, [], some true)], .reg 12 [(2, [.be (I ((100 + i : Nat) : Int))], none), (3, [.be (U ((100 + i : Nat) : Int))], none), (5, [.be (I ((n - 1 : Nat) : Int))], none), (6, [.be (U ((n - 1 : Nat) : Int))], none), (9, [.beO ((L ++ [mkS (100 + i) (n - 1)]).map Sp.row)], none)], .reg 11 [(1, [.be (I ((i + 1 : Nat) : Int))], none)]] ⟨[0, 1, 6, 8], [(2410000, 900)], []⟩ [
      decide (Int.ofNat i < Int.ofNat t) = true,
      IntKind.wrap IntKind.i64 (Int.ofNat ((100 : Nat) + i)) = Int.ofNat ((100 : Nat) + i),
      Int.ofNat (((100 : Nat) + i) % (18446744073709551616 : Nat)) = Int.ofNat ((100 : Nat) + i),
      IntKind.wrap IntKind.i64 (Int.ofNat n + (-1 : Int)) = Int.ofNat (n - (1 : Nat)),
      Int.ofNat ((n - (1 : Nat)) % (18446744073709551616 : Nat)) = Int.ofNat (n - (1 : Nat)),
      (List.length (List.map Sp.row L) + (1 : Nat)) * (112 : Nat) ≤ (140737488355328 : Nat),
      List.map Sp.row L ++ [[V.val (Value.int IntKind.u64 (0 : Int)), V.val (Value.int IntKind.u64 (0 : Int)), V.val (Value.int IntKind.u64 (Int.ofNat ((100 : Nat) + i))), V.val (Value.int IntKind.u64 (Int.ofNat (n - (1 : Nat)))), Sg { data := { toList := [] } }, Sg { data := { toList := [] } }, I (0 : Int), I (0 : Int), Bo false, V.sl (2 : Nat) []]] = List.map Sp.row (L ++ [mkS ((100 : Nat) + i) (n - (1 : Nat))]),
      IntKind.wrap IntKind.i64 (Int.ofNat (i + (1 : Nat))) = Int.ofNat (i + (1 : Nat))] (by kernel_rfl)
    (by
      simp only [allP]
      and_intros <;> first
        | exact mkS_snoc _ _ _
        | exact i64_small (by simp; omega)
        | (rw [i64_small (by simp; omega)]; simp; omega)
        | (congr 1; exact Nat.mod_eq_of_lt (by have h9 := Nat.mod_lt (i + 1) (show 0 < n by omega); omega))
        | (simp; omega))

theorem tr2G (n t i : Nat) (L : List Sp) (h1 : 1 ≤ n) (hn : n ≤ 20) (hi : i < t) (ht : t ≤ 10) (hL : L.length ≤ 1000)  : CodeC Try.prog 0 141 tr2B (tr2S n t L i) .normal (tr2S n t (L ++ [mkS (100 + i) (n - 1)]) (i + 1)) := by
  exact CodeC.cast (by
    first
      | rfl) (tr2G_0 n t i L h1 hn hi ht hL )

theorem tr2E_0 (n t i : Nat) (L : List Sp) (h : t ≤ i) : CodeC Try.prog 0 141 tr2B (tr2S n t L i) (Ex.exit (2 : Nat)) ({ env := [((0 : Nat), I (Int.ofNat n)), ((1 : Nat), I (Int.ofNat t)), ((6 : Nat), V.own (900 : Nat)), ((8 : Nat), I (Int.ofNat i))], st := [((900 : Nat), Obj.arr (10 : Nat) (List.map Sp.row L))], ids := [(900 : Nat)] }) :=
  runP hmix [.reg 10 [(2, [], some false)]] ⟨[0, 1, 6, 8], [(900, 900)], []⟩ [
      decide (Int.ofNat i < Int.ofNat t) = false] (by kernel_rfl)
    (by
      simp only [allP]
      and_intros <;> first
        | (simp; omega))

theorem tr2E (n t i : Nat) (L : List Sp) (h : t ≤ i)  : CodeC Try.prog 0 141 tr2B (tr2S n t L i) (.exit 2) (tr2S n t L i) := by
  exact CodeC.cast (by
    first
      | rfl) (tr2E_0 n t i L h )

theorem tr3a_0 (n i : Nat) (L : List Sp) (P D : List Int) (p d : Int) (hn : n ≤ 20) (hi : i < n) (hp : P[i]? = some p) (hd : D[i]? = some d) (h0 : i = 0) (h1 : n = 1) (hpw : p = -1) (hdw : d = 0) : CodeC Try.prog 0 141 tr3B (tr3S n L P D i) (Ex.normal) ({ env := [((0 : Nat), I (Int.ofNat n)), ((6 : Nat), V.own (900 : Nat)), ((9 : Nat), V.own (901 : Nat)), ((10 : Nat), V.own (902 : Nat)), ((11 : Nat), I (Int.ofNat (i + (1 : Nat))))], st := [((900 : Nat), Obj.arr (10 : Nat) (List.map Sp.row L)), ((901 : Nat), Obj.arr (1 : Nat) (List.map bI P)), ((902 : Nat), Obj.arr (1 : Nat) (List.map bI D))], ids := [(900 : Nat), (901 : Nat), (902 : Nat)] }) :=
  runP hmix [.reg 18 [(2, [], some true)], .reg 20 [(1, [.be (I ((i + 1 : Nat) : Int))], none)], .reg 21 [(2, [.be (I ((n - i : Nat) : Int))], none)], .reg 22 [(1, [], some true)], .reg 25 [(2, [.be (I ((n - 1 : Nat) : Int))], none), (3, [], some true), (6, [], some false)], .reg 27 [(3, [.row [I p]], none), (5, [], some false), (10, [.row [I d]], none), (12, [], some false)], .reg 19 [(1, [.be (I ((i + 1 : Nat) : Int))], none)]] ⟨[0, 6, 9, 10, 11], [(900, 900), (901, 901), (902, 902)], []⟩ [
      decide (Int.ofNat i < Int.ofNat n) = true,
      IntKind.wrap IntKind.i64 (Int.ofNat (i + (1 : Nat))) = Int.ofNat (i + (1 : Nat)),
      IntKind.wrap IntKind.i64 (Int.ofNat n + -Int.ofNat i) = Int.ofNat (n - i),
      (Int.ofNat i == (0 : Int)) = true,
      IntKind.wrap IntKind.i64 (Int.ofNat n + (-1 : Int)) = Int.ofNat (n - (1 : Nat)),
      (Int.ofNat i == Int.ofNat (n - (1 : Nat))) = true,
      decide (Int.ofNat i > (0 : Int)) = false,
      (0 : Int) ≤ Int.ofNat i,
      Int.ofNat i < Int.ofNat (List.length (List.map bI P)),
      (List.map bI P)[i]? = some [I p],
      (p != (-1 : Int)) = false,
      (0 : Int) ≤ Int.ofNat i,
      Int.ofNat i < Int.ofNat (List.length (List.map bI D)),
      (List.map bI D)[i]? = some [I d],
      (d != (0 : Int)) = false,
      IntKind.wrap IntKind.i64 (Int.ofNat (i + (1 : Nat))) = Int.ofNat (i + (1 : Nat))] (by kernel_rfl)
    (by
      simp only [allP]
      and_intros <;> first
        | exact bI_at hp
        | exact bI_at hd
        | (have := (List.getElem?_eq_some_iff.1 hp).1; simp; omega)
        | (have := (List.getElem?_eq_some_iff.1 hd).1; simp; omega)
        | exact i64_small (by simp; omega)
        | (rw [i64_small (by simp; omega)]; simp; omega)
        | (simp; done))

theorem tr3a (n i : Nat) (L : List Sp) (P D : List Int) (p d : Int) (hn : n ≤ 20) (hi : i < n) (hp : P[i]? = some p) (hd : D[i]? = some d) (h0 : i = 0) (h1 : n = 1) (hpw : p = -1) (hdw : d = 0)  : CodeC Try.prog 0 141 tr3B (tr3S n L P D i) .normal (tr3S n L P D (i + 1)) := by
  exact CodeC.cast (by
    first
      | rfl) (tr3a_0 n i L P D p d hn hi hp hd h0 h1 hpw hdw )

theorem tr3b_0 (n i : Nat) (L : List Sp) (P D : List Int) (p d : Int) (hn : n ≤ 20) (hi : i < n) (hp : P[i]? = some p) (hd : D[i]? = some d) (h0 : i = 0) (h1 : 1 < n) (hpw : p = -1) (hdw : d = 0) : CodeC Try.prog 0 141 tr3B (tr3S n L P D i) (Ex.normal) ({ env := [((0 : Nat), I (Int.ofNat n)), ((6 : Nat), V.own (900 : Nat)), ((9 : Nat), V.own (901 : Nat)), ((10 : Nat), V.own (902 : Nat)), ((11 : Nat), I (Int.ofNat (i + (1 : Nat))))], st := [((900 : Nat), Obj.arr (10 : Nat) (List.map Sp.row L)), ((901 : Nat), Obj.arr (1 : Nat) (List.map bI P)), ((902 : Nat), Obj.arr (1 : Nat) (List.map bI D))], ids := [(900 : Nat), (901 : Nat), (902 : Nat)] }) :=
  runP hmix [.reg 18 [(2, [], some true)], .reg 20 [(1, [.be (I ((i + 1 : Nat) : Int))], none)], .reg 21 [(2, [.be (I ((n - i : Nat) : Int))], none)], .reg 22 [(1, [], some true)], .reg 25 [(2, [.be (I ((n - 1 : Nat) : Int))], none), (3, [], some false)], .reg 27 [(3, [.row [I p]], none), (5, [], some false), (10, [.row [I d]], none), (12, [], some false)], .reg 19 [(1, [.be (I ((i + 1 : Nat) : Int))], none)]] ⟨[0, 6, 9, 10, 11], [(900, 900), (901, 901), (902, 902)], []⟩ [
      decide (Int.ofNat i < Int.ofNat n) = true,
      IntKind.wrap IntKind.i64 (Int.ofNat (i + (1 : Nat))) = Int.ofNat (i + (1 : Nat)),
      IntKind.wrap IntKind.i64 (Int.ofNat n + -Int.ofNat i) = Int.ofNat (n - i),
      (Int.ofNat i == (0 : Int)) = true,
      IntKind.wrap IntKind.i64 (Int.ofNat n + (-1 : Int)) = Int.ofNat (n - (1 : Nat)),
      (Int.ofNat i == Int.ofNat (n - (1 : Nat))) = false,
      (0 : Int) ≤ Int.ofNat i,
      Int.ofNat i < Int.ofNat (List.length (List.map bI P)),
      (List.map bI P)[i]? = some [I p],
      (p != (-1 : Int)) = false,
      (0 : Int) ≤ Int.ofNat i,
      Int.ofNat i < Int.ofNat (List.length (List.map bI D)),
      (List.map bI D)[i]? = some [I d],
      (d != (0 : Int)) = false,
      IntKind.wrap IntKind.i64 (Int.ofNat (i + (1 : Nat))) = Int.ofNat (i + (1 : Nat))] (by kernel_rfl)
    (by
      simp only [allP]
      and_intros <;> first
        | exact bI_at hp
        | exact bI_at hd
        | (have := (List.getElem?_eq_some_iff.1 hp).1; simp; omega)
        | (have := (List.getElem?_eq_some_iff.1 hd).1; simp; omega)
        | exact i64_small (by simp; omega)
        | (rw [i64_small (by simp; omega)]; simp; omega)
        | (simp; done))

theorem tr3b (n i : Nat) (L : List Sp) (P D : List Int) (p d : Int) (hn : n ≤ 20) (hi : i < n) (hp : P[i]? = some p) (hd : D[i]? = some d) (h0 : i = 0) (h1 : 1 < n) (hpw : p = -1) (hdw : d = 0)  : CodeC Try.prog 0 141 tr3B (tr3S n L P D i) .normal (tr3S n L P D (i + 1)) := by
  exact CodeC.cast (by
    first
      | rfl) (tr3b_0 n i L P D p d hn hi hp hd h0 h1 hpw hdw )

theorem tr3c_0 (n i : Nat) (L : List Sp) (P D : List Int) (p d : Int) (hn : n ≤ 20) (hi : i < n) (hp : P[i]? = some p) (hd : D[i]? = some d) (h0 : 0 < i) (h1 : i + 1 < n) (hpw : p = ((i + 1 : Nat) : Int)) (hdw : d = ((n - i : Nat) : Int)) : CodeC Try.prog 0 141 tr3B (tr3S n L P D i) (Ex.normal) ({ env := [((0 : Nat), I (Int.ofNat n)), ((6 : Nat), V.own (900 : Nat)), ((9 : Nat), V.own (901 : Nat)), ((10 : Nat), V.own (902 : Nat)), ((11 : Nat), I (Int.ofNat (i + (1 : Nat))))], st := [((900 : Nat), Obj.arr (10 : Nat) (List.map Sp.row L)), ((901 : Nat), Obj.arr (1 : Nat) (List.map bI P)), ((902 : Nat), Obj.arr (1 : Nat) (List.map bI D))], ids := [(900 : Nat), (901 : Nat), (902 : Nat)] }) :=
  runP hmix [.reg 18 [(2, [], some true)], .reg 20 [(1, [.be (I ((i + 1 : Nat) : Int))], none)], .reg 21 [(2, [.be (I ((n - i : Nat) : Int))], none)], .reg 22 [(1, [], some false)], .reg 25 [(2, [.be (I ((n - 1 : Nat) : Int))], none), (3, [], some false)], .reg 27 [(3, [.row [I p]], none), (5, [], some false), (10, [.row [I d]], none), (12, [], some false)], .reg 19 [(1, [.be (I ((i + 1 : Nat) : Int))], none)]] ⟨[0, 6, 9, 10, 11], [(900, 900), (901, 901), (902, 902)], []⟩ [
      decide (Int.ofNat i < Int.ofNat n) = true,
      IntKind.wrap IntKind.i64 (Int.ofNat (i + (1 : Nat))) = Int.ofNat (i + (1 : Nat)),
      IntKind.wrap IntKind.i64 (Int.ofNat n + -Int.ofNat i) = Int.ofNat (n - i),
      (Int.ofNat i == (0 : Int)) = false,
      IntKind.wrap IntKind.i64 (Int.ofNat n + (-1 : Int)) = Int.ofNat (n - (1 : Nat)),
      (Int.ofNat i == Int.ofNat (n - (1 : Nat))) = false,
      (0 : Int) ≤ Int.ofNat i,
      Int.ofNat i < Int.ofNat (List.length (List.map bI P)),
      (List.map bI P)[i]? = some [I p],
      (p != Int.ofNat (i + (1 : Nat))) = false,
      (0 : Int) ≤ Int.ofNat i,
      Int.ofNat i < Int.ofNat (List.length (List.map bI D)),
      (List.map bI D)[i]? = some [I d],
      (d != Int.ofNat (n - i)) = false,
      IntKind.wrap IntKind.i64 (Int.ofNat (i + (1 : Nat))) = Int.ofNat (i + (1 : Nat))] (by kernel_rfl)
    (by
      simp only [allP]
      and_intros <;> first
        | exact bI_at hp
        | exact bI_at hd
        | (have := (List.getElem?_eq_some_iff.1 hp).1; simp; omega)
        | (have := (List.getElem?_eq_some_iff.1 hd).1; simp; omega)
        | exact i64_small (by simp; omega)
        | (rw [i64_small (by simp; omega)]; simp; omega)
        | (simp; done))

theorem tr3c (n i : Nat) (L : List Sp) (P D : List Int) (p d : Int) (hn : n ≤ 20) (hi : i < n) (hp : P[i]? = some p) (hd : D[i]? = some d) (h0 : 0 < i) (h1 : i + 1 < n) (hpw : p = ((i + 1 : Nat) : Int)) (hdw : d = ((n - i : Nat) : Int))  : CodeC Try.prog 0 141 tr3B (tr3S n L P D i) .normal (tr3S n L P D (i + 1)) := by
  exact CodeC.cast (by
    first
      | rfl) (tr3c_0 n i L P D p d hn hi hp hd h0 h1 hpw hdw )

theorem tr3d_0 (n i : Nat) (L : List Sp) (P D : List Int) (p d : Int) (hn : n ≤ 20) (hi : i < n) (hp : P[i]? = some p) (hd : D[i]? = some d) (h0 : 0 < i) (h1 : i + 1 = n) (hpw : p = 0) (hdw : d = ((n - i : Nat) : Int)) : CodeC Try.prog 0 141 tr3B (tr3S n L P D i) (Ex.normal) ({ env := [((0 : Nat), I (Int.ofNat n)), ((6 : Nat), V.own (900 : Nat)), ((9 : Nat), V.own (901 : Nat)), ((10 : Nat), V.own (902 : Nat)), ((11 : Nat), I (Int.ofNat (i + (1 : Nat))))], st := [((900 : Nat), Obj.arr (10 : Nat) (List.map Sp.row L)), ((901 : Nat), Obj.arr (1 : Nat) (List.map bI P)), ((902 : Nat), Obj.arr (1 : Nat) (List.map bI D))], ids := [(900 : Nat), (901 : Nat), (902 : Nat)] }) :=
  runP hmix [.reg 18 [(2, [], some true)], .reg 20 [(1, [.be (I ((i + 1 : Nat) : Int))], none)], .reg 21 [(2, [.be (I ((n - i : Nat) : Int))], none)], .reg 22 [(1, [], some false)], .reg 25 [(2, [.be (I ((n - 1 : Nat) : Int))], none), (3, [], some true), (6, [], some true)], .reg 27 [(3, [.row [I p]], none), (5, [], some false), (10, [.row [I d]], none), (12, [], some false)], .reg 19 [(1, [.be (I ((i + 1 : Nat) : Int))], none)]] ⟨[0, 6, 9, 10, 11], [(900, 900), (901, 901), (902, 902)], []⟩ [
      decide (Int.ofNat i < Int.ofNat n) = true,
      IntKind.wrap IntKind.i64 (Int.ofNat (i + (1 : Nat))) = Int.ofNat (i + (1 : Nat)),
      IntKind.wrap IntKind.i64 (Int.ofNat n + -Int.ofNat i) = Int.ofNat (n - i),
      (Int.ofNat i == (0 : Int)) = false,
      IntKind.wrap IntKind.i64 (Int.ofNat n + (-1 : Int)) = Int.ofNat (n - (1 : Nat)),
      (Int.ofNat i == Int.ofNat (n - (1 : Nat))) = true,
      decide (Int.ofNat i > (0 : Int)) = true,
      (0 : Int) ≤ Int.ofNat i,
      Int.ofNat i < Int.ofNat (List.length (List.map bI P)),
      (List.map bI P)[i]? = some [I p],
      (p != (0 : Int)) = false,
      (0 : Int) ≤ Int.ofNat i,
      Int.ofNat i < Int.ofNat (List.length (List.map bI D)),
      (List.map bI D)[i]? = some [I d],
      (d != Int.ofNat (n - i)) = false,
      IntKind.wrap IntKind.i64 (Int.ofNat (i + (1 : Nat))) = Int.ofNat (i + (1 : Nat))] (by kernel_rfl)
    (by
      simp only [allP]
      and_intros <;> first
        | exact bI_at hp
        | exact bI_at hd
        | (have := (List.getElem?_eq_some_iff.1 hp).1; simp; omega)
        | (have := (List.getElem?_eq_some_iff.1 hd).1; simp; omega)
        | exact i64_small (by simp; omega)
        | (rw [i64_small (by simp; omega)]; simp; omega)
        | (simp; done))

theorem tr3d (n i : Nat) (L : List Sp) (P D : List Int) (p d : Int) (hn : n ≤ 20) (hi : i < n) (hp : P[i]? = some p) (hd : D[i]? = some d) (h0 : 0 < i) (h1 : i + 1 = n) (hpw : p = 0) (hdw : d = ((n - i : Nat) : Int))  : CodeC Try.prog 0 141 tr3B (tr3S n L P D i) .normal (tr3S n L P D (i + 1)) := by
  exact CodeC.cast (by
    first
      | rfl) (tr3d_0 n i L P D p d hn hi hp hd h0 h1 hpw hdw )

theorem tr3E_0 (n i : Nat) (L : List Sp) (P D : List Int) (h : n ≤ i) : CodeC Try.prog 0 141 tr3B (tr3S n L P D i) (Ex.exit (4 : Nat)) ({ env := [((0 : Nat), I (Int.ofNat n)), ((6 : Nat), V.own (900 : Nat)), ((9 : Nat), V.own (901 : Nat)), ((10 : Nat), V.own (902 : Nat)), ((11 : Nat), I (Int.ofNat i))], st := [((900 : Nat), Obj.arr (10 : Nat) (List.map Sp.row L)), ((901 : Nat), Obj.arr (1 : Nat) (List.map bI P)), ((902 : Nat), Obj.arr (1 : Nat) (List.map bI D))], ids := [(900 : Nat), (901 : Nat), (902 : Nat)] }) :=
  runP hmix [.reg 18 [(2, [], some false)]] ⟨[0, 6, 9, 10, 11], [(900, 900), (901, 901), (902, 902)], []⟩ [
      decide (Int.ofNat i < Int.ofNat n) = false] (by kernel_rfl)
    (by
      simp only [allP]
      and_intros <;> first
        | (simp; omega))

theorem tr3E (n i : Nat) (L : List Sp) (P D : List Int) (h : n ≤ i)  : CodeC Try.prog 0 141 tr3B (tr3S n L P D i) (.exit 4) (tr3S n L P D i) := by
  exact CodeC.cast (by
    first
      | rfl) (tr3E_0 n i L P D h )

theorem tr4a_0 (n i : Nat) (L : List Sp) (P D : List Int) (p d : Int) (h1 : 1 ≤ n) (hn : n ≤ 20) (hi : i < L.length) (hl : L.length ≤ 40) (hp : P[i]? = some p) (hd : D[i]? = some d) (hpw : p = ((n - 1 : Nat) : Int)) (h0 : n = 1) (hdw : d = 1) : CodeC Try.prog 0 141 tr4B (tr4S n L P D i) (Ex.normal) ({ env := [((0 : Nat), I (Int.ofNat n)), ((6 : Nat), V.own (900 : Nat)), ((9 : Nat), V.own (901 : Nat)), ((10 : Nat), V.own (902 : Nat)), ((14 : Nat), I (Int.ofNat (i + (1 : Nat))))], st := [((900 : Nat), Obj.arr (10 : Nat) (List.map Sp.row L)), ((901 : Nat), Obj.arr (1 : Nat) (List.map bI P)), ((902 : Nat), Obj.arr (1 : Nat) (List.map bI D))], ids := [(900 : Nat), (901 : Nat), (902 : Nat)] }) :=
  runP hmix [.reg 30 [(2, [.be (I ((L.length : Nat) : Int))], none), (3, [], some true)], .reg 33 [(1, [], some true)], .reg 35 [(3, [.row [I p]], none), (5, [.be (I ((n - 1 : Nat) : Int))], none), (6, [], some false), (11, [.row [I d]], none), (13, [], some false)], .reg 31 [(1, [.be (I ((i + 1 : Nat) : Int))], none)]] ⟨[0, 6, 9, 10, 14], [(900, 900), (901, 901), (902, 902)], []⟩ [
      Int.ofNat (List.length (List.map Sp.row L)) = Int.ofNat (List.length L),
      decide (Int.ofNat i < Int.ofNat (List.length L)) = true,
      (Int.ofNat n == (1 : Int)) = true,
      (0 : Int) ≤ Int.ofNat i,
      Int.ofNat i < Int.ofNat (List.length (List.map bI P)),
      (List.map bI P)[i]? = some [I p],
      IntKind.wrap IntKind.i64 (Int.ofNat n + (-1 : Int)) = Int.ofNat (n - (1 : Nat)),
      (p != Int.ofNat (n - (1 : Nat))) = false,
      (0 : Int) ≤ Int.ofNat i,
      Int.ofNat i < Int.ofNat (List.length (List.map bI D)),
      (List.map bI D)[i]? = some [I d],
      (d != (1 : Int)) = false,
      IntKind.wrap IntKind.i64 (Int.ofNat (i + (1 : Nat))) = Int.ofNat (i + (1 : Nat))] (by kernel_rfl)
    (by
      simp only [allP]
      and_intros <;> first
        | exact bI_at hp
        | exact bI_at hd
        | (have := (List.getElem?_eq_some_iff.1 hp).1; simp; omega)
        | (have := (List.getElem?_eq_some_iff.1 hd).1; simp; omega)
        | exact i64_small (by simp; omega)
        | (rw [i64_small (by simp; omega)]; simp; omega)
        | (simp; done))

theorem tr4a (n i : Nat) (L : List Sp) (P D : List Int) (p d : Int) (h1 : 1 ≤ n) (hn : n ≤ 20) (hi : i < L.length) (hl : L.length ≤ 40) (hp : P[i]? = some p) (hd : D[i]? = some d) (hpw : p = ((n - 1 : Nat) : Int)) (h0 : n = 1) (hdw : d = 1)  : CodeC Try.prog 0 141 tr4B (tr4S n L P D i) .normal (tr4S n L P D (i + 1)) := by
  exact CodeC.cast (by
    first
      | rfl) (tr4a_0 n i L P D p d h1 hn hi hl hp hd hpw h0 hdw )

theorem tr4b_0 (n i : Nat) (L : List Sp) (P D : List Int) (p d : Int) (h1 : 1 ≤ n) (hn : n ≤ 20) (hi : i < L.length) (hl : L.length ≤ 40) (hp : P[i]? = some p) (hd : D[i]? = some d) (hpw : p = ((n - 1 : Nat) : Int)) (h0 : n ≠ 1) (hdw : d = 2) : CodeC Try.prog 0 141 tr4B (tr4S n L P D i) (Ex.normal) ({ env := [((0 : Nat), I (Int.ofNat n)), ((6 : Nat), V.own (900 : Nat)), ((9 : Nat), V.own (901 : Nat)), ((10 : Nat), V.own (902 : Nat)), ((14 : Nat), I (Int.ofNat (i + (1 : Nat))))], st := [((900 : Nat), Obj.arr (10 : Nat) (List.map Sp.row L)), ((901 : Nat), Obj.arr (1 : Nat) (List.map bI P)), ((902 : Nat), Obj.arr (1 : Nat) (List.map bI D))], ids := [(900 : Nat), (901 : Nat), (902 : Nat)] }) :=
  runP hmix [.reg 30 [(2, [.be (I ((L.length : Nat) : Int))], none), (3, [], some true)], .reg 33 [(1, [], some false)], .reg 35 [(3, [.row [I p]], none), (5, [.be (I ((n - 1 : Nat) : Int))], none), (6, [], some false), (11, [.row [I d]], none), (13, [], some false)], .reg 31 [(1, [.be (I ((i + 1 : Nat) : Int))], none)]] ⟨[0, 6, 9, 10, 14], [(900, 900), (901, 901), (902, 902)], []⟩ [
      Int.ofNat (List.length (List.map Sp.row L)) = Int.ofNat (List.length L),
      decide (Int.ofNat i < Int.ofNat (List.length L)) = true,
      (Int.ofNat n == (1 : Int)) = false,
      (0 : Int) ≤ Int.ofNat i,
      Int.ofNat i < Int.ofNat (List.length (List.map bI P)),
      (List.map bI P)[i]? = some [I p],
      IntKind.wrap IntKind.i64 (Int.ofNat n + (-1 : Int)) = Int.ofNat (n - (1 : Nat)),
      (p != Int.ofNat (n - (1 : Nat))) = false,
      (0 : Int) ≤ Int.ofNat i,
      Int.ofNat i < Int.ofNat (List.length (List.map bI D)),
      (List.map bI D)[i]? = some [I d],
      (d != (2 : Int)) = false,
      IntKind.wrap IntKind.i64 (Int.ofNat (i + (1 : Nat))) = Int.ofNat (i + (1 : Nat))] (by kernel_rfl)
    (by
      simp only [allP]
      and_intros <;> first
        | exact bI_at hp
        | exact bI_at hd
        | (have := (List.getElem?_eq_some_iff.1 hp).1; simp; omega)
        | (have := (List.getElem?_eq_some_iff.1 hd).1; simp; omega)
        | exact i64_small (by simp; omega)
        | (rw [i64_small (by simp; omega)]; simp; omega)
        | (simp; done))

theorem tr4b (n i : Nat) (L : List Sp) (P D : List Int) (p d : Int) (h1 : 1 ≤ n) (hn : n ≤ 20) (hi : i < L.length) (hl : L.length ≤ 40) (hp : P[i]? = some p) (hd : D[i]? = some d) (hpw : p = ((n - 1 : Nat) : Int)) (h0 : n ≠ 1) (hdw : d = 2)  : CodeC Try.prog 0 141 tr4B (tr4S n L P D i) .normal (tr4S n L P D (i + 1)) := by
  exact CodeC.cast (by
    first
      | rfl) (tr4b_0 n i L P D p d h1 hn hi hl hp hd hpw h0 hdw )

theorem tr4E_0 (n i : Nat) (L : List Sp) (P D : List Int) (h : L.length ≤ i) (hl : L.length ≤ 40) : CodeC Try.prog 0 141 tr4B (tr4S n L P D i) (Ex.exit (6 : Nat)) ({ env := [((0 : Nat), I (Int.ofNat n)), ((6 : Nat), V.own (900 : Nat)), ((9 : Nat), V.own (901 : Nat)), ((10 : Nat), V.own (902 : Nat)), ((14 : Nat), I (Int.ofNat i))], st := [((900 : Nat), Obj.arr (10 : Nat) (List.map Sp.row L)), ((901 : Nat), Obj.arr (1 : Nat) (List.map bI P)), ((902 : Nat), Obj.arr (1 : Nat) (List.map bI D))], ids := [(900 : Nat), (901 : Nat), (902 : Nat)] }) :=
  runP hmix [.reg 30 [(2, [.be (I ((L.length : Nat) : Int))], none), (3, [], some false)]] ⟨[0, 6, 9, 10, 14], [(900, 900), (901, 901), (902, 902)], []⟩ [
      Int.ofNat (List.length (List.map Sp.row L)) = Int.ofNat (List.length L),
      decide (Int.ofNat i < Int.ofNat (List.length L)) = false] (by kernel_rfl)
    (by
      simp only [allP]
      and_intros <;> first
        | (simp; omega)
        | (simp; done))

theorem tr4E (n i : Nat) (L : List Sp) (P D : List Int) (h : L.length ≤ i) (hl : L.length ≤ 40)  : CodeC Try.prog 0 141 tr4B (tr4S n L P D i) (.exit 6) (tr4S n L P D i) := by
  exact CodeC.cast (by
    first
      | rfl) (tr4E_0 n i L P D h hl )

theorem trX1_0 (n t : Int) (h : n < 1) : Contract Try.prog 3 [I n, I t] [] (Bo true) ([]) :=
  vcP hmix [.reg 2 [(4, [], some true)], .tab [(7, FAl)]] [] [
      Contract Try.prog (7 : Nat) [] [] (Bo true) [],
      decide (n < (1 : Int)) = true] (by kernel_rfl)
    (by
      simp only [allP]
      and_intros <;> first
        | exact cAlive
        | (simp; omega))

theorem trX1 (n t : Int) (h : n < 1) : Contract Try.prog 3 [I n, I t] [] (Bo true) [] := by
  exact Contract.cast (by
    first
      | rfl) (by
    first
      | rfl) (trX1_0 n t h )

theorem trX2_0 (n t : Int) (h0 : 1 ≤ n) (h : 20 < n) : Contract Try.prog 3 [I n, I t] [] (Bo true) ([]) :=
  vcP hmix [.reg 2 [(4, [], some false), (8, [], some true)], .tab [(7, FAl)]] [] [
      Contract Try.prog (7 : Nat) [] [] (Bo true) [],
      decide (n < (1 : Int)) = false,
      decide (n > (20 : Int)) = true] (by kernel_rfl)
    (by
      simp only [allP]
      and_intros <;> first
        | exact cAlive
        | (simp; omega))

theorem trX2 (n t : Int) (h0 : 1 ≤ n) (h : 20 < n) : Contract Try.prog 3 [I n, I t] [] (Bo true) [] := by
  exact Contract.cast (by
    first
      | rfl) (by
    first
      | rfl) (trX2_0 n t h0 h )

theorem trX3_0 (n t : Int) (h0 : 1 ≤ n) (h1 : n ≤ 20) (h : t < 0) : Contract Try.prog 3 [I n, I t] [] (Bo true) ([]) :=
  vcP hmix [.reg 2 [(4, [], some false), (8, [], some false), (12, [], some true)], .tab [(7, FAl)]] [] [
      Contract Try.prog (7 : Nat) [] [] (Bo true) [],
      decide (n < (1 : Int)) = false,
      decide (n > (20 : Int)) = false,
      decide (t < (0 : Int)) = true] (by kernel_rfl)
    (by
      simp only [allP]
      and_intros <;> first
        | exact cAlive
        | (simp; omega))

theorem trX3 (n t : Int) (h0 : 1 ≤ n) (h1 : n ≤ 20) (h : t < 0) : Contract Try.prog 3 [I n, I t] [] (Bo true) [] := by
  exact Contract.cast (by
    first
      | rfl) (by
    first
      | rfl) (trX3_0 n t h0 h1 h )

theorem trX4_0 (n t : Int) (h0 : 1 ≤ n) (h1 : n ≤ 20) (h2 : 0 ≤ t) (h : 10 < t) : Contract Try.prog 3 [I n, I t] [] (Bo true) ([]) :=
  vcP hmix [.reg 2 [(4, [], some false), (8, [], some false), (12, [], some false), (16, [], some true)], .tab [(7, FAl)]] [] [
      Contract Try.prog (7 : Nat) [] [] (Bo true) [],
      decide (n < (1 : Int)) = false,
      decide (n > (20 : Int)) = false,
      decide (t < (0 : Int)) = false,
      decide (t > (10 : Int)) = true] (by kernel_rfl)
    (by
      simp only [allP]
      and_intros <;> first
        | exact cAlive
        | (simp; omega))

theorem trX4 (n t : Int) (h0 : 1 ≤ n) (h1 : n ≤ 20) (h2 : 0 ≤ t) (h : 10 < t) : Contract Try.prog 3 [I n, I t] [] (Bo true) [] := by
  exact Contract.cast (by
    first
      | rfl) (by
    first
      | rfl) (trX4_0 n t h0 h1 h2 h )

theorem trM_0 (n t : Nat) (M L : List Sp) (h0 : 1 ≤ n) (h1 : n ≤ 20) (h2 : t ≤ 10) (hL : L.length ≤ 40) (hl1 : LoopC Try.prog 0 141 tr1B (tr1S n t [] 0) (.exit 0) (tr1S n t M n)) (hl2 : LoopC Try.prog 0 141 tr2B (tr2S n t M 0) (.exit 2) (tr2S n t L t)) (hl3 : LoopC Try.prog 0 141 tr3B (tr3S n L (parF L) (depF L) 0) (.exit 4) (tr3S n L (parF L) (depF L) n)) (hl4 : LoopC Try.prog 0 141 tr4B (tr4S n L (parF L) (depF L) n) (.exit 6) (tr4S n L (parF L) (depF L) L.length)) : Contract Try.prog 3 [I (n : Int), I (t : Int)] [] (Bo true) ([]) :=
  vcP hmix [.reg 2 [(4, [], some false), (8, [], some false), (12, [], some false), (16, [], some false)], .reg 4 [(0, [.idx 10], none)], .cut ⟨[0, 1, 6, 7], [(801000, 900)], []⟩ (.exit 0) (tr1S n t M n), .cut ⟨[0, 1, 6, 8], [(900, 900)], []⟩ (.exit 2) (tr2S n t L t), .reg 13 [(1, [.call [] [] (.own 0) [some (.arr 1 ((parF L).map bI))]], none)], .reg 14 [(1, [.call [] [] (.own 0) [some (.arr 1 ((depF L).map bI))]], none)], .reg 15 [(1, [.be (I ((L.length : Nat) : Int))], none), (3, [.be (I ((L.length : Nat) : Int))], none), (4, [], some false), (7, [.be (I ((L.length : Nat) : Int))], none), (9, [.be (I ((L.length : Nat) : Int))], none), (10, [], some false)], .cut ⟨[0, 6, 9, 10, 11], [(900, 900), (2602001, 901), (2802001, 902)], []⟩ (.exit 4) (tr3S n L (parF L) (depF L) n), .cut ⟨[0, 6, 9, 10, 14], [(900, 900), (901, 901), (902, 902)], []⟩ (.exit 6) (tr4S n L (parF L) (depF L) L.length), .tab [(7, FAl)]] [] [
      Contract Try.prog (7 : Nat) [] [] (Bo true) [],
      decide (Int.ofNat n < (1 : Int)) = false,
      decide (Int.ofNat n > (20 : Int)) = false,
      false = false,
      decide (Int.ofNat t > (10 : Int)) = false,
      LoopC Try.prog (0 : Nat) (141 : Nat) tr1B { env := [((0 : Nat), I (Int.ofNat n)), ((1 : Nat), I (Int.ofNat t)), ((6 : Nat), V.own (900 : Nat)), ((7 : Nat), I (0 : Int))], st := [((900 : Nat), Obj.arr (10 : Nat) [])], ids := [(900 : Nat)] } (Ex.exit (0 : Nat)) { env := [((0 : Nat), I (Int.ofNat n)), ((1 : Nat), I (Int.ofNat t)), ((6 : Nat), V.own (900 : Nat)), ((7 : Nat), I (Int.ofNat n))], st := [((900 : Nat), Obj.arr (10 : Nat) (List.map Sp.row M))], ids := [(900 : Nat)] },
      LoopC Try.prog (0 : Nat) (141 : Nat) tr2B { env := [((0 : Nat), I (Int.ofNat n)), ((1 : Nat), I (Int.ofNat t)), ((6 : Nat), V.own (900 : Nat)), ((8 : Nat), I (0 : Int))], st := [((900 : Nat), Obj.arr (10 : Nat) (List.map Sp.row M))], ids := [(900 : Nat)] } (Ex.exit (2 : Nat)) { env := [((0 : Nat), I (Int.ofNat n)), ((1 : Nat), I (Int.ofNat t)), ((6 : Nat), V.own (900 : Nat)), ((8 : Nat), I (Int.ofNat t))], st := [((900 : Nat), Obj.arr (10 : Nat) (List.map Sp.row L))], ids := [(900 : Nat)] },
      Contract Try.prog (8 : Nat) [V.sl (10 : Nat) (List.map Sp.row L)] [] (V.own (0 : Nat)) [some (Obj.arr (1 : Nat) (List.map bI (parF L)))],
      true = true,
      FlatRows (List.map bI (parF L)),
      Contract Try.prog (9 : Nat) [V.sl (10 : Nat) (List.map Sp.row L)] [] (V.own (0 : Nat)) [some (Obj.arr (1 : Nat) (List.map bI (depF L)))],
      true = true,
      FlatRows (List.map bI (depF L)),
      Int.ofNat (List.length (List.map bI (parF L))) = Int.ofNat (List.length L),
      Int.ofNat (List.length (List.map Sp.row L)) = Int.ofNat (List.length L),
      (Int.ofNat (List.length L) != Int.ofNat (List.length L)) = false,
      Int.ofNat (List.length (List.map bI (depF L))) = Int.ofNat (List.length L),
      Int.ofNat (List.length (List.map Sp.row L)) = Int.ofNat (List.length L),
      (Int.ofNat (List.length L) != Int.ofNat (List.length L)) = false,
      LoopC Try.prog (0 : Nat) (141 : Nat) tr3B { env := [((0 : Nat), I (Int.ofNat n)), ((6 : Nat), V.own (900 : Nat)), ((9 : Nat), V.own (901 : Nat)), ((10 : Nat), V.own (902 : Nat)), ((11 : Nat), I (0 : Int))], st := [((900 : Nat), Obj.arr (10 : Nat) (List.map Sp.row L)), ((901 : Nat), Obj.arr (1 : Nat) (List.map bI (parF L))), ((902 : Nat), Obj.arr (1 : Nat) (List.map bI (depF L)))], ids := [(900 : Nat), (901 : Nat), (902 : Nat)] } (Ex.exit (4 : Nat)) { env := [((0 : Nat), I (Int.ofNat n)), ((6 : Nat), V.own (900 : Nat)), ((9 : Nat), V.own (901 : Nat)), ((10 : Nat), V.own (902 : Nat)), ((11 : Nat), I (Int.ofNat n))], st := [((900 : Nat), Obj.arr (10 : Nat) (List.map Sp.row L)), ((901 : Nat), Obj.arr (1 : Nat) (List.map bI (parF L))), ((902 : Nat), Obj.arr (1 : Nat) (List.map bI (depF L)))], ids := [(900 : Nat), (901 : Nat), (902 : Nat)] },
      LoopC Try.prog (0 : Nat) (141 : Nat) tr4B { env := [((0 : Nat), I (Int.ofNat n)), ((6 : Nat), V.own (900 : Nat)), ((9 : Nat), V.own (901 : Nat)), ((10 : Nat), V.own (902 : Nat)), ((14 : Nat), I (Int.ofNat n))], st := [((900 : Nat), Obj.arr (10 : Nat) (List.map Sp.row L)), ((901 : Nat), Obj.arr (1 : Nat) (List.map bI (parF L))), ((902 : Nat), Obj.arr (1 : Nat) (List.map bI (depF L)))], ids := [(900 : Nat), (901 : Nat), (902 : Nat)] } (Ex.exit (6 : Nat)) { env := [((0 : Nat), I (Int.ofNat n)), ((6 : Nat), V.own (900 : Nat)), ((9 : Nat), V.own (901 : Nat)), ((10 : Nat), V.own (902 : Nat)), ((14 : Nat), I (Int.ofNat (List.length L)))], st := [((900 : Nat), Obj.arr (10 : Nat) (List.map Sp.row L)), ((901 : Nat), Obj.arr (1 : Nat) (List.map bI (parF L))), ((902 : Nat), Obj.arr (1 : Nat) (List.map bI (depF L)))], ids := [(900 : Nat), (901 : Nat), (902 : Nat)] }] (by kernel_rfl)
    (by
      simp only [allP]
      and_intros <;> first
        | exact cAlive
        | exact hl1
        | exact hl2
        | exact hl3
        | exact hl4
        | exact cPar L (by omega)
        | exact cDepths L (by omega)
        | exact flatI _
        | (simp [parF_len]; done)
        | (simp [depF_len]; done)
        | (simp; omega))

theorem trM (n t : Nat) (M L : List Sp) (h0 : 1 ≤ n) (h1 : n ≤ 20) (h2 : t ≤ 10) (hL : L.length ≤ 40) (hl1 : LoopC Try.prog 0 141 tr1B (tr1S n t [] 0) (.exit 0) (tr1S n t M n)) (hl2 : LoopC Try.prog 0 141 tr2B (tr2S n t M 0) (.exit 2) (tr2S n t L t)) (hl3 : LoopC Try.prog 0 141 tr3B (tr3S n L (parF L) (depF L) 0) (.exit 4) (tr3S n L (parF L) (depF L) n)) (hl4 : LoopC Try.prog 0 141 tr4B (tr4S n L (parF L) (depF L) n) (.exit 6) (tr4S n L (parF L) (depF L) L.length)) : Contract Try.prog 3 [I (n : Int), I (t : Int)] [] (Bo true) [] := by
  exact Contract.cast (by
    first
      | rfl) (by
    first
      | rfl) (trM_0 n t M L h0 h1 h2 hL hl1 hl2 hl3 hl4 )

end Go.Proofs.Ythhggnnfiohnpaa

/- Plain law: where one and all below it stand in the order. -/
namespace Go.Proofs.Ythhggnnfiohnpaa
open E
set_option linter.unusedVariables false
set_option linter.unusedSimpArgs false

theorem firstI_hit {α : Type} {bad : Nat → α → Bool} : ∀ (l : List α) (o i : Nat), firstI bad o l = ((o + i : Nat) : Int) → ∃ x, l[i]? = some x ∧ bad (o + i) x = true
  | [], o, i, h => by simp only [firstI] at h; omega
  | y :: l, o, i, h => by
    cases hb : bad o y with
    | true =>
      simp only [firstI, hb, cond_true] at h
      have : i = 0 := by omega
      subst this
      exact ⟨y, rfl, hb⟩
    | false =>
      simp only [firstI, hb, cond_false] at h
      rcases firstI_range (bad := bad) l (o + 1) with h' | ⟨j, _, h'⟩
      · rw [h'] at h; omega
      · rw [h'] at h
        have : i = j + 1 := by omega
        subst this
        obtain ⟨x, h1, h2⟩ := firstI_hit l (o + 1) j h'
        exact ⟨x, by simpa using h1, by rwa [show o + 1 + j = o + (j + 1) by omega] at h2⟩
/-- Whoever is above is named. -/
theorem named_id (l : List Sp) (i j : Nat) (y : Sp) (hi : i < l.length) (hy : l[i]? = some y) (h : (parF l)[i]? = some (j : Int)) : ∃ x, l[j]? = some x ∧ x.id = y.par := by
  rw [parF_at l i hi] at h
  simp only [Option.some.injEq] at h
  have hn : nmP l i = (j : Int) := by
    cases hb : ringF (upF l) i == (i : Int) with
    | true => rw [hb] at h; simp only [cond_true] at h; omega
    | false => rw [hb] at h; exact h
  rw [nmP_at hy] at hn
  obtain ⟨x, h1, h2⟩ := firstI_hit l 0 j (by rw [Nat.zero_add]; exact hn)
  refine ⟨x, h1, ?_⟩
  unfold nmH at h2
  simp only [Bool.and_eq_true, beq_iff_eq] at h2
  exact h2.2
theorem pr_one {l : List Sp} (kd : Nat → List (Ix l)) (m : Nat) (d : Int) (x : Ix l) : prD kd (m + 1) d [x] = (x, d) :: prD kd m (d + 1) (kd x.n) := by simp [prD]
theorem pr_block {l : List Sp} (kd : Nat → List (Ix l)) : ∀ (M : Nat) (d : Int) (L : List (Ix l)) (x : Ix l) (e : Int), (x, e) ∈ prD kd M d L → ∃ (A B : List (Ix l × Int)) (m k : Nat), m + 1 + k = M ∧ e = d + (k : Int) ∧ prD kd M d L = A ++ prD kd (m + 1) e [x] ++ B
  | 0, d, L, x, e, h => by simp [prD] at h
  | M + 1, d, L, x, e, h => by
    rw [prD, List.mem_flatMap] at h
    obtain ⟨y, hy, h⟩ := h
    obtain ⟨L1, L2, rfl⟩ := List.append_of_mem hy
    have e1 : prD kd (M + 1) d (L1 ++ y :: L2) = prD kd (M + 1) d L1 ++ (prD kd (M + 1) d [y] ++ prD kd (M + 1) d L2) := by
      rw [pr_app, show y :: L2 = [y] ++ L2 from rfl, pr_app]
    rcases List.mem_cons.1 h with h | h
    · simp only [Prod.mk.injEq] at h
      obtain ⟨rfl, rfl⟩ := h
      exact ⟨_, _, M, 0, by omega, by omega, by rw [e1, List.append_assoc]⟩
    · obtain ⟨A, B, m, k, h1, h2, h3⟩ := pr_block kd M (d + 1) _ x e h
      refine ⟨prD kd (M + 1) d L1 ++ (y, d) :: A, B ++ prD kd (M + 1) d L2, m, k + 1, by omega, by omega, ?_⟩
      rw [e1, pr_one, h3]
      simp
/-- One stands behind whoever is above, among all that stand below. -/
theorem kid_block (l : List Sp) (x z : Ix l) (h : (parF l)[z.n]? = some (x.n : Int)) : ∃ (a b sx sz : Nat), (ordX l)[a]? = some x ∧ (ordX l)[b]? = some z ∧ (sizF l)[x.n]? = some (sx : Int) ∧ (sizF l)[z.n]? = some (sz : Int) ∧ a < b ∧ b < a + sx ∧ sz < sx ∧
    ∃ t : Nat, (depF l)[x.n]? = some (t : Int) ∧ (depF l)[z.n]? = some ((t + 1 : Nat) : Int) := by
  obtain ⟨t, ht, hx, hmem⟩ := ordP_mem l x
  have hz : Dp (parF l) (t + 1) z.n := .kid h hx
  obtain ⟨t', ht', hz', hzm⟩ := ordP_mem l z
  have e0 := hz.uniq hz'
  subst e0
  obtain ⟨A, B, m, k, h1, h2, h3⟩ := pr_block (kidX l (parF l)) l.length 0 _ x (t : Int) hmem
  have hk : k = t := by omega
  subst hk
  obtain ⟨m, rfl⟩ : ∃ q, m = q + 1 := ⟨m - 1, by omega⟩
  have hzk : z ∈ kidX l (parF l) x.n := (kid_of (parF_inR l) (parF_len l) z x.n x.lt).2 h
  obtain ⟨K1, K2, hK⟩ := List.append_of_mem hzk
  rw [pr_one, hK, show z :: K2 = [z] ++ K2 from rfl, pr_app, pr_app, pr_one] at h3
  have hsx := sizF_at l x k (m + 1 + 1) (by omega) hx
  have hsz := sizF_at l z (k + 1) (m + 1) (by omega) hz
  rw [← pr_len0 _ _ (k : Int), pr_one, hK, show z :: K2 = [z] ++ K2 from rfl, pr_app, pr_app, pr_one] at hsx
  rw [← pr_len0 _ _ ((k : Int) + 1), pr_one] at hsz
  have ho : ordX l = (ordP l).map (·.1) := rfl
  have h3' : ordP l = _ := h3
  have hd : ∀ (w : Ix l) (q : Nat), (w, (q : Int)) ∈ ordP l → (depF l)[w.n]? = some (q : Int) := fun w q hq => setAll_at _ _ w _ (by simp) (ordP_nodup l) hq
  refine ⟨A.length, A.length + 1 + (prD (kidX l (parF l)) (m + 1) ((k : Int) + 1) K1).length, _, _, ?_, ?_, hsx, hsz, by omega, ?_, ?_, k, hd x k hmem, hd z (k + 1) hzm⟩
  · rw [ho, h3']
    simp
  · rw [ho, h3']
    simp only [List.map_append, List.map_cons, List.append_assoc, List.cons_append]
    rw [List.getElem?_append_right (by simp; omega)]
    simp only [List.length_map]
    rw [show A.length + 1 + (prD (kidX l (parF l)) (m + 1) ((k : Int) + 1) K1).length - A.length = (prD (kidX l (parF l)) (m + 1) ((k : Int) + 1) K1).length + 1 by omega, List.getElem?_cons_succ, List.getElem?_append_right (by simp)]
    simp
  · simp only [List.length_append, List.length_cons]; omega
  · simp only [List.length_append, List.length_cons]; omega
theorem ordX_nodup (l : List Sp) : (ordX l).Nodup := ordP_nodup l
theorem ordX_mem (l : List Sp) (x : Ix l) : ∃ a : Nat, (ordX l)[a]? = some x := by
  obtain ⟨t, _, _, h⟩ := ordP_mem l x
  have : x ∈ ordX l := List.mem_map.2 ⟨_, h, rfl⟩
  obtain ⟨a, ha⟩ := List.getElem?_of_mem this
  exact ⟨a, ha⟩
theorem ordX_len (l : List Sp) : (ordX l).length = l.length := by
  refine Nat.le_antisymm (nodup_le _ (ordX_nodup l)) (Nat.le_of_not_lt fun hlt => ?_)
  have hpos : ∀ i, i < l.length → ∃ a, a < (ordX l).length ∧ ∃ x, (ordX l)[a]? = some x ∧ x.n = i := by
    intro i hi
    obtain ⟨a, ha⟩ := ordX_mem l ⟨i, hi⟩
    exact ⟨a, (List.getElem?_eq_some_iff.1 ha).1, _, ha, rfl⟩
  obtain ⟨i, j, h1, h2, h3⟩ := pigeon (ordX l).length (fun i => if h : i < l.length then (hpos i h).choose else 0) (fun i hi => by
    have hil : i < l.length := by omega
    simp only [hil, dite_true]
    exact (hpos i hil).choose_spec.1)
  have hil : i < l.length := by omega
  have hjl : j < l.length := by omega
  simp only [hil, hjl, dite_true] at h3
  obtain ⟨x, hx, ex⟩ := (hpos i hil).choose_spec.2
  obtain ⟨y, hy, ey⟩ := (hpos j hjl).choose_spec.2
  rw [h3] at hx
  rw [hx] at hy
  cases hy
  omega
/-- Where each stands. -/
def atP (l : List Sp) : List (Ix l × Int) := (ordX l).zipIdx.map fun q => (q.1, (q.2 : Int))
def atF (l : List Sp) : List Int := setAll (List.replicate l.length 0) (atP l)
theorem atP_len (l : List Sp) : (atP l).length = l.length := by simp [atP, ordX_len]
theorem atP_at (l : List Sp) (a : Nat) (x : Ix l) (h : (ordX l)[a]? = some x) : (atP l)[a]? = some (x, (a : Int)) := by
  unfold atP
  rw [List.getElem?_map, List.getElem?_zipIdx, h]; simp
theorem atF_at (l : List Sp) (a : Nat) (x : Ix l) (h : (ordX l)[a]? = some x) : (atF l)[x.n]? = some (a : Int) := by
  refine setAll_at _ _ x _ (by simp) ?_ (List.mem_of_getElem? (atP_at l a x h))
  have e : (atP l).map (·.1) = ordX l := by
    unfold atP
    rw [List.map_map]
    exact List.zipIdx_map_fst 0 (ordX l)
  rw [e]
  exact ordX_nodup l
theorem pr_perm {l : List Sp} (kd : Nat → List (Ix l)) (M : Nat) (d : Int) {L L' : List (Ix l)} (h : L.Perm L') : (prD kd M d L).length = (prD kd M d L').length := by
  induction h with
  | nil => rfl
  | @cons x A B _ ih =>
    rw [show x :: A = [x] ++ A from rfl, show x :: B = [x] ++ B from rfl, pr_app, pr_app, List.length_append, List.length_append, ih]
  | swap x y A =>
    rw [show y :: x :: A = [y] ++ ([x] ++ A) from rfl, show x :: y :: A = [x] ++ ([y] ++ A) from rfl]
    simp only [pr_app, List.length_append]; omega
  | trans _ _ i1 i2 => rw [i1, i2]
/-- How many are below the first roots. -/
def allF (l : List Sp) (i : Nat) : Nat := (prD (kidX l (parF l)) l.length 0 (kidR l (parF l) l.length i)).length
theorem allF_end (l : List Sp) : allF l l.length = l.length := by
  unfold allF
  have h := pr_perm (kidX l (parF l)) l.length 0 (srt_perm (toLt (sp := l)) (kidR l (parF l) l.length l.length))
  rw [← h]
  have := ordX_len l
  unfold ordX ordP at this
  rw [List.length_map] at this
  exact this
theorem allF_root (l : List Sp) (i : Nat) (hi : i < l.length) (h : (parF l)[i]? = some (-1)) : ∃ s : Nat, (sizF l)[i]? = some (s : Int) ∧ (depF l)[i]? = some 0 ∧ allF l (i + 1) = allF l i + s := by
  have hd : Dp (parF l) 0 i := .root h
  obtain ⟨t, _, h2, h3⟩ := ordP_mem l ⟨i, hi⟩
  have := hd.uniq h2
  subst this
  refine ⟨_, sizF_at l ⟨i, hi⟩ 0 l.length (by omega) hd, setAll_at _ _ ⟨i, hi⟩ _ (by simp) (ordP_nodup l) h3, ?_⟩
  unfold allF
  rw [kidR_succ l (parF l) l.length i hi (-1) h]
  have : (slotN l.length (-1) == l.length) = true := by simp [slotN]
  rw [this, cond_true, pr_app, List.length_append]
theorem allF_kid (l : List Sp) (i j : Nat) (hi : i < l.length) (hj : j < l.length) (h : (parF l)[i]? = some (j : Int)) : allF l (i + 1) = allF l i := by
  unfold allF
  rw [kidR_succ l (parF l) l.length i hi (j : Int) h]
  have hn : (((j : Nat) : Int) == -1) = false := by simp
  have : (slotN l.length (j : Int) == l.length) = false := by simp [slotN, hn]; omega
  rw [this, cond_false, List.append_nil]
theorem allF_le (l : List Sp) : ∀ (m i : Nat), i + m = l.length → allF l i ≤ l.length
  | 0, i, h => by
    have : i = l.length := by omega
    rw [this, allF_end]; exact Nat.le_refl _
  | m + 1, i, h => by
    have ih := allF_le l m (i + 1) (by omega)
    have hi : i < l.length := by omega
    have hv := List.getElem?_eq_getElem (show i < (parF l).length by rw [parF_len]; exact hi)
    rcases parF_inR l i _ hv with h1 | ⟨j, hj, h1⟩
    · obtain ⟨s, _, _, e⟩ := allF_root l i hi (by rw [hv, h1])
      omega
    · rw [parF_len] at hj
      have e := allF_kid l i j hi hj (by rw [hv, h1])
      omega

end Go.Proofs.Ythhggnnfiohnpaa

