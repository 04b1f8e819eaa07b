/- sorting gleaning/api.Episode: blocks, and twice as large blocks. -/
import Derived.Test.YtfpdlamjlbpmkaaSoC
namespace Go.Proofs.Ytfpdlamjlbpmkaa
open E
set_option maxRecDepth 100000
set_option linter.unusedVariables false
set_option linter.unusedSimpArgs false

def soA (l : List Ep)  (n bs a b : Nat) : SL := ⟨[(0, .own 0), (1, I (n : Int)), (2, .clo (.func 30) [] []), (6, I (bs : Int)), (7, I (a : Int)), (8, I (b : Int))], [(0, .arr 6 (l.map Ep.row))], [0, 0]⟩
def soB (l : List Ep)  (n bs : Nat) : SL := ⟨[(0, .own 0), (1, I (n : Int)), (2, .clo (.func 30) [] []), (6, I (bs : Int))], [(0, .arr 6 (l.map Ep.row))], [0, 0]⟩
def soC (l : List Ep)  (n bs a b : Nat) : SL := ⟨[(0, .own 0), (1, I (n : Int)), (2, .clo (.func 30) [] []), (6, I (bs : Int)), (7, I (a : Int)), (8, I (b : Int))], [(0, .arr 6 (l.map Ep.row))], [0, 0]⟩
noncomputable def soAB : Code := codeAt Try.prog 36 [true, true, false, false, false]

noncomputable def soBB : Code := codeAt Try.prog 36 [true, true, true, true, false, false]

noncomputable def soCB : Code := codeAt Try.prog 36 [true, true, true, true, false, false, true, false, true, false, false, false]

theorem soAgo_0 (l l' : List Ep)  (n bs a b : Nat) (hn : n ≤ 500000) (hs : bs ≤ 1000000) (hb : b ≤ n) (hc : Contract Try.prog 41 [.own 0, I ((a : Nat) : Int), I ((b : Nat) : Int), .clo (.func 30) [] []] [.arr 6 ((l).map Ep.row)] (.tup []) [some (.arr 6 ((l').map Ep.row))]) : CodeC Try.prog 1 63 soAB (soA (l)  n bs a b) (Ex.normal) ({ env := [((0 : Nat), V.own (0 : Nat)), ((1 : Nat), I (Int.ofNat n)), ((2 : Nat), V.clo (Fn.func (30 : Nat)) [] []), ((6 : Nat), I (Int.ofNat bs)), ((7 : Nat), I (Int.ofNat b)), ((8 : Nat), I (Int.ofNat (b + bs)))], st := [((0 : Nat), Obj.arr (6 : Nat) (List.map Ep.row l'))], ids := [(0 : Nat), (0 : Nat)] }) :=
  runP hmix [.reg 2 [(2, [], some true)], .reg 3 [(4, [.call [0] [] (.tup []) [some (.arr 6 ((l').map Ep.row))]], none)], .reg 5 [(2, [.be (I ((b + bs : Nat) : Int))], none)]] ⟨[0, 1, 2, 6, 7, 8], [(0, 0)], []⟩ [
      decide (Int.ofNat b ≤ Int.ofNat n) = true,
      Contract Try.prog (41 : Nat) [V.own (0 : Nat), I (Int.ofNat a), I (Int.ofNat b), V.clo (Fn.func (30 : Nat)) [] []] [Obj.arr (6 : Nat) (List.map Ep.row l)] (V.tup []) [some (Obj.arr (6 : Nat) (List.map Ep.row l'))],
      IntKind.wrap IntKind.i64 (Int.ofNat (b + bs)) = Int.ofNat (b + bs)] (by kernel_rfl)
    (by
      simp only [allP]
      and_intros <;> first
        | omega
        | (simp; omega)
        | exact i64_small (by simp; omega))

theorem soAgo (l l' : List Ep)  (n bs a b : Nat) (hn : n ≤ 500000) (hs : bs ≤ 1000000) (hb : b ≤ n) (hc : Contract Try.prog 41 [.own 0, I ((a : Nat) : Int), I ((b : Nat) : Int), .clo (.func 30) [] []] [.arr 6 ((l).map Ep.row)] (.tup []) [some (.arr 6 ((l').map Ep.row))])  : CodeC Try.prog 1 63 soAB (soA (l)  n bs a b) .normal (soA (l')  n bs b (b + bs)) := by
  exact CodeC.cast (by
    first
      | rfl) (soAgo_0 l l' n bs a b hn hs hb hc )

theorem soAz_0 (l : List Ep)  (n bs a b : Nat) (hb : n < b) : CodeC Try.prog 1 63 soAB (soA (l)  n bs a b) (Ex.exit (0 : Nat)) ({ env := [((0 : Nat), V.own (0 : Nat)), ((1 : Nat), I (Int.ofNat n)), ((2 : Nat), V.clo (Fn.func (30 : Nat)) [] []), ((6 : Nat), I (Int.ofNat bs)), ((7 : Nat), I (Int.ofNat a)), ((8 : Nat), I (Int.ofNat b))], st := [((0 : Nat), Obj.arr (6 : Nat) (List.map Ep.row l))], ids := [(0 : Nat), (0 : Nat)] }) :=
  runP hmix [.reg 2 [(2, [], some false)]] ⟨[0, 1, 2, 6, 7, 8], [(0, 0)], []⟩ [
      decide (Int.ofNat b ≤ Int.ofNat n) = false] (by kernel_rfl)
    (by
      simp only [allP]
      and_intros <;> first
        | (simp; omega))

theorem soAz (l : List Ep)  (n bs a b : Nat) (hb : n < b)  : CodeC Try.prog 1 63 soAB (soA (l)  n bs a b) (.exit 0) (soA (l)  n bs a b) := by
  exact CodeC.cast (by
    first
      | rfl) (soAz_0 l n bs a b hb )

theorem soCgo_0 (l l' : List Ep)  (n bs a b : Nat) (hn : n ≤ 500000) (hs : bs ≤ 1000000) (hb : b ≤ n) (ha : a ≤ n) (hc : Contract Try.prog 42 [.own 0, I ((a : Nat) : Int), I ((a + bs : Nat) : Int), I ((b : Nat) : Int), .clo (.func 30) [] []] [.arr 6 ((l).map Ep.row)] (.tup []) [some (.arr 6 ((l').map Ep.row))]) : CodeC Try.prog 1 63 soCB (soC (l)  n bs a b) (Ex.normal) ({ env := [((0 : Nat), V.own (0 : Nat)), ((1 : Nat), I (Int.ofNat n)), ((2 : Nat), V.clo (Fn.func (30 : Nat)) [] []), ((6 : Nat), I (Int.ofNat bs)), ((7 : Nat), I (Int.ofNat b)), ((8 : Nat), I (Int.ofNat (b + (2 : Nat) * bs)))], st := [((0 : Nat), Obj.arr (6 : Nat) (List.map Ep.row l'))], ids := [(0 : Nat), (0 : Nat)] }) :=
  runP hmix [.reg 9 [(2, [], some true)], .reg 10 [(4, [.be (I ((a + bs : Nat) : Int))], none), (7, [.call [0] [] (.tup []) [some (.arr 6 ((l').map Ep.row))]], none)], .reg 12 [(2, [.be (I ((2 * bs : Nat) : Int))], none), (3, [.be (I ((b + 2 * bs : Nat) : Int))], none)]] ⟨[0, 1, 2, 6, 7, 8], [(0, 0)], []⟩ [
      decide (Int.ofNat b ≤ Int.ofNat n) = true,
      IntKind.wrap IntKind.i64 (Int.ofNat (a + bs)) = Int.ofNat (a + bs),
      Contract Try.prog (42 : Nat) [V.own (0 : Nat), I (Int.ofNat a), I (Int.ofNat (a + bs)), I (Int.ofNat b), V.clo (Fn.func (30 : Nat)) [] []] [Obj.arr (6 : Nat) (List.map Ep.row l)] (V.tup []) [some (Obj.arr (6 : Nat) (List.map Ep.row l'))],
      IntKind.wrap IntKind.i64 (Int.ofNat ((2 : Nat) * bs)) = Int.ofNat ((2 : Nat) * bs),
      IntKind.wrap IntKind.i64 (Int.ofNat (b + (2 : Nat) * bs)) = Int.ofNat (b + (2 : Nat) * bs)] (by kernel_rfl)
    (by
      simp only [allP]
      and_intros <;> first
        | omega
        | (simp; omega)
        | exact i64_small (by simp; omega))

theorem soCgo (l l' : List Ep)  (n bs a b : Nat) (hn : n ≤ 500000) (hs : bs ≤ 1000000) (hb : b ≤ n) (ha : a ≤ n) (hc : Contract Try.prog 42 [.own 0, I ((a : Nat) : Int), I ((a + bs : Nat) : Int), I ((b : Nat) : Int), .clo (.func 30) [] []] [.arr 6 ((l).map Ep.row)] (.tup []) [some (.arr 6 ((l').map Ep.row))])  : CodeC Try.prog 1 63 soCB (soC (l)  n bs a b) .normal (soC (l')  n bs b (b + 2 * bs)) := by
  exact CodeC.cast (by
    first
      | rfl) (soCgo_0 l l' n bs a b hn hs hb ha hc )

theorem soCz_0 (l : List Ep)  (n bs a b : Nat) (hb : n < b) : CodeC Try.prog 1 63 soCB (soC (l)  n bs a b) (Ex.exit (4 : Nat)) ({ env := [((0 : Nat), V.own (0 : Nat)), ((1 : Nat), I (Int.ofNat n)), ((2 : Nat), V.clo (Fn.func (30 : Nat)) [] []), ((6 : Nat), I (Int.ofNat bs)), ((7 : Nat), I (Int.ofNat a)), ((8 : Nat), I (Int.ofNat b))], st := [((0 : Nat), Obj.arr (6 : Nat) (List.map Ep.row l))], ids := [(0 : Nat), (0 : Nat)] }) :=
  runP hmix [.reg 9 [(2, [], some false)]] ⟨[0, 1, 2, 6, 7, 8], [(0, 0)], []⟩ [
      decide (Int.ofNat b ≤ Int.ofNat n) = false] (by kernel_rfl)
    (by
      simp only [allP]
      and_intros <;> first
        | (simp; omega))

theorem soCz (l : List Ep)  (n bs a b : Nat) (hb : n < b)  : CodeC Try.prog 1 63 soCB (soC (l)  n bs a b) (.exit 4) (soC (l)  n bs a b) := by
  exact CodeC.cast (by
    first
      | rfl) (soCz_0 l n bs a b hb )

theorem soBgo_0 (l l' l2 : List Ep)  (n bs a b : Nat) (hn : n ≤ 500000) (hb : bs < n) (ha : a ≤ n) (hm : a + bs < n) (hl : LoopC Try.prog 1 63 soCB (soC (l)  n bs 0 (2 * bs)) (.exit 4) (soC (l')  n bs a b)) (hc : Contract Try.prog 42 [.own 0, I ((a : Nat) : Int), I ((a + bs : Nat) : Int), I ((n : Nat) : Int), .clo (.func 30) [] []] [.arr 6 ((l').map Ep.row)] (.tup []) [some (.arr 6 ((l2).map Ep.row))]) : CodeC Try.prog 1 63 soBB (soB (l)  n bs) (Ex.normal) ({ env := [((0 : Nat), V.own (0 : Nat)), ((1 : Nat), I (Int.ofNat n)), ((2 : Nat), V.clo (Fn.func (30 : Nat)) [] []), ((6 : Nat), I (Int.ofNat ((2 : Nat) * bs)))], st := [((0 : Nat), Obj.arr (6 : Nat) (List.map Ep.row l2))], ids := [(0 : Nat), (0 : Nat)] }) :=
  runP hmix [.reg 7 [(2, [], some true)], .reg 8 [(1, [.be (I ((2 * bs : Nat) : Int))], none)], .cut ⟨[0, 1, 2, 6, 7, 8], [(0, 0)], []⟩ (.exit 4) (soC (l')  n bs a b), .reg 13 [(2, [.be (I ((a + bs : Nat) : Int))], none)], .reg 14 [(2, [], some true)], .reg 15 [(5, [.call [0] [] (.tup []) [some (.arr 6 ((l2).map Ep.row))]], none)], .reg 16 [(1, [.be (I ((2 * bs : Nat) : Int))], none)]] ⟨[0, 1, 2, 6], [(0, 0)], []⟩ [
      decide (Int.ofNat bs < Int.ofNat n) = true,
      IntKind.wrap IntKind.i64 (Int.ofNat ((2 : Nat) * bs)) = Int.ofNat ((2 : Nat) * bs),
      LoopC Try.prog (1 : Nat) (63 : Nat) soCB { env := [((0 : Nat), V.own (0 : Nat)), ((1 : Nat), I (Int.ofNat n)), ((2 : Nat), V.clo (Fn.func (30 : Nat)) [] []), ((6 : Nat), I (Int.ofNat bs)), ((7 : Nat), I (0 : Int)), ((8 : Nat), I (Int.ofNat ((2 : Nat) * bs)))], st := [((0 : Nat), Obj.arr (6 : Nat) (List.map Ep.row l))], ids := [(0 : Nat), (0 : Nat)] } (Ex.exit (4 : Nat)) { env := [((0 : Nat), V.own (0 : Nat)), ((1 : Nat), I (Int.ofNat n)), ((2 : Nat), V.clo (Fn.func (30 : Nat)) [] []), ((6 : Nat), I (Int.ofNat bs)), ((7 : Nat), I (Int.ofNat a)), ((8 : Nat), I (Int.ofNat b))], st := [((0 : Nat), Obj.arr (6 : Nat) (List.map Ep.row l'))], ids := [(0 : Nat), (0 : Nat)] },
      IntKind.wrap IntKind.i64 (Int.ofNat (a + bs)) = Int.ofNat (a + bs),
      decide (Int.ofNat (a + bs) < Int.ofNat n) = true,
      Contract Try.prog (42 : Nat) [V.own (0 : Nat), I (Int.ofNat a), I (Int.ofNat (a + bs)), I (Int.ofNat n), V.clo (Fn.func (30 : Nat)) [] []] [Obj.arr (6 : Nat) (List.map Ep.row l')] (V.tup []) [some (Obj.arr (6 : Nat) (List.map Ep.row l2))],
      IntKind.wrap IntKind.i64 (Int.ofNat (bs * (2 : Nat))) = Int.ofNat ((2 : Nat) * bs)] (by kernel_rfl)
    (by
      simp only [allP]
      and_intros <;> first
        | omega
        | (simp; omega)
        | exact hl
        | exact i64_small (by simp; omega)
        | (rw [i64_small (by simp; omega)]; simp; omega))

theorem soBgo (l l' l2 : List Ep)  (n bs a b : Nat) (hn : n ≤ 500000) (hb : bs < n) (ha : a ≤ n) (hm : a + bs < n) (hl : LoopC Try.prog 1 63 soCB (soC (l)  n bs 0 (2 * bs)) (.exit 4) (soC (l')  n bs a b)) (hc : Contract Try.prog 42 [.own 0, I ((a : Nat) : Int), I ((a + bs : Nat) : Int), I ((n : Nat) : Int), .clo (.func 30) [] []] [.arr 6 ((l').map Ep.row)] (.tup []) [some (.arr 6 ((l2).map Ep.row))])  : CodeC Try.prog 1 63 soBB (soB (l)  n bs) .normal (soB (l2)  n (2 * bs)) := by
  exact CodeC.cast (by
    first
      | rfl) (soBgo_0 l l' l2 n bs a b hn hb ha hm hl hc )

theorem soBno_0 (l l' : List Ep)  (n bs a b : Nat) (hn : n ≤ 500000) (hb : bs < n) (ha : a ≤ n) (hm : n ≤ a + bs) (hl : LoopC Try.prog 1 63 soCB (soC (l)  n bs 0 (2 * bs)) (.exit 4) (soC (l')  n bs a b)) : CodeC Try.prog 1 63 soBB (soB (l)  n bs) (Ex.normal) ({ env := [((0 : Nat), V.own (0 : Nat)), ((1 : Nat), I (Int.ofNat n)), ((2 : Nat), V.clo (Fn.func (30 : Nat)) [] []), ((6 : Nat), I (Int.ofNat ((2 : Nat) * bs)))], st := [((0 : Nat), Obj.arr (6 : Nat) (List.map Ep.row l'))], ids := [(0 : Nat), (0 : Nat)] }) :=
  runP hmix [.reg 7 [(2, [], some true)], .reg 8 [(1, [.be (I ((2 * bs : Nat) : Int))], none)], .cut ⟨[0, 1, 2, 6, 7, 8], [(0, 0)], []⟩ (.exit 4) (soC (l')  n bs a b), .reg 13 [(2, [.be (I ((a + bs : Nat) : Int))], none)], .reg 14 [(2, [], some false)], .reg 16 [(1, [.be (I ((2 * bs : Nat) : Int))], none)]] ⟨[0, 1, 2, 6], [(0, 0)], []⟩ [
      decide (Int.ofNat bs < Int.ofNat n) = true,
      IntKind.wrap IntKind.i64 (Int.ofNat ((2 : Nat) * bs)) = Int.ofNat ((2 : Nat) * bs),
      LoopC Try.prog (1 : Nat) (63 : Nat) soCB { env := [((0 : Nat), V.own (0 : Nat)), ((1 : Nat), I (Int.ofNat n)), ((2 : Nat), V.clo (Fn.func (30 : Nat)) [] []), ((6 : Nat), I (Int.ofNat bs)), ((7 : Nat), I (0 : Int)), ((8 : Nat), I (Int.ofNat ((2 : Nat) * bs)))], st := [((0 : Nat), Obj.arr (6 : Nat) (List.map Ep.row l))], ids := [(0 : Nat), (0 : Nat)] } (Ex.exit (4 : Nat)) { env := [((0 : Nat), V.own (0 : Nat)), ((1 : Nat), I (Int.ofNat n)), ((2 : Nat), V.clo (Fn.func (30 : Nat)) [] []), ((6 : Nat), I (Int.ofNat bs)), ((7 : Nat), I (Int.ofNat a)), ((8 : Nat), I (Int.ofNat b))], st := [((0 : Nat), Obj.arr (6 : Nat) (List.map Ep.row l'))], ids := [(0 : Nat), (0 : Nat)] },
      IntKind.wrap IntKind.i64 (Int.ofNat (a + bs)) = Int.ofNat (a + bs),
      decide (Int.ofNat (a + bs) < Int.ofNat n) = false,
      IntKind.wrap IntKind.i64 (Int.ofNat (bs * (2 : Nat))) = Int.ofNat ((2 : Nat) * bs)] (by kernel_rfl)
    (by
      simp only [allP]
      and_intros <;> first
        | (simp; omega)
        | exact hl
        | exact i64_small (by simp; omega)
        | (rw [i64_small (by simp; omega)]; simp; omega))

theorem soBno (l l' : List Ep)  (n bs a b : Nat) (hn : n ≤ 500000) (hb : bs < n) (ha : a ≤ n) (hm : n ≤ a + bs) (hl : LoopC Try.prog 1 63 soCB (soC (l)  n bs 0 (2 * bs)) (.exit 4) (soC (l')  n bs a b))  : CodeC Try.prog 1 63 soBB (soB (l)  n bs) .normal (soB (l')  n (2 * bs)) := by
  exact CodeC.cast (by
    first
      | rfl) (soBno_0 l l' n bs a b hn hb ha hm hl )

theorem soBz_0 (l : List Ep)  (n bs : Nat) (hb : n ≤ bs) : CodeC Try.prog 1 63 soBB (soB (l)  n bs) (Ex.exit (2 : Nat)) ({ env := [((0 : Nat), V.own (0 : Nat)), ((1 : Nat), I (Int.ofNat n)), ((2 : Nat), V.clo (Fn.func (30 : Nat)) [] []), ((6 : Nat), I (Int.ofNat bs))], st := [((0 : Nat), Obj.arr (6 : Nat) (List.map Ep.row l))], ids := [(0 : Nat), (0 : Nat)] }) :=
  runP hmix [.reg 7 [(2, [], some false)]] ⟨[0, 1, 2, 6], [(0, 0)], []⟩ [
      decide (Int.ofNat bs < Int.ofNat n) = false] (by kernel_rfl)
    (by
      simp only [allP]
      and_intros <;> first
        | (simp; omega))

theorem soBz (l : List Ep)  (n bs : Nat) (hb : n ≤ bs)  : CodeC Try.prog 1 63 soBB (soB (l)  n bs) (.exit 2) (soB (l)  n bs) := by
  exact CodeC.cast (by
    first
      | rfl) (soBz_0 l n bs hb )

theorem soStb_0 (l l' l2 l3 : List Ep)  (n a b bs : Nat) (hl : LoopC Try.prog 1 63 soAB (soA (l)  n 20 0 20) (.exit 0) (soA (l')  n 20 a b)) (hc : Contract Try.prog 41 [.own 0, I ((a : Nat) : Int), I ((n : Nat) : Int), .clo (.func 30) [] []] [.arr 6 ((l').map Ep.row)] (.tup []) [some (.arr 6 ((l2).map Ep.row))]) (hk : LoopC Try.prog 1 63 soBB (soB (l2)  n 20) (.exit 2) (soB (l3)  n bs)) : Contract Try.prog 36 [.own 0, I (n : Int), .clo (.func 30) [] []] [.arr 6 ((l).map Ep.row)] (V.tup []) ([some (Obj.arr (6 : Nat) (List.map Ep.row l3))]) :=
  vcP hmix [.cut ⟨[0, 1, 2, 6, 7, 8], [(0, 0)], []⟩ (.exit 0) (soA (l')  n 20 a b), .reg 6 [(4, [.call [0] [] (.tup []) [some (.arr 6 ((l2).map Ep.row))]], none)], .cut ⟨[0, 1, 2, 6], [(0, 0)], []⟩ (.exit 2) (soB (l3)  n bs)] [] [
      LoopC Try.prog (1 : Nat) (63 : Nat) soAB { env := [((0 : Nat), V.own (0 : Nat)), ((1 : Nat), I (Int.ofNat n)), ((2 : Nat), V.clo (Fn.func (30 : Nat)) [] []), ((6 : Nat), I (20 : Int)), ((7 : Nat), I (0 : Int)), ((8 : Nat), I (20 : Int))], st := [((0 : Nat), Obj.arr (6 : Nat) (List.map Ep.row l))], ids := [(0 : Nat), (0 : Nat)] } (Ex.exit (0 : Nat)) { env := [((0 : Nat), V.own (0 : Nat)), ((1 : Nat), I (Int.ofNat n)), ((2 : Nat), V.clo (Fn.func (30 : Nat)) [] []), ((6 : Nat), I (20 : Int)), ((7 : Nat), I (Int.ofNat a)), ((8 : Nat), I (Int.ofNat b))], st := [((0 : Nat), Obj.arr (6 : Nat) (List.map Ep.row l'))], ids := [(0 : Nat), (0 : Nat)] },
      Contract Try.prog (41 : Nat) [V.own (0 : Nat), I (Int.ofNat a), I (Int.ofNat n), V.clo (Fn.func (30 : Nat)) [] []] [Obj.arr (6 : Nat) (List.map Ep.row l')] (V.tup []) [some (Obj.arr (6 : Nat) (List.map Ep.row l2))],
      LoopC Try.prog (1 : Nat) (63 : Nat) soBB { env := [((0 : Nat), V.own (0 : Nat)), ((1 : Nat), I (Int.ofNat n)), ((2 : Nat), V.clo (Fn.func (30 : Nat)) [] []), ((6 : Nat), I (20 : Int))], st := [((0 : Nat), Obj.arr (6 : Nat) (List.map Ep.row l2))], ids := [(0 : Nat), (0 : Nat)] } (Ex.exit (2 : Nat)) { env := [((0 : Nat), V.own (0 : Nat)), ((1 : Nat), I (Int.ofNat n)), ((2 : Nat), V.clo (Fn.func (30 : Nat)) [] []), ((6 : Nat), I (Int.ofNat bs))], st := [((0 : Nat), Obj.arr (6 : Nat) (List.map Ep.row l3))], ids := [(0 : Nat), (0 : Nat)] }] (by kernel_rfl)
    (by
      simp only [allP]
      and_intros <;> first
        | omega
        | exact hl
        | exact hk)

theorem soStb (l l' l2 l3 : List Ep)  (n a b bs : Nat) (hl : LoopC Try.prog 1 63 soAB (soA (l)  n 20 0 20) (.exit 0) (soA (l')  n 20 a b)) (hc : Contract Try.prog 41 [.own 0, I ((a : Nat) : Int), I ((n : Nat) : Int), .clo (.func 30) [] []] [.arr 6 ((l').map Ep.row)] (.tup []) [some (.arr 6 ((l2).map Ep.row))]) (hk : LoopC Try.prog 1 63 soBB (soB (l2)  n 20) (.exit 2) (soB (l3)  n bs)) : Contract Try.prog 36 [.own 0, I (n : Int), .clo (.func 30) [] []] [.arr 6 ((l).map Ep.row)] (.tup []) [some (.arr 6 ((l3).map Ep.row))] := by
  exact Contract.cast (by
    first
      | rfl) (by
    first
      | rfl) (soStb_0 l l' l2 l3 n a b bs hl hc hk )

theorem soSor_0 (l l' : List Ep)  (hc : Contract Try.prog 36 [.own 0, I (l.length : Int), .clo (.func 30) [] []] [.arr 6 ((l).map Ep.row)] (.tup []) [some (.arr 6 ((l').map Ep.row))]) : Contract Try.prog 29 [.own 0, .clo (.func 30) [] []] [.arr 6 ((l).map Ep.row)] (V.tup []) ([some (Obj.arr (6 : Nat) (List.map Ep.row l'))]) :=
  vcP hmix [.reg 0 [(2, [.be (I ((l.length : Nat) : Int))], none), (4, [.call [0] [] (.tup []) [some (.arr 6 ((l').map Ep.row))]], none)]] [] [
      Int.ofNat (List.length (List.map Ep.row l)) = Int.ofNat (List.length l),
      Contract Try.prog (36 : Nat) [V.own (0 : Nat), I (Int.ofNat (List.length l)), V.clo (Fn.func (30 : Nat)) [] []] [Obj.arr (6 : Nat) (List.map Ep.row l)] (V.tup []) [some (Obj.arr (6 : Nat) (List.map Ep.row l'))]] (by kernel_rfl)
    (by
      simp only [allP]
      and_intros <;> first
        | omega
        | (simp; done))

theorem soSor (l l' : List Ep)  (hc : Contract Try.prog 36 [.own 0, I (l.length : Int), .clo (.func 30) [] []] [.arr 6 ((l).map Ep.row)] (.tup []) [some (.arr 6 ((l').map Ep.row))]) : Contract Try.prog 29 [.own 0, .clo (.func 30) [] []] [.arr 6 ((l).map Ep.row)] (.tup []) [some (.arr 6 ((l').map Ep.row))] := by
  exact Contract.cast (by
    first
      | rfl) (by
    first
      | rfl) (soSor_0 l l' hc )

end Go.Proofs.Ytfpdlamjlbpmkaa
