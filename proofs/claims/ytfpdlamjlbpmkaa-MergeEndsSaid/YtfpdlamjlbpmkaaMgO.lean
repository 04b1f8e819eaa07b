/- merge: the end, at each number of blocks. -/
import Derived.Test.YtfpdlamjlbpmkaaMgN
namespace Go.Proofs.Ytfpdlamjlbpmkaa
open E
set_option maxRecDepth 100000
set_option linter.unusedVariables false
set_option linter.unusedSimpArgs false


def bks (n : Nat) : List Bk := (List.range n).map bk0
theorem me0_0 (l : List Bk) (i : Nat) (hl : l.length = 0) (h1 : LoopC Try.prog 0 123 mbB (mbS 0 [] 0) (.exit 0) (mbS 0 (bks 0) 0)) (h2 : LoopC Try.prog 0 123 mmB (mmS 0 (bks 0) 0 0) (.exit 2) (mmS 0 l 0 i)) : Contract Try.prog 5 [I 0] [] (Bo true) ([]) :=
  vcP hmix [.reg 1 [(0, [.call [] [] (Bo true) []], none)], .reg 4 [(0, [.idx 4], none)], .cut ⟨[0, 4, 5], [(801000, 0)], []⟩ (.exit 0) (mbS 0 (bks 0) 0), .cut ⟨[0, 4, 6, 7], [(0, 0)], []⟩ (.exit 2) (mmS 0 l 0 i), .unroll 7, .reg 27 [(1, [.be (I 0)], none)]] [] [
      Contract Try.prog (7 : Nat) [] [] (Bo true) [],
      LoopC Try.prog (0 : Nat) (123 : Nat) mbB { env := [((0 : Nat), I (0 : Int)), ((4 : Nat), V.own (0 : Nat)), ((5 : Nat), I (0 : Int))], st := [((0 : Nat), Obj.arr (4 : Nat) [])], ids := [(0 : Nat)] } (Ex.exit (0 : Nat)) { env := [((0 : Nat), I (0 : Int)), ((4 : Nat), V.own (0 : Nat)), ((5 : Nat), I (0 : Int))], st := [((0 : Nat), Obj.arr (4 : Nat) [])], ids := [(0 : Nat)] },
      LoopC Try.prog (0 : Nat) (123 : Nat) mmB { env := [((0 : Nat), I (0 : Int)), ((4 : Nat), V.own (0 : Nat)), ((6 : Nat), I (0 : Int)), ((7 : Nat), I (0 : Int))], st := [((0 : Nat), Obj.arr (4 : Nat) [])], ids := [(0 : Nat)] } (Ex.exit (2 : Nat)) { env := [((0 : Nat), I (0 : Int)), ((4 : Nat), V.own (0 : Nat)), ((6 : Nat), I (0 : Int)), ((7 : Nat), I (Int.ofNat i))], st := [((0 : Nat), Obj.arr (4 : Nat) (List.map Bk.row l))], ids := [(0 : Nat)] },
      Int.ofNat (List.length (List.map Bk.row l)) = (0 : Int)] (by kernel_rfl)
    (by
      simp only [allP]
      and_intros <;> first
        | exact cAlive
        | exact h1
        | exact h2
        | (simp [hl]; done))

theorem me0 (l : List Bk) (i : Nat) (hl : l.length = 0) (h1 : LoopC Try.prog 0 123 mbB (mbS 0 [] 0) (.exit 0) (mbS 0 (bks 0) 0)) (h2 : LoopC Try.prog 0 123 mmB (mmS 0 (bks 0) 0 0) (.exit 2) (mmS 0 l 0 i)) : Contract Try.prog 5 [I 0] [] (Bo true) [] := by
  exact Contract.cast (by
    first
      | rfl) (by
    first
      | rfl) (me0_0 l i hl h1 h2 )

theorem me1_0 (l : List Bk) (i : Nat) (hl : l.length = 1) (h1 : LoopC Try.prog 0 123 mbB (mbS 1 [] 0) (.exit 0) (mbS 1 (bks 1) 1)) (h2 : LoopC Try.prog 0 123 mmB (mmS 1 (bks 1) 0 0) (.exit 2) (mmS 1 l 0 i)) : Contract Try.prog 5 [I 1] [] (Bo true) ([]) :=
  vcP hmix [.reg 1 [(0, [.call [] [] (Bo true) []], none)], .reg 4 [(0, [.idx 4], none)], .cut ⟨[0, 4, 5], [(801000, 0)], []⟩ (.exit 0) (mbS 1 (bks 1) 1), .cut ⟨[0, 4, 6, 7], [(0, 0)], []⟩ (.exit 2) (mmS 1 l 0 i), .unroll 7, .reg 27 [(1, [.be (I 1)], none)]] [] [
      Contract Try.prog (7 : Nat) [] [] (Bo true) [],
      LoopC Try.prog (0 : Nat) (123 : Nat) mbB { env := [((0 : Nat), I (1 : Int)), ((4 : Nat), V.own (0 : Nat)), ((5 : Nat), I (0 : Int))], st := [((0 : Nat), Obj.arr (4 : Nat) [])], ids := [(0 : Nat)] } (Ex.exit (0 : Nat)) { env := [((0 : Nat), I (1 : Int)), ((4 : Nat), V.own (0 : Nat)), ((5 : Nat), I (1 : Int))], st := [((0 : Nat), Obj.arr (4 : Nat) [Bk.row { num := (0 : Int), born := (0 : Int), tier := (0 : Int), eps := [] }])], ids := [(0 : Nat)] },
      LoopC Try.prog (0 : Nat) (123 : Nat) mmB { env := [((0 : Nat), I (1 : Int)), ((4 : Nat), V.own (0 : Nat)), ((6 : Nat), I (0 : Int)), ((7 : Nat), I (0 : Int))], st := [((0 : Nat), Obj.arr (4 : Nat) [Bk.row { num := (0 : Int), born := (0 : Int), tier := (0 : Int), eps := [] }])], ids := [(0 : Nat)] } (Ex.exit (2 : Nat)) { env := [((0 : Nat), I (1 : Int)), ((4 : Nat), V.own (0 : Nat)), ((6 : Nat), I (0 : Int)), ((7 : Nat), I (Int.ofNat i))], st := [((0 : Nat), Obj.arr (4 : Nat) (List.map Bk.row l))], ids := [(0 : Nat)] },
      Int.ofNat (List.length (List.map Bk.row l)) = (1 : Int)] (by kernel_rfl)
    (by
      simp only [allP]
      and_intros <;> first
        | exact cAlive
        | exact h1
        | exact h2
        | (simp [hl]; done))

theorem me1 (l : List Bk) (i : Nat) (hl : l.length = 1) (h1 : LoopC Try.prog 0 123 mbB (mbS 1 [] 0) (.exit 0) (mbS 1 (bks 1) 1)) (h2 : LoopC Try.prog 0 123 mmB (mmS 1 (bks 1) 0 0) (.exit 2) (mmS 1 l 0 i)) : Contract Try.prog 5 [I 1] [] (Bo true) [] := by
  exact Contract.cast (by
    first
      | rfl) (by
    first
      | rfl) (me1_0 l i hl h1 h2 )

theorem me2_0 (l : List Bk) (i : Nat) (hl : l.length = 1) (h1 : LoopC Try.prog 0 123 mbB (mbS 2 [] 0) (.exit 0) (mbS 2 (bks 2) 2)) (h2 : LoopC Try.prog 0 123 mmB (mmS 2 (bks 2) 0 0) (.exit 2) (mmS 2 l 1 i)) : Contract Try.prog 5 [I 2] [] (Bo true) ([]) :=
  vcP hmix [.reg 1 [(0, [.call [] [] (Bo true) []], none)], .reg 4 [(0, [.idx 4], none)], .cut ⟨[0, 4, 5], [(801000, 0)], []⟩ (.exit 0) (mbS 2 (bks 2) 2), .cut ⟨[0, 4, 6, 7], [(0, 0)], []⟩ (.exit 2) (mmS 2 l 1 i), .unroll 7, .reg 27 [(1, [.be (I 1)], none)]] [] [
      Contract Try.prog (7 : Nat) [] [] (Bo true) [],
      LoopC Try.prog (0 : Nat) (123 : Nat) mbB { env := [((0 : Nat), I (2 : Int)), ((4 : Nat), V.own (0 : Nat)), ((5 : Nat), I (0 : Int))], st := [((0 : Nat), Obj.arr (4 : Nat) [])], ids := [(0 : Nat)] } (Ex.exit (0 : Nat)) { env := [((0 : Nat), I (2 : Int)), ((4 : Nat), V.own (0 : Nat)), ((5 : Nat), I (2 : Int))], st := [((0 : Nat), Obj.arr (4 : Nat) [Bk.row { num := (0 : Int), born := (0 : Int), tier := (0 : Int), eps := [] }, Bk.row { num := (1 : Int), born := (1 : Int), tier := (0 : Int), eps := [] }])], ids := [(0 : Nat)] },
      LoopC Try.prog (0 : Nat) (123 : Nat) mmB { env := [((0 : Nat), I (2 : Int)), ((4 : Nat), V.own (0 : Nat)), ((6 : Nat), I (0 : Int)), ((7 : Nat), I (0 : Int))], st := [((0 : Nat), Obj.arr (4 : Nat) [Bk.row { num := (0 : Int), born := (0 : Int), tier := (0 : Int), eps := [] }, Bk.row { num := (1 : Int), born := (1 : Int), tier := (0 : Int), eps := [] }])], ids := [(0 : Nat)] } (Ex.exit (2 : Nat)) { env := [((0 : Nat), I (2 : Int)), ((4 : Nat), V.own (0 : Nat)), ((6 : Nat), I (1 : Int)), ((7 : Nat), I (Int.ofNat i))], st := [((0 : Nat), Obj.arr (4 : Nat) (List.map Bk.row l))], ids := [(0 : Nat)] },
      Int.ofNat (List.length (List.map Bk.row l)) = (1 : Int)] (by kernel_rfl)
    (by
      simp only [allP]
      and_intros <;> first
        | exact cAlive
        | exact h1
        | exact h2
        | (simp [hl]; done))

theorem me2 (l : List Bk) (i : Nat) (hl : l.length = 1) (h1 : LoopC Try.prog 0 123 mbB (mbS 2 [] 0) (.exit 0) (mbS 2 (bks 2) 2)) (h2 : LoopC Try.prog 0 123 mmB (mmS 2 (bks 2) 0 0) (.exit 2) (mmS 2 l 1 i)) : Contract Try.prog 5 [I 2] [] (Bo true) [] := by
  exact Contract.cast (by
    first
      | rfl) (by
    first
      | rfl) (me2_0 l i hl h1 h2 )

theorem me3_0 (l : List Bk) (i : Nat) (hl : l.length = 2) (h1 : LoopC Try.prog 0 123 mbB (mbS 3 [] 0) (.exit 0) (mbS 3 (bks 3) 3)) (h2 : LoopC Try.prog 0 123 mmB (mmS 3 (bks 3) 0 0) (.exit 2) (mmS 3 l 1 i)) : Contract Try.prog 5 [I 3] [] (Bo true) ([]) :=
  vcP hmix [.reg 1 [(0, [.call [] [] (Bo true) []], none)], .reg 4 [(0, [.idx 4], none)], .cut ⟨[0, 4, 5], [(801000, 0)], []⟩ (.exit 0) (mbS 3 (bks 3) 3), .cut ⟨[0, 4, 6, 7], [(0, 0)], []⟩ (.exit 2) (mmS 3 l 1 i), .unroll 7, .reg 27 [(1, [.be (I 2)], none)]] [] [
      Contract Try.prog (7 : Nat) [] [] (Bo true) [],
      LoopC Try.prog (0 : Nat) (123 : Nat) mbB { env := [((0 : Nat), I (3 : Int)), ((4 : Nat), V.own (0 : Nat)), ((5 : Nat), I (0 : Int))], st := [((0 : Nat), Obj.arr (4 : Nat) [])], ids := [(0 : Nat)] } (Ex.exit (0 : Nat)) { env := [((0 : Nat), I (3 : Int)), ((4 : Nat), V.own (0 : Nat)), ((5 : Nat), I (3 : Int))], st := [((0 : Nat), Obj.arr (4 : Nat) [Bk.row { num := (0 : Int), born := (0 : Int), tier := (0 : Int), eps := [] }, Bk.row { num := (1 : Int), born := (1 : Int), tier := (0 : Int), eps := [] }, Bk.row { num := (2 : Int), born := (2 : Int), tier := (0 : Int), eps := [] }])], ids := [(0 : Nat)] },
      LoopC Try.prog (0 : Nat) (123 : Nat) mmB { env := [((0 : Nat), I (3 : Int)), ((4 : Nat), V.own (0 : Nat)), ((6 : Nat), I (0 : Int)), ((7 : Nat), I (0 : Int))], st := [((0 : Nat), Obj.arr (4 : Nat) [Bk.row { num := (0 : Int), born := (0 : Int), tier := (0 : Int), eps := [] }, Bk.row { num := (1 : Int), born := (1 : Int), tier := (0 : Int), eps := [] }, Bk.row { num := (2 : Int), born := (2 : Int), tier := (0 : Int), eps := [] }])], ids := [(0 : Nat)] } (Ex.exit (2 : Nat)) { env := [((0 : Nat), I (3 : Int)), ((4 : Nat), V.own (0 : Nat)), ((6 : Nat), I (1 : Int)), ((7 : Nat), I (Int.ofNat i))], st := [((0 : Nat), Obj.arr (4 : Nat) (List.map Bk.row l))], ids := [(0 : Nat)] },
      Int.ofNat (List.length (List.map Bk.row l)) = (2 : Int)] (by kernel_rfl)
    (by
      simp only [allP]
      and_intros <;> first
        | exact cAlive
        | exact h1
        | exact h2
        | (simp [hl]; done))

theorem me3 (l : List Bk) (i : Nat) (hl : l.length = 2) (h1 : LoopC Try.prog 0 123 mbB (mbS 3 [] 0) (.exit 0) (mbS 3 (bks 3) 3)) (h2 : LoopC Try.prog 0 123 mmB (mmS 3 (bks 3) 0 0) (.exit 2) (mmS 3 l 1 i)) : Contract Try.prog 5 [I 3] [] (Bo true) [] := by
  exact Contract.cast (by
    first
      | rfl) (by
    first
      | rfl) (me3_0 l i hl h1 h2 )

theorem me4_0 (l : List Bk) (i : Nat) (hl : l.length = 1) (h1 : LoopC Try.prog 0 123 mbB (mbS 4 [] 0) (.exit 0) (mbS 4 (bks 4) 4)) (h2 : LoopC Try.prog 0 123 mmB (mmS 4 (bks 4) 0 0) (.exit 2) (mmS 4 l 3 i)) : Contract Try.prog 5 [I 4] [] (Bo true) ([]) :=
  vcP hmix [.reg 1 [(0, [.call [] [] (Bo true) []], none)], .reg 4 [(0, [.idx 4], none)], .cut ⟨[0, 4, 5], [(801000, 0)], []⟩ (.exit 0) (mbS 4 (bks 4) 4), .cut ⟨[0, 4, 6, 7], [(0, 0)], []⟩ (.exit 2) (mmS 4 l 3 i), .unroll 7, .reg 27 [(1, [.be (I 1)], none)]] [] [
      Contract Try.prog (7 : Nat) [] [] (Bo true) [],
      LoopC Try.prog (0 : Nat) (123 : Nat) mbB { env := [((0 : Nat), I (4 : Int)), ((4 : Nat), V.own (0 : Nat)), ((5 : Nat), I (0 : Int))], st := [((0 : Nat), Obj.arr (4 : Nat) [])], ids := [(0 : Nat)] } (Ex.exit (0 : Nat)) { env := [((0 : Nat), I (4 : Int)), ((4 : Nat), V.own (0 : Nat)), ((5 : Nat), I (4 : Int))], st := [((0 : Nat), Obj.arr (4 : Nat) [Bk.row { num := (0 : Int), born := (0 : Int), tier := (0 : Int), eps := [] }, Bk.row { num := (1 : Int), born := (1 : Int), tier := (0 : Int), eps := [] }, Bk.row { num := (2 : Int), born := (2 : Int), tier := (0 : Int), eps := [] }, Bk.row { num := (3 : Int), born := (3 : Int), tier := (0 : Int), eps := [] }])], ids := [(0 : Nat)] },
      LoopC Try.prog (0 : Nat) (123 : Nat) mmB { env := [((0 : Nat), I (4 : Int)), ((4 : Nat), V.own (0 : Nat)), ((6 : Nat), I (0 : Int)), ((7 : Nat), I (0 : Int))], st := [((0 : Nat), Obj.arr (4 : Nat) [Bk.row { num := (0 : Int), born := (0 : Int), tier := (0 : Int), eps := [] }, Bk.row { num := (1 : Int), born := (1 : Int), tier := (0 : Int), eps := [] }, Bk.row { num := (2 : Int), born := (2 : Int), tier := (0 : Int), eps := [] }, Bk.row { num := (3 : Int), born := (3 : Int), tier := (0 : Int), eps := [] }])], ids := [(0 : Nat)] } (Ex.exit (2 : Nat)) { env := [((0 : Nat), I (4 : Int)), ((4 : Nat), V.own (0 : Nat)), ((6 : Nat), I (3 : Int)), ((7 : Nat), I (Int.ofNat i))], st := [((0 : Nat), Obj.arr (4 : Nat) (List.map Bk.row l))], ids := [(0 : Nat)] },
      Int.ofNat (List.length (List.map Bk.row l)) = (1 : Int)] (by kernel_rfl)
    (by
      simp only [allP]
      and_intros <;> first
        | exact cAlive
        | exact h1
        | exact h2
        | (simp [hl]; done))

theorem me4 (l : List Bk) (i : Nat) (hl : l.length = 1) (h1 : LoopC Try.prog 0 123 mbB (mbS 4 [] 0) (.exit 0) (mbS 4 (bks 4) 4)) (h2 : LoopC Try.prog 0 123 mmB (mmS 4 (bks 4) 0 0) (.exit 2) (mmS 4 l 3 i)) : Contract Try.prog 5 [I 4] [] (Bo true) [] := by
  exact Contract.cast (by
    first
      | rfl) (by
    first
      | rfl) (me4_0 l i hl h1 h2 )

theorem me5_0 (l : List Bk) (i : Nat) (hl : l.length = 2) (h1 : LoopC Try.prog 0 123 mbB (mbS 5 [] 0) (.exit 0) (mbS 5 (bks 5) 5)) (h2 : LoopC Try.prog 0 123 mmB (mmS 5 (bks 5) 0 0) (.exit 2) (mmS 5 l 3 i)) : Contract Try.prog 5 [I 5] [] (Bo true) ([]) :=
  vcP hmix [.reg 1 [(0, [.call [] [] (Bo true) []], none)], .reg 4 [(0, [.idx 4], none)], .cut ⟨[0, 4, 5], [(801000, 0)], []⟩ (.exit 0) (mbS 5 (bks 5) 5), .cut ⟨[0, 4, 6, 7], [(0, 0)], []⟩ (.exit 2) (mmS 5 l 3 i), .unroll 7, .reg 27 [(1, [.be (I 2)], none)]] [] [
      Contract Try.prog (7 : Nat) [] [] (Bo true) [],
      LoopC Try.prog (0 : Nat) (123 : Nat) mbB { env := [((0 : Nat), I (5 : Int)), ((4 : Nat), V.own (0 : Nat)), ((5 : Nat), I (0 : Int))], st := [((0 : Nat), Obj.arr (4 : Nat) [])], ids := [(0 : Nat)] } (Ex.exit (0 : Nat)) { env := [((0 : Nat), I (5 : Int)), ((4 : Nat), V.own (0 : Nat)), ((5 : Nat), I (5 : Int))], st := [((0 : Nat), Obj.arr (4 : Nat) [Bk.row { num := (0 : Int), born := (0 : Int), tier := (0 : Int), eps := [] }, Bk.row { num := (1 : Int), born := (1 : Int), tier := (0 : Int), eps := [] }, Bk.row { num := (2 : Int), born := (2 : Int), tier := (0 : Int), eps := [] }, Bk.row { num := (3 : Int), born := (3 : Int), tier := (0 : Int), eps := [] }, Bk.row { num := (4 : Int), born := (4 : Int), tier := (0 : Int), eps := [] }])], ids := [(0 : Nat)] },
      LoopC Try.prog (0 : Nat) (123 : Nat) mmB { env := [((0 : Nat), I (5 : Int)), ((4 : Nat), V.own (0 : Nat)), ((6 : Nat), I (0 : Int)), ((7 : Nat), I (0 : Int))], st := [((0 : Nat), Obj.arr (4 : Nat) [Bk.row { num := (0 : Int), born := (0 : Int), tier := (0 : Int), eps := [] }, Bk.row { num := (1 : Int), born := (1 : Int), tier := (0 : Int), eps := [] }, Bk.row { num := (2 : Int), born := (2 : Int), tier := (0 : Int), eps := [] }, Bk.row { num := (3 : Int), born := (3 : Int), tier := (0 : Int), eps := [] }, Bk.row { num := (4 : Int), born := (4 : Int), tier := (0 : Int), eps := [] }])], ids := [(0 : Nat)] } (Ex.exit (2 : Nat)) { env := [((0 : Nat), I (5 : Int)), ((4 : Nat), V.own (0 : Nat)), ((6 : Nat), I (3 : Int)), ((7 : Nat), I (Int.ofNat i))], st := [((0 : Nat), Obj.arr (4 : Nat) (List.map Bk.row l))], ids := [(0 : Nat)] },
      Int.ofNat (List.length (List.map Bk.row l)) = (2 : Int)] (by kernel_rfl)
    (by
      simp only [allP]
      and_intros <;> first
        | exact cAlive
        | exact h1
        | exact h2
        | (simp [hl]; done))

theorem me5 (l : List Bk) (i : Nat) (hl : l.length = 2) (h1 : LoopC Try.prog 0 123 mbB (mbS 5 [] 0) (.exit 0) (mbS 5 (bks 5) 5)) (h2 : LoopC Try.prog 0 123 mmB (mmS 5 (bks 5) 0 0) (.exit 2) (mmS 5 l 3 i)) : Contract Try.prog 5 [I 5] [] (Bo true) [] := by
  exact Contract.cast (by
    first
      | rfl) (by
    first
      | rfl) (me5_0 l i hl h1 h2 )

theorem me6_0 (l : List Bk) (i : Nat) (hl : l.length = 2) (h1 : LoopC Try.prog 0 123 mbB (mbS 6 [] 0) (.exit 0) (mbS 6 (bks 6) 6)) (h2 : LoopC Try.prog 0 123 mmB (mmS 6 (bks 6) 0 0) (.exit 2) (mmS 6 l 4 i)) : Contract Try.prog 5 [I 6] [] (Bo true) ([]) :=
  vcP hmix [.reg 1 [(0, [.call [] [] (Bo true) []], none)], .reg 4 [(0, [.idx 4], none)], .cut ⟨[0, 4, 5], [(801000, 0)], []⟩ (.exit 0) (mbS 6 (bks 6) 6), .cut ⟨[0, 4, 6, 7], [(0, 0)], []⟩ (.exit 2) (mmS 6 l 4 i), .unroll 7, .reg 27 [(1, [.be (I 2)], none)]] [] [
      Contract Try.prog (7 : Nat) [] [] (Bo true) [],
      LoopC Try.prog (0 : Nat) (123 : Nat) mbB { env := [((0 : Nat), I (6 : Int)), ((4 : Nat), V.own (0 : Nat)), ((5 : Nat), I (0 : Int))], st := [((0 : Nat), Obj.arr (4 : Nat) [])], ids := [(0 : Nat)] } (Ex.exit (0 : Nat)) { env := [((0 : Nat), I (6 : Int)), ((4 : Nat), V.own (0 : Nat)), ((5 : Nat), I (6 : Int))], st := [((0 : Nat), Obj.arr (4 : Nat) [Bk.row { num := (0 : Int), born := (0 : Int), tier := (0 : Int), eps := [] }, Bk.row { num := (1 : Int), born := (1 : Int), tier := (0 : Int), eps := [] }, Bk.row { num := (2 : Int), born := (2 : Int), tier := (0 : Int), eps := [] }, Bk.row { num := (3 : Int), born := (3 : Int), tier := (0 : Int), eps := [] }, Bk.row { num := (4 : Int), born := (4 : Int), tier := (0 : Int), eps := [] }, Bk.row { num := (5 : Int), born := (5 : Int), tier := (0 : Int), eps := [] }])], ids := [(0 : Nat)] },
      LoopC Try.prog (0 : Nat) (123 : Nat) mmB { env := [((0 : Nat), I (6 : Int)), ((4 : Nat), V.own (0 : Nat)), ((6 : Nat), I (0 : Int)), ((7 : Nat), I (0 : Int))], st := [((0 : Nat), Obj.arr (4 : Nat) [Bk.row { num := (0 : Int), born := (0 : Int), tier := (0 : Int), eps := [] }, Bk.row { num := (1 : Int), born := (1 : Int), tier := (0 : Int), eps := [] }, Bk.row { num := (2 : Int), born := (2 : Int), tier := (0 : Int), eps := [] }, Bk.row { num := (3 : Int), born := (3 : Int), tier := (0 : Int), eps := [] }, Bk.row { num := (4 : Int), born := (4 : Int), tier := (0 : Int), eps := [] }, Bk.row { num := (5 : Int), born := (5 : Int), tier := (0 : Int), eps := [] }])], ids := [(0 : Nat)] } (Ex.exit (2 : Nat)) { env := [((0 : Nat), I (6 : Int)), ((4 : Nat), V.own (0 : Nat)), ((6 : Nat), I (4 : Int)), ((7 : Nat), I (Int.ofNat i))], st := [((0 : Nat), Obj.arr (4 : Nat) (List.map Bk.row l))], ids := [(0 : Nat)] },
      Int.ofNat (List.length (List.map Bk.row l)) = (2 : Int)] (by kernel_rfl)
    (by
      simp only [allP]
      and_intros <;> first
        | exact cAlive
        | exact h1
        | exact h2
        | (simp [hl]; done))

theorem me6 (l : List Bk) (i : Nat) (hl : l.length = 2) (h1 : LoopC Try.prog 0 123 mbB (mbS 6 [] 0) (.exit 0) (mbS 6 (bks 6) 6)) (h2 : LoopC Try.prog 0 123 mmB (mmS 6 (bks 6) 0 0) (.exit 2) (mmS 6 l 4 i)) : Contract Try.prog 5 [I 6] [] (Bo true) [] := by
  exact Contract.cast (by
    first
      | rfl) (by
    first
      | rfl) (me6_0 l i hl h1 h2 )

theorem me7_0 (l : List Bk) (i : Nat) (hl : l.length = 3) (h1 : LoopC Try.prog 0 123 mbB (mbS 7 [] 0) (.exit 0) (mbS 7 (bks 7) 7)) (h2 : LoopC Try.prog 0 123 mmB (mmS 7 (bks 7) 0 0) (.exit 2) (mmS 7 l 4 i)) : Contract Try.prog 5 [I 7] [] (Bo true) ([]) :=
  vcP hmix [.reg 1 [(0, [.call [] [] (Bo true) []], none)], .reg 4 [(0, [.idx 4], none)], .cut ⟨[0, 4, 5], [(801000, 0)], []⟩ (.exit 0) (mbS 7 (bks 7) 7), .cut ⟨[0, 4, 6, 7], [(0, 0)], []⟩ (.exit 2) (mmS 7 l 4 i), .unroll 7, .reg 27 [(1, [.be (I 3)], none)]] [] [
      Contract Try.prog (7 : Nat) [] [] (Bo true) [],
      LoopC Try.prog (0 : Nat) (123 : Nat) mbB { env := [((0 : Nat), I (7 : Int)), ((4 : Nat), V.own (0 : Nat)), ((5 : Nat), I (0 : Int))], st := [((0 : Nat), Obj.arr (4 : Nat) [])], ids := [(0 : Nat)] } (Ex.exit (0 : Nat)) { env := [((0 : Nat), I (7 : Int)), ((4 : Nat), V.own (0 : Nat)), ((5 : Nat), I (7 : Int))], st := [((0 : Nat), Obj.arr (4 : Nat) [Bk.row { num := (0 : Int), born := (0 : Int), tier := (0 : Int), eps := [] }, Bk.row { num := (1 : Int), born := (1 : Int), tier := (0 : Int), eps := [] }, Bk.row { num := (2 : Int), born := (2 : Int), tier := (0 : Int), eps := [] }, Bk.row { num := (3 : Int), born := (3 : Int), tier := (0 : Int), eps := [] }, Bk.row { num := (4 : Int), born := (4 : Int), tier := (0 : Int), eps := [] }, Bk.row { num := (5 : Int), born := (5 : Int), tier := (0 : Int), eps := [] }, Bk.row { num := (6 : Int), born := (6 : Int), tier := (0 : Int), eps := [] }])], ids := [(0 : Nat)] },
      LoopC Try.prog (0 : Nat) (123 : Nat) mmB { env := [((0 : Nat), I (7 : Int)), ((4 : Nat), V.own (0 : Nat)), ((6 : Nat), I (0 : Int)), ((7 : Nat), I (0 : Int))], st := [((0 : Nat), Obj.arr (4 : Nat) [Bk.row { num := (0 : Int), born := (0 : Int), tier := (0 : Int), eps := [] }, Bk.row { num := (1 : Int), born := (1 : Int), tier := (0 : Int), eps := [] }, Bk.row { num := (2 : Int), born := (2 : Int), tier := (0 : Int), eps := [] }, Bk.row { num := (3 : Int), born := (3 : Int), tier := (0 : Int), eps := [] }, Bk.row { num := (4 : Int), born := (4 : Int), tier := (0 : Int), eps := [] }, Bk.row { num := (5 : Int), born := (5 : Int), tier := (0 : Int), eps := [] }, Bk.row { num := (6 : Int), born := (6 : Int), tier := (0 : Int), eps := [] }])], ids := [(0 : Nat)] } (Ex.exit (2 : Nat)) { env := [((0 : Nat), I (7 : Int)), ((4 : Nat), V.own (0 : Nat)), ((6 : Nat), I (4 : Int)), ((7 : Nat), I (Int.ofNat i))], st := [((0 : Nat), Obj.arr (4 : Nat) (List.map Bk.row l))], ids := [(0 : Nat)] },
      Int.ofNat (List.length (List.map Bk.row l)) = (3 : Int)] (by kernel_rfl)
    (by
      simp only [allP]
      and_intros <;> first
        | exact cAlive
        | exact h1
        | exact h2
        | (simp [hl]; done))

theorem me7 (l : List Bk) (i : Nat) (hl : l.length = 3) (h1 : LoopC Try.prog 0 123 mbB (mbS 7 [] 0) (.exit 0) (mbS 7 (bks 7) 7)) (h2 : LoopC Try.prog 0 123 mmB (mmS 7 (bks 7) 0 0) (.exit 2) (mmS 7 l 4 i)) : Contract Try.prog 5 [I 7] [] (Bo true) [] := by
  exact Contract.cast (by
    first
      | rfl) (by
    first
      | rfl) (me7_0 l i hl h1 h2 )

theorem me8_0 (l : List Bk) (i : Nat) (hl : l.length = 1) (h1 : LoopC Try.prog 0 123 mbB (mbS 8 [] 0) (.exit 0) (mbS 8 (bks 8) 8)) (h2 : LoopC Try.prog 0 123 mmB (mmS 8 (bks 8) 0 0) (.exit 2) (mmS 8 l 7 i)) : Contract Try.prog 5 [I 8] [] (Bo true) ([]) :=
  vcP hmix [.reg 1 [(0, [.call [] [] (Bo true) []], none)], .reg 4 [(0, [.idx 4], none)], .cut ⟨[0, 4, 5], [(801000, 0)], []⟩ (.exit 0) (mbS 8 (bks 8) 8), .cut ⟨[0, 4, 6, 7], [(0, 0)], []⟩ (.exit 2) (mmS 8 l 7 i), .unroll 7, .reg 27 [(1, [.be (I 1)], none)]] [] [
      Contract Try.prog (7 : Nat) [] [] (Bo true) [],
      LoopC Try.prog (0 : Nat) (123 : Nat) mbB { env := [((0 : Nat), I (8 : Int)), ((4 : Nat), V.own (0 : Nat)), ((5 : Nat), I (0 : Int))], st := [((0 : Nat), Obj.arr (4 : Nat) [])], ids := [(0 : Nat)] } (Ex.exit (0 : Nat)) { env := [((0 : Nat), I (8 : Int)), ((4 : Nat), V.own (0 : Nat)), ((5 : Nat), I (8 : Int))], st := [((0 : Nat), Obj.arr (4 : Nat) [Bk.row { num := (0 : Int), born := (0 : Int), tier := (0 : Int), eps := [] }, Bk.row { num := (1 : Int), born := (1 : Int), tier := (0 : Int), eps := [] }, Bk.row { num := (2 : Int), born := (2 : Int), tier := (0 : Int), eps := [] }, Bk.row { num := (3 : Int), born := (3 : Int), tier := (0 : Int), eps := [] }, Bk.row { num := (4 : Int), born := (4 : Int), tier := (0 : Int), eps := [] }, Bk.row { num := (5 : Int), born := (5 : Int), tier := (0 : Int), eps := [] }, Bk.row { num := (6 : Int), born := (6 : Int), tier := (0 : Int), eps := [] }, Bk.row { num := (7 : Int), born := (7 : Int), tier := (0 : Int), eps := [] }])], ids := [(0 : Nat)] },
      LoopC Try.prog (0 : Nat) (123 : Nat) mmB { env := [((0 : Nat), I (8 : Int)), ((4 : Nat), V.own (0 : Nat)), ((6 : Nat), I (0 : Int)), ((7 : Nat), I (0 : Int))], st := [((0 : Nat), Obj.arr (4 : Nat) [Bk.row { num := (0 : Int), born := (0 : Int), tier := (0 : Int), eps := [] }, Bk.row { num := (1 : Int), born := (1 : Int), tier := (0 : Int), eps := [] }, Bk.row { num := (2 : Int), born := (2 : Int), tier := (0 : Int), eps := [] }, Bk.row { num := (3 : Int), born := (3 : Int), tier := (0 : Int), eps := [] }, Bk.row { num := (4 : Int), born := (4 : Int), tier := (0 : Int), eps := [] }, Bk.row { num := (5 : Int), born := (5 : Int), tier := (0 : Int), eps := [] }, Bk.row { num := (6 : Int), born := (6 : Int), tier := (0 : Int), eps := [] }, Bk.row { num := (7 : Int), born := (7 : Int), tier := (0 : Int), eps := [] }])], ids := [(0 : Nat)] } (Ex.exit (2 : Nat)) { env := [((0 : Nat), I (8 : Int)), ((4 : Nat), V.own (0 : Nat)), ((6 : Nat), I (7 : Int)), ((7 : Nat), I (Int.ofNat i))], st := [((0 : Nat), Obj.arr (4 : Nat) (List.map Bk.row l))], ids := [(0 : Nat)] },
      Int.ofNat (List.length (List.map Bk.row l)) = (1 : Int)] (by kernel_rfl)
    (by
      simp only [allP]
      and_intros <;> first
        | exact cAlive
        | exact h1
        | exact h2
        | (simp [hl]; done))

theorem me8 (l : List Bk) (i : Nat) (hl : l.length = 1) (h1 : LoopC Try.prog 0 123 mbB (mbS 8 [] 0) (.exit 0) (mbS 8 (bks 8) 8)) (h2 : LoopC Try.prog 0 123 mmB (mmS 8 (bks 8) 0 0) (.exit 2) (mmS 8 l 7 i)) : Contract Try.prog 5 [I 8] [] (Bo true) [] := by
  exact Contract.cast (by
    first
      | rfl) (by
    first
      | rfl) (me8_0 l i hl h1 h2 )

theorem me9_0 (l : List Bk) (i : Nat) (hl : l.length = 2) (h1 : LoopC Try.prog 0 123 mbB (mbS 9 [] 0) (.exit 0) (mbS 9 (bks 9) 9)) (h2 : LoopC Try.prog 0 123 mmB (mmS 9 (bks 9) 0 0) (.exit 2) (mmS 9 l 7 i)) : Contract Try.prog 5 [I 9] [] (Bo true) ([]) :=
  vcP hmix [.reg 1 [(0, [.call [] [] (Bo true) []], none)], .reg 4 [(0, [.idx 4], none)], .cut ⟨[0, 4, 5], [(801000, 0)], []⟩ (.exit 0) (mbS 9 (bks 9) 9), .cut ⟨[0, 4, 6, 7], [(0, 0)], []⟩ (.exit 2) (mmS 9 l 7 i), .unroll 7, .reg 27 [(1, [.be (I 2)], none)]] [] [
      Contract Try.prog (7 : Nat) [] [] (Bo true) [],
      LoopC Try.prog (0 : Nat) (123 : Nat) mbB { env := [((0 : Nat), I (9 : Int)), ((4 : Nat), V.own (0 : Nat)), ((5 : Nat), I (0 : Int))], st := [((0 : Nat), Obj.arr (4 : Nat) [])], ids := [(0 : Nat)] } (Ex.exit (0 : Nat)) { env := [((0 : Nat), I (9 : Int)), ((4 : Nat), V.own (0 : Nat)), ((5 : Nat), I (9 : Int))], st := [((0 : Nat), Obj.arr (4 : Nat) [Bk.row { num := (0 : Int), born := (0 : Int), tier := (0 : Int), eps := [] }, Bk.row { num := (1 : Int), born := (1 : Int), tier := (0 : Int), eps := [] }, Bk.row { num := (2 : Int), born := (2 : Int), tier := (0 : Int), eps := [] }, Bk.row { num := (3 : Int), born := (3 : Int), tier := (0 : Int), eps := [] }, Bk.row { num := (4 : Int), born := (4 : Int), tier := (0 : Int), eps := [] }, Bk.row { num := (5 : Int), born := (5 : Int), tier := (0 : Int), eps := [] }, Bk.row { num := (6 : Int), born := (6 : Int), tier := (0 : Int), eps := [] }, Bk.row { num := (7 : Int), born := (7 : Int), tier := (0 : Int), eps := [] }, Bk.row { num := (8 : Int), born := (8 : Int), tier := (0 : Int), eps := [] }])], ids := [(0 : Nat)] },
      LoopC Try.prog (0 : Nat) (123 : Nat) mmB { env := [((0 : Nat), I (9 : Int)), ((4 : Nat), V.own (0 : Nat)), ((6 : Nat), I (0 : Int)), ((7 : Nat), I (0 : Int))], st := [((0 : Nat), Obj.arr (4 : Nat) [Bk.row { num := (0 : Int), born := (0 : Int), tier := (0 : Int), eps := [] }, Bk.row { num := (1 : Int), born := (1 : Int), tier := (0 : Int), eps := [] }, Bk.row { num := (2 : Int), born := (2 : Int), tier := (0 : Int), eps := [] }, Bk.row { num := (3 : Int), born := (3 : Int), tier := (0 : Int), eps := [] }, Bk.row { num := (4 : Int), born := (4 : Int), tier := (0 : Int), eps := [] }, Bk.row { num := (5 : Int), born := (5 : Int), tier := (0 : Int), eps := [] }, Bk.row { num := (6 : Int), born := (6 : Int), tier := (0 : Int), eps := [] }, Bk.row { num := (7 : Int), born := (7 : Int), tier := (0 : Int), eps := [] }, Bk.row { num := (8 : Int), born := (8 : Int), tier := (0 : Int), eps := [] }])], ids := [(0 : Nat)] } (Ex.exit (2 : Nat)) { env := [((0 : Nat), I (9 : Int)), ((4 : Nat), V.own (0 : Nat)), ((6 : Nat), I (7 : Int)), ((7 : Nat), I (Int.ofNat i))], st := [((0 : Nat), Obj.arr (4 : Nat) (List.map Bk.row l))], ids := [(0 : Nat)] },
      Int.ofNat (List.length (List.map Bk.row l)) = (2 : Int)] (by kernel_rfl)
    (by
      simp only [allP]
      and_intros <;> first
        | exact cAlive
        | exact h1
        | exact h2
        | (simp [hl]; done))

theorem me9 (l : List Bk) (i : Nat) (hl : l.length = 2) (h1 : LoopC Try.prog 0 123 mbB (mbS 9 [] 0) (.exit 0) (mbS 9 (bks 9) 9)) (h2 : LoopC Try.prog 0 123 mmB (mmS 9 (bks 9) 0 0) (.exit 2) (mmS 9 l 7 i)) : Contract Try.prog 5 [I 9] [] (Bo true) [] := by
  exact Contract.cast (by
    first
      | rfl) (by
    first
      | rfl) (me9_0 l i hl h1 h2 )

theorem me10_0 (l : List Bk) (i : Nat) (hl : l.length = 2) (h1 : LoopC Try.prog 0 123 mbB (mbS 10 [] 0) (.exit 0) (mbS 10 (bks 10) 10)) (h2 : LoopC Try.prog 0 123 mmB (mmS 10 (bks 10) 0 0) (.exit 2) (mmS 10 l 8 i)) : Contract Try.prog 5 [I 10] [] (Bo true) ([]) :=
  vcP hmix [.reg 1 [(0, [.call [] [] (Bo true) []], none)], .reg 4 [(0, [.idx 4], none)], .cut ⟨[0, 4, 5], [(801000, 0)], []⟩ (.exit 0) (mbS 10 (bks 10) 10), .cut ⟨[0, 4, 6, 7], [(0, 0)], []⟩ (.exit 2) (mmS 10 l 8 i), .unroll 7, .reg 27 [(1, [.be (I 2)], none)]] [] [
      Contract Try.prog (7 : Nat) [] [] (Bo true) [],
      LoopC Try.prog (0 : Nat) (123 : Nat) mbB { env := [((0 : Nat), I (10 : Int)), ((4 : Nat), V.own (0 : Nat)), ((5 : Nat), I (0 : Int))], st := [((0 : Nat), Obj.arr (4 : Nat) [])], ids := [(0 : Nat)] } (Ex.exit (0 : Nat)) { env := [((0 : Nat), I (10 : Int)), ((4 : Nat), V.own (0 : Nat)), ((5 : Nat), I (10 : Int))], st := [((0 : Nat), Obj.arr (4 : Nat) [Bk.row { num := (0 : Int), born := (0 : Int), tier := (0 : Int), eps := [] }, Bk.row { num := (1 : Int), born := (1 : Int), tier := (0 : Int), eps := [] }, Bk.row { num := (2 : Int), born := (2 : Int), tier := (0 : Int), eps := [] }, Bk.row { num := (3 : Int), born := (3 : Int), tier := (0 : Int), eps := [] }, Bk.row { num := (4 : Int), born := (4 : Int), tier := (0 : Int), eps := [] }, Bk.row { num := (5 : Int), born := (5 : Int), tier := (0 : Int), eps := [] }, Bk.row { num := (6 : Int), born := (6 : Int), tier := (0 : Int), eps := [] }, Bk.row { num := (7 : Int), born := (7 : Int), tier := (0 : Int), eps := [] }, Bk.row { num := (8 : Int), born := (8 : Int), tier := (0 : Int), eps := [] }, Bk.row { num := (9 : Int), born := (9 : Int), tier := (0 : Int), eps := [] }])], ids := [(0 : Nat)] },
      LoopC Try.prog (0 : Nat) (123 : Nat) mmB { env := [((0 : Nat), I (10 : Int)), ((4 : Nat), V.own (0 : Nat)), ((6 : Nat), I (0 : Int)), ((7 : Nat), I (0 : Int))], st := [((0 : Nat), Obj.arr (4 : Nat) [Bk.row { num := (0 : Int), born := (0 : Int), tier := (0 : Int), eps := [] }, Bk.row { num := (1 : Int), born := (1 : Int), tier := (0 : Int), eps := [] }, Bk.row { num := (2 : Int), born := (2 : Int), tier := (0 : Int), eps := [] }, Bk.row { num := (3 : Int), born := (3 : Int), tier := (0 : Int), eps := [] }, Bk.row { num := (4 : Int), born := (4 : Int), tier := (0 : Int), eps := [] }, Bk.row { num := (5 : Int), born := (5 : Int), tier := (0 : Int), eps := [] }, Bk.row { num := (6 : Int), born := (6 : Int), tier := (0 : Int), eps := [] }, Bk.row { num := (7 : Int), born := (7 : Int), tier := (0 : Int), eps := [] }, Bk.row { num := (8 : Int), born := (8 : Int), tier := (0 : Int), eps := [] }, Bk.row { num := (9 : Int), born := (9 : Int), tier := (0 : Int), eps := [] }])], ids := [(0 : Nat)] } (Ex.exit (2 : Nat)) { env := [((0 : Nat), I (10 : Int)), ((4 : Nat), V.own (0 : Nat)), ((6 : Nat), I (8 : Int)), ((7 : Nat), I (Int.ofNat i))], st := [((0 : Nat), Obj.arr (4 : Nat) (List.map Bk.row l))], ids := [(0 : Nat)] },
      Int.ofNat (List.length (List.map Bk.row l)) = (2 : Int)] (by kernel_rfl)
    (by
      simp only [allP]
      and_intros <;> first
        | exact cAlive
        | exact h1
        | exact h2
        | (simp [hl]; done))

theorem me10 (l : List Bk) (i : Nat) (hl : l.length = 2) (h1 : LoopC Try.prog 0 123 mbB (mbS 10 [] 0) (.exit 0) (mbS 10 (bks 10) 10)) (h2 : LoopC Try.prog 0 123 mmB (mmS 10 (bks 10) 0 0) (.exit 2) (mmS 10 l 8 i)) : Contract Try.prog 5 [I 10] [] (Bo true) [] := by
  exact Contract.cast (by
    first
      | rfl) (by
    first
      | rfl) (me10_0 l i hl h1 h2 )

theorem me11_0 (l : List Bk) (i : Nat) (hl : l.length = 3) (h1 : LoopC Try.prog 0 123 mbB (mbS 11 [] 0) (.exit 0) (mbS 11 (bks 11) 11)) (h2 : LoopC Try.prog 0 123 mmB (mmS 11 (bks 11) 0 0) (.exit 2) (mmS 11 l 8 i)) : Contract Try.prog 5 [I 11] [] (Bo true) ([]) :=
  vcP hmix [.reg 1 [(0, [.call [] [] (Bo true) []], none)], .reg 4 [(0, [.idx 4], none)], .cut ⟨[0, 4, 5], [(801000, 0)], []⟩ (.exit 0) (mbS 11 (bks 11) 11), .cut ⟨[0, 4, 6, 7], [(0, 0)], []⟩ (.exit 2) (mmS 11 l 8 i), .unroll 7, .reg 27 [(1, [.be (I 3)], none)]] [] [
      Contract Try.prog (7 : Nat) [] [] (Bo true) [],
      LoopC Try.prog (0 : Nat) (123 : Nat) mbB { env := [((0 : Nat), I (11 : Int)), ((4 : Nat), V.own (0 : Nat)), ((5 : Nat), I (0 : Int))], st := [((0 : Nat), Obj.arr (4 : Nat) [])], ids := [(0 : Nat)] } (Ex.exit (0 : Nat)) { env := [((0 : Nat), I (11 : Int)), ((4 : Nat), V.own (0 : Nat)), ((5 : Nat), I (11 : Int))], st := [((0 : Nat), Obj.arr (4 : Nat) [Bk.row { num := (0 : Int), born := (0 : Int), tier := (0 : Int), eps := [] }, Bk.row { num := (1 : Int), born := (1 : Int), tier := (0 : Int), eps := [] }, Bk.row { num := (2 : Int), born := (2 : Int), tier := (0 : Int), eps := [] }, Bk.row { num := (3 : Int), born := (3 : Int), tier := (0 : Int), eps := [] }, Bk.row { num := (4 : Int), born := (4 : Int), tier := (0 : Int), eps := [] }, Bk.row { num := (5 : Int), born := (5 : Int), tier := (0 : Int), eps := [] }, Bk.row { num := (6 : Int), born := (6 : Int), tier := (0 : Int), eps := [] }, Bk.row { num := (7 : Int), born := (7 : Int), tier := (0 : Int), eps := [] }, Bk.row { num := (8 : Int), born := (8 : Int), tier := (0 : Int), eps := [] }, Bk.row { num := (9 : Int), born := (9 : Int), tier := (0 : Int), eps := [] }, Bk.row { num := (10 : Int), born := (10 : Int), tier := (0 : Int), eps := [] }])], ids := [(0 : Nat)] },
      LoopC Try.prog (0 : Nat) (123 : Nat) mmB { env := [((0 : Nat), I (11 : Int)), ((4 : Nat), V.own (0 : Nat)), ((6 : Nat), I (0 : Int)), ((7 : Nat), I (0 : Int))], st := [((0 : Nat), Obj.arr (4 : Nat) [Bk.row { num := (0 : Int), born := (0 : Int), tier := (0 : Int), eps := [] }, Bk.row { num := (1 : Int), born := (1 : Int), tier := (0 : Int), eps := [] }, Bk.row { num := (2 : Int), born := (2 : Int), tier := (0 : Int), eps := [] }, Bk.row { num := (3 : Int), born := (3 : Int), tier := (0 : Int), eps := [] }, Bk.row { num := (4 : Int), born := (4 : Int), tier := (0 : Int), eps := [] }, Bk.row { num := (5 : Int), born := (5 : Int), tier := (0 : Int), eps := [] }, Bk.row { num := (6 : Int), born := (6 : Int), tier := (0 : Int), eps := [] }, Bk.row { num := (7 : Int), born := (7 : Int), tier := (0 : Int), eps := [] }, Bk.row { num := (8 : Int), born := (8 : Int), tier := (0 : Int), eps := [] }, Bk.row { num := (9 : Int), born := (9 : Int), tier := (0 : Int), eps := [] }, Bk.row { num := (10 : Int), born := (10 : Int), tier := (0 : Int), eps := [] }])], ids := [(0 : Nat)] } (Ex.exit (2 : Nat)) { env := [((0 : Nat), I (11 : Int)), ((4 : Nat), V.own (0 : Nat)), ((6 : Nat), I (8 : Int)), ((7 : Nat), I (Int.ofNat i))], st := [((0 : Nat), Obj.arr (4 : Nat) (List.map Bk.row l))], ids := [(0 : Nat)] },
      Int.ofNat (List.length (List.map Bk.row l)) = (3 : Int)] (by kernel_rfl)
    (by
      simp only [allP]
      and_intros <;> first
        | exact cAlive
        | exact h1
        | exact h2
        | (simp [hl]; done))

theorem me11 (l : List Bk) (i : Nat) (hl : l.length = 3) (h1 : LoopC Try.prog 0 123 mbB (mbS 11 [] 0) (.exit 0) (mbS 11 (bks 11) 11)) (h2 : LoopC Try.prog 0 123 mmB (mmS 11 (bks 11) 0 0) (.exit 2) (mmS 11 l 8 i)) : Contract Try.prog 5 [I 11] [] (Bo true) [] := by
  exact Contract.cast (by
    first
      | rfl) (by
    first
      | rfl) (me11_0 l i hl h1 h2 )

theorem me12_0 (l : List Bk) (i : Nat) (hl : l.length = 2) (h1 : LoopC Try.prog 0 123 mbB (mbS 12 [] 0) (.exit 0) (mbS 12 (bks 12) 12)) (h2 : LoopC Try.prog 0 123 mmB (mmS 12 (bks 12) 0 0) (.exit 2) (mmS 12 l 10 i)) : Contract Try.prog 5 [I 12] [] (Bo true) ([]) :=
  vcP hmix [.reg 1 [(0, [.call [] [] (Bo true) []], none)], .reg 4 [(0, [.idx 4], none)], .cut ⟨[0, 4, 5], [(801000, 0)], []⟩ (.exit 0) (mbS 12 (bks 12) 12), .cut ⟨[0, 4, 6, 7], [(0, 0)], []⟩ (.exit 2) (mmS 12 l 10 i), .unroll 7, .reg 27 [(1, [.be (I 2)], none)]] [] [
      Contract Try.prog (7 : Nat) [] [] (Bo true) [],
      LoopC Try.prog (0 : Nat) (123 : Nat) mbB { env := [((0 : Nat), I (12 : Int)), ((4 : Nat), V.own (0 : Nat)), ((5 : Nat), I (0 : Int))], st := [((0 : Nat), Obj.arr (4 : Nat) [])], ids := [(0 : Nat)] } (Ex.exit (0 : Nat)) { env := [((0 : Nat), I (12 : Int)), ((4 : Nat), V.own (0 : Nat)), ((5 : Nat), I (12 : Int))], st := [((0 : Nat), Obj.arr (4 : Nat) [Bk.row { num := (0 : Int), born := (0 : Int), tier := (0 : Int), eps := [] }, Bk.row { num := (1 : Int), born := (1 : Int), tier := (0 : Int), eps := [] }, Bk.row { num := (2 : Int), born := (2 : Int), tier := (0 : Int), eps := [] }, Bk.row { num := (3 : Int), born := (3 : Int), tier := (0 : Int), eps := [] }, Bk.row { num := (4 : Int), born := (4 : Int), tier := (0 : Int), eps := [] }, Bk.row { num := (5 : Int), born := (5 : Int), tier := (0 : Int), eps := [] }, Bk.row { num := (6 : Int), born := (6 : Int), tier := (0 : Int), eps := [] }, Bk.row { num := (7 : Int), born := (7 : Int), tier := (0 : Int), eps := [] }, Bk.row { num := (8 : Int), born := (8 : Int), tier := (0 : Int), eps := [] }, Bk.row { num := (9 : Int), born := (9 : Int), tier := (0 : Int), eps := [] }, Bk.row { num := (10 : Int), born := (10 : Int), tier := (0 : Int), eps := [] }, Bk.row { num := (11 : Int), born := (11 : Int), tier := (0 : Int), eps := [] }])], ids := [(0 : Nat)] },
      LoopC Try.prog (0 : Nat) (123 : Nat) mmB { env := [((0 : Nat), I (12 : Int)), ((4 : Nat), V.own (0 : Nat)), ((6 : Nat), I (0 : Int)), ((7 : Nat), I (0 : Int))], st := [((0 : Nat), Obj.arr (4 : Nat) [Bk.row { num := (0 : Int), born := (0 : Int), tier := (0 : Int), eps := [] }, Bk.row { num := (1 : Int), born := (1 : Int), tier := (0 : Int), eps := [] }, Bk.row { num := (2 : Int), born := (2 : Int), tier := (0 : Int), eps := [] }, Bk.row { num := (3 : Int), born := (3 : Int), tier := (0 : Int), eps := [] }, Bk.row { num := (4 : Int), born := (4 : Int), tier := (0 : Int), eps := [] }, Bk.row { num := (5 : Int), born := (5 : Int), tier := (0 : Int), eps := [] }, Bk.row { num := (6 : Int), born := (6 : Int), tier := (0 : Int), eps := [] }, Bk.row { num := (7 : Int), born := (7 : Int), tier := (0 : Int), eps := [] }, Bk.row { num := (8 : Int), born := (8 : Int), tier := (0 : Int), eps := [] }, Bk.row { num := (9 : Int), born := (9 : Int), tier := (0 : Int), eps := [] }, Bk.row { num := (10 : Int), born := (10 : Int), tier := (0 : Int), eps := [] }, Bk.row { num := (11 : Int), born := (11 : Int), tier := (0 : Int), eps := [] }])], ids := [(0 : Nat)] } (Ex.exit (2 : Nat)) { env := [((0 : Nat), I (12 : Int)), ((4 : Nat), V.own (0 : Nat)), ((6 : Nat), I (10 : Int)), ((7 : Nat), I (Int.ofNat i))], st := [((0 : Nat), Obj.arr (4 : Nat) (List.map Bk.row l))], ids := [(0 : Nat)] },
      Int.ofNat (List.length (List.map Bk.row l)) = (2 : Int)] (by kernel_rfl)
    (by
      simp only [allP]
      and_intros <;> first
        | exact cAlive
        | exact h1
        | exact h2
        | (simp [hl]; done))

theorem me12 (l : List Bk) (i : Nat) (hl : l.length = 2) (h1 : LoopC Try.prog 0 123 mbB (mbS 12 [] 0) (.exit 0) (mbS 12 (bks 12) 12)) (h2 : LoopC Try.prog 0 123 mmB (mmS 12 (bks 12) 0 0) (.exit 2) (mmS 12 l 10 i)) : Contract Try.prog 5 [I 12] [] (Bo true) [] := by
  exact Contract.cast (by
    first
      | rfl) (by
    first
      | rfl) (me12_0 l i hl h1 h2 )

theorem me13_0 (l : List Bk) (i : Nat) (hl : l.length = 3) (h1 : LoopC Try.prog 0 123 mbB (mbS 13 [] 0) (.exit 0) (mbS 13 (bks 13) 13)) (h2 : LoopC Try.prog 0 123 mmB (mmS 13 (bks 13) 0 0) (.exit 2) (mmS 13 l 10 i)) : Contract Try.prog 5 [I 13] [] (Bo true) ([]) :=
  vcP hmix [.reg 1 [(0, [.call [] [] (Bo true) []], none)], .reg 4 [(0, [.idx 4], none)], .cut ⟨[0, 4, 5], [(801000, 0)], []⟩ (.exit 0) (mbS 13 (bks 13) 13), .cut ⟨[0, 4, 6, 7], [(0, 0)], []⟩ (.exit 2) (mmS 13 l 10 i), .unroll 7, .reg 27 [(1, [.be (I 3)], none)]] [] [
      Contract Try.prog (7 : Nat) [] [] (Bo true) [],
      LoopC Try.prog (0 : Nat) (123 : Nat) mbB { env := [((0 : Nat), I (13 : Int)), ((4 : Nat), V.own (0 : Nat)), ((5 : Nat), I (0 : Int))], st := [((0 : Nat), Obj.arr (4 : Nat) [])], ids := [(0 : Nat)] } (Ex.exit (0 : Nat)) { env := [((0 : Nat), I (13 : Int)), ((4 : Nat), V.own (0 : Nat)), ((5 : Nat), I (13 : Int))], st := [((0 : Nat), Obj.arr (4 : Nat) [Bk.row { num := (0 : Int), born := (0 : Int), tier := (0 : Int), eps := [] }, Bk.row { num := (1 : Int), born := (1 : Int), tier := (0 : Int), eps := [] }, Bk.row { num := (2 : Int), born := (2 : Int), tier := (0 : Int), eps := [] }, Bk.row { num := (3 : Int), born := (3 : Int), tier := (0 : Int), eps := [] }, Bk.row { num := (4 : Int), born := (4 : Int), tier := (0 : Int), eps := [] }, Bk.row { num := (5 : Int), born := (5 : Int), tier := (0 : Int), eps := [] }, Bk.row { num := (6 : Int), born := (6 : Int), tier := (0 : Int), eps := [] }, Bk.row { num := (7 : Int), born := (7 : Int), tier := (0 : Int), eps := [] }, Bk.row { num := (8 : Int), born := (8 : Int), tier := (0 : Int), eps := [] }, Bk.row { num := (9 : Int), born := (9 : Int), tier := (0 : Int), eps := [] }, Bk.row { num := (10 : Int), born := (10 : Int), tier := (0 : Int), eps := [] }, Bk.row { num := (11 : Int), born := (11 : Int), tier := (0 : Int), eps := [] }, Bk.row { num := (12 : Int), born := (12 : Int), tier := (0 : Int), eps := [] }])], ids := [(0 : Nat)] },
      LoopC Try.prog (0 : Nat) (123 : Nat) mmB { env := [((0 : Nat), I (13 : Int)), ((4 : Nat), V.own (0 : Nat)), ((6 : Nat), I (0 : Int)), ((7 : Nat), I (0 : Int))], st := [((0 : Nat), Obj.arr (4 : Nat) [Bk.row { num := (0 : Int), born := (0 : Int), tier := (0 : Int), eps := [] }, Bk.row { num := (1 : Int), born := (1 : Int), tier := (0 : Int), eps := [] }, Bk.row { num := (2 : Int), born := (2 : Int), tier := (0 : Int), eps := [] }, Bk.row { num := (3 : Int), born := (3 : Int), tier := (0 : Int), eps := [] }, Bk.row { num := (4 : Int), born := (4 : Int), tier := (0 : Int), eps := [] }, Bk.row { num := (5 : Int), born := (5 : Int), tier := (0 : Int), eps := [] }, Bk.row { num := (6 : Int), born := (6 : Int), tier := (0 : Int), eps := [] }, Bk.row { num := (7 : Int), born := (7 : Int), tier := (0 : Int), eps := [] }, Bk.row { num := (8 : Int), born := (8 : Int), tier := (0 : Int), eps := [] }, Bk.row { num := (9 : Int), born := (9 : Int), tier := (0 : Int), eps := [] }, Bk.row { num := (10 : Int), born := (10 : Int), tier := (0 : Int), eps := [] }, Bk.row { num := (11 : Int), born := (11 : Int), tier := (0 : Int), eps := [] }, Bk.row { num := (12 : Int), born := (12 : Int), tier := (0 : Int), eps := [] }])], ids := [(0 : Nat)] } (Ex.exit (2 : Nat)) { env := [((0 : Nat), I (13 : Int)), ((4 : Nat), V.own (0 : Nat)), ((6 : Nat), I (10 : Int)), ((7 : Nat), I (Int.ofNat i))], st := [((0 : Nat), Obj.arr (4 : Nat) (List.map Bk.row l))], ids := [(0 : Nat)] },
      Int.ofNat (List.length (List.map Bk.row l)) = (3 : Int)] (by kernel_rfl)
    (by
      simp only [allP]
      and_intros <;> first
        | exact cAlive
        | exact h1
        | exact h2
        | (simp [hl]; done))

theorem me13 (l : List Bk) (i : Nat) (hl : l.length = 3) (h1 : LoopC Try.prog 0 123 mbB (mbS 13 [] 0) (.exit 0) (mbS 13 (bks 13) 13)) (h2 : LoopC Try.prog 0 123 mmB (mmS 13 (bks 13) 0 0) (.exit 2) (mmS 13 l 10 i)) : Contract Try.prog 5 [I 13] [] (Bo true) [] := by
  exact Contract.cast (by
    first
      | rfl) (by
    first
      | rfl) (me13_0 l i hl h1 h2 )

theorem me14_0 (l : List Bk) (i : Nat) (hl : l.length = 3) (h1 : LoopC Try.prog 0 123 mbB (mbS 14 [] 0) (.exit 0) (mbS 14 (bks 14) 14)) (h2 : LoopC Try.prog 0 123 mmB (mmS 14 (bks 14) 0 0) (.exit 2) (mmS 14 l 11 i)) : Contract Try.prog 5 [I 14] [] (Bo true) ([]) :=
  vcP hmix [.reg 1 [(0, [.call [] [] (Bo true) []], none)], .reg 4 [(0, [.idx 4], none)], .cut ⟨[0, 4, 5], [(801000, 0)], []⟩ (.exit 0) (mbS 14 (bks 14) 14), .cut ⟨[0, 4, 6, 7], [(0, 0)], []⟩ (.exit 2) (mmS 14 l 11 i), .unroll 7, .reg 27 [(1, [.be (I 3)], none)]] [] [
      Contract Try.prog (7 : Nat) [] [] (Bo true) [],
      LoopC Try.prog (0 : Nat) (123 : Nat) mbB { env := [((0 : Nat), I (14 : Int)), ((4 : Nat), V.own (0 : Nat)), ((5 : Nat), I (0 : Int))], st := [((0 : Nat), Obj.arr (4 : Nat) [])], ids := [(0 : Nat)] } (Ex.exit (0 : Nat)) { env := [((0 : Nat), I (14 : Int)), ((4 : Nat), V.own (0 : Nat)), ((5 : Nat), I (14 : Int))], st := [((0 : Nat), Obj.arr (4 : Nat) [Bk.row { num := (0 : Int), born := (0 : Int), tier := (0 : Int), eps := [] }, Bk.row { num := (1 : Int), born := (1 : Int), tier := (0 : Int), eps := [] }, Bk.row { num := (2 : Int), born := (2 : Int), tier := (0 : Int), eps := [] }, Bk.row { num := (3 : Int), born := (3 : Int), tier := (0 : Int), eps := [] }, Bk.row { num := (4 : Int), born := (4 : Int), tier := (0 : Int), eps := [] }, Bk.row { num := (5 : Int), born := (5 : Int), tier := (0 : Int), eps := [] }, Bk.row { num := (6 : Int), born := (6 : Int), tier := (0 : Int), eps := [] }, Bk.row { num := (7 : Int), born := (7 : Int), tier := (0 : Int), eps := [] }, Bk.row { num := (8 : Int), born := (8 : Int), tier := (0 : Int), eps := [] }, Bk.row { num := (9 : Int), born := (9 : Int), tier := (0 : Int), eps := [] }, Bk.row { num := (10 : Int), born := (10 : Int), tier := (0 : Int), eps := [] }, Bk.row { num := (11 : Int), born := (11 : Int), tier := (0 : Int), eps := [] }, Bk.row { num := (12 : Int), born := (12 : Int), tier := (0 : Int), eps := [] }, Bk.row { num := (13 : Int), born := (13 : Int), tier := (0 : Int), eps := [] }])], ids := [(0 : Nat)] },
      LoopC Try.prog (0 : Nat) (123 : Nat) mmB { env := [((0 : Nat), I (14 : Int)), ((4 : Nat), V.own (0 : Nat)), ((6 : Nat), I (0 : Int)), ((7 : Nat), I (0 : Int))], st := [((0 : Nat), Obj.arr (4 : Nat) [Bk.row { num := (0 : Int), born := (0 : Int), tier := (0 : Int), eps := [] }, Bk.row { num := (1 : Int), born := (1 : Int), tier := (0 : Int), eps := [] }, Bk.row { num := (2 : Int), born := (2 : Int), tier := (0 : Int), eps := [] }, Bk.row { num := (3 : Int), born := (3 : Int), tier := (0 : Int), eps := [] }, Bk.row { num := (4 : Int), born := (4 : Int), tier := (0 : Int), eps := [] }, Bk.row { num := (5 : Int), born := (5 : Int), tier := (0 : Int), eps := [] }, Bk.row { num := (6 : Int), born := (6 : Int), tier := (0 : Int), eps := [] }, Bk.row { num := (7 : Int), born := (7 : Int), tier := (0 : Int), eps := [] }, Bk.row { num := (8 : Int), born := (8 : Int), tier := (0 : Int), eps := [] }, Bk.row { num := (9 : Int), born := (9 : Int), tier := (0 : Int), eps := [] }, Bk.row { num := (10 : Int), born := (10 : Int), tier := (0 : Int), eps := [] }, Bk.row { num := (11 : Int), born := (11 : Int), tier := (0 : Int), eps := [] }, Bk.row { num := (12 : Int), born := (12 : Int), tier := (0 : Int), eps := [] }, Bk.row { num := (13 : Int), born := (13 : Int), tier := (0 : Int), eps := [] }])], ids := [(0 : Nat)] } (Ex.exit (2 : Nat)) { env := [((0 : Nat), I (14 : Int)), ((4 : Nat), V.own (0 : Nat)), ((6 : Nat), I (11 : Int)), ((7 : Nat), I (Int.ofNat i))], st := [((0 : Nat), Obj.arr (4 : Nat) (List.map Bk.row l))], ids := [(0 : Nat)] },
      Int.ofNat (List.length (List.map Bk.row l)) = (3 : Int)] (by kernel_rfl)
    (by
      simp only [allP]
      and_intros <;> first
        | exact cAlive
        | exact h1
        | exact h2
        | (simp [hl]; done))

theorem me14 (l : List Bk) (i : Nat) (hl : l.length = 3) (h1 : LoopC Try.prog 0 123 mbB (mbS 14 [] 0) (.exit 0) (mbS 14 (bks 14) 14)) (h2 : LoopC Try.prog 0 123 mmB (mmS 14 (bks 14) 0 0) (.exit 2) (mmS 14 l 11 i)) : Contract Try.prog 5 [I 14] [] (Bo true) [] := by
  exact Contract.cast (by
    first
      | rfl) (by
    first
      | rfl) (me14_0 l i hl h1 h2 )

theorem me15_0 (l : List Bk) (i : Nat) (hl : l.length = 4) (h1 : LoopC Try.prog 0 123 mbB (mbS 15 [] 0) (.exit 0) (mbS 15 (bks 15) 15)) (h2 : LoopC Try.prog 0 123 mmB (mmS 15 (bks 15) 0 0) (.exit 2) (mmS 15 l 11 i)) : Contract Try.prog 5 [I 15] [] (Bo true) ([]) :=
  vcP hmix [.reg 1 [(0, [.call [] [] (Bo true) []], none)], .reg 4 [(0, [.idx 4], none)], .cut ⟨[0, 4, 5], [(801000, 0)], []⟩ (.exit 0) (mbS 15 (bks 15) 15), .cut ⟨[0, 4, 6, 7], [(0, 0)], []⟩ (.exit 2) (mmS 15 l 11 i), .unroll 7, .reg 27 [(1, [.be (I 4)], none)]] [] [
      Contract Try.prog (7 : Nat) [] [] (Bo true) [],
      LoopC Try.prog (0 : Nat) (123 : Nat) mbB { env := [((0 : Nat), I (15 : Int)), ((4 : Nat), V.own (0 : Nat)), ((5 : Nat), I (0 : Int))], st := [((0 : Nat), Obj.arr (4 : Nat) [])], ids := [(0 : Nat)] } (Ex.exit (0 : Nat)) { env := [((0 : Nat), I (15 : Int)), ((4 : Nat), V.own (0 : Nat)), ((5 : Nat), I (15 : Int))], st := [((0 : Nat), Obj.arr (4 : Nat) [Bk.row { num := (0 : Int), born := (0 : Int), tier := (0 : Int), eps := [] }, Bk.row { num := (1 : Int), born := (1 : Int), tier := (0 : Int), eps := [] }, Bk.row { num := (2 : Int), born := (2 : Int), tier := (0 : Int), eps := [] }, Bk.row { num := (3 : Int), born := (3 : Int), tier := (0 : Int), eps := [] }, Bk.row { num := (4 : Int), born := (4 : Int), tier := (0 : Int), eps := [] }, Bk.row { num := (5 : Int), born := (5 : Int), tier := (0 : Int), eps := [] }, Bk.row { num := (6 : Int), born := (6 : Int), tier := (0 : Int), eps := [] }, Bk.row { num := (7 : Int), born := (7 : Int), tier := (0 : Int), eps := [] }, Bk.row { num := (8 : Int), born := (8 : Int), tier := (0 : Int), eps := [] }, Bk.row { num := (9 : Int), born := (9 : Int), tier := (0 : Int), eps := [] }, Bk.row { num := (10 : Int), born := (10 : Int), tier := (0 : Int), eps := [] }, Bk.row { num := (11 : Int), born := (11 : Int), tier := (0 : Int), eps := [] }, Bk.row { num := (12 : Int), born := (12 : Int), tier := (0 : Int), eps := [] }, Bk.row { num := (13 : Int), born := (13 : Int), tier := (0 : Int), eps := [] }, Bk.row { num := (14 : Int), born := (14 : Int), tier := (0 : Int), eps := [] }])], ids := [(0 : Nat)] },
      LoopC Try.prog (0 : Nat) (123 : Nat) mmB { env := [((0 : Nat), I (15 : Int)), ((4 : Nat), V.own (0 : Nat)), ((6 : Nat), I (0 : Int)), ((7 : Nat), I (0 : Int))], st := [((0 : Nat), Obj.arr (4 : Nat) [Bk.row { num := (0 : Int), born := (0 : Int), tier := (0 : Int), eps := [] }, Bk.row { num := (1 : Int), born := (1 : Int), tier := (0 : Int), eps := [] }, Bk.row { num := (2 : Int), born := (2 : Int), tier := (0 : Int), eps := [] }, Bk.row { num := (3 : Int), born := (3 : Int), tier := (0 : Int), eps := [] }, Bk.row { num := (4 : Int), born := (4 : Int), tier := (0 : Int), eps := [] }, Bk.row { num := (5 : Int), born := (5 : Int), tier := (0 : Int), eps := [] }, Bk.row { num := (6 : Int), born := (6 : Int), tier := (0 : Int), eps := [] }, Bk.row { num := (7 : Int), born := (7 : Int), tier := (0 : Int), eps := [] }, Bk.row { num := (8 : Int), born := (8 : Int), tier := (0 : Int), eps := [] }, Bk.row { num := (9 : Int), born := (9 : Int), tier := (0 : Int), eps := [] }, Bk.row { num := (10 : Int), born := (10 : Int), tier := (0 : Int), eps := [] }, Bk.row { num := (11 : Int), born := (11 : Int), tier := (0 : Int), eps := [] }, Bk.row { num := (12 : Int), born := (12 : Int), tier := (0 : Int), eps := [] }, Bk.row { num := (13 : Int), born := (13 : Int), tier := (0 : Int), eps := [] }, Bk.row { num := (14 : Int), born := (14 : Int), tier := (0 : Int), eps := [] }])], ids := [(0 : Nat)] } (Ex.exit (2 : Nat)) { env := [((0 : Nat), I (15 : Int)), ((4 : Nat), V.own (0 : Nat)), ((6 : Nat), I (11 : Int)), ((7 : Nat), I (Int.ofNat i))], st := [((0 : Nat), Obj.arr (4 : Nat) (List.map Bk.row l))], ids := [(0 : Nat)] },
      Int.ofNat (List.length (List.map Bk.row l)) = (4 : Int)] (by kernel_rfl)
    (by
      simp only [allP]
      and_intros <;> first
        | exact cAlive
        | exact h1
        | exact h2
        | (simp [hl]; done))

theorem me15 (l : List Bk) (i : Nat) (hl : l.length = 4) (h1 : LoopC Try.prog 0 123 mbB (mbS 15 [] 0) (.exit 0) (mbS 15 (bks 15) 15)) (h2 : LoopC Try.prog 0 123 mmB (mmS 15 (bks 15) 0 0) (.exit 2) (mmS 15 l 11 i)) : Contract Try.prog 5 [I 15] [] (Bo true) [] := by
  exact Contract.cast (by
    first
      | rfl) (by
    first
      | rfl) (me15_0 l i hl h1 h2 )

theorem me16_0 (l : List Bk) (i : Nat) (hl : l.length = 1) (h1 : LoopC Try.prog 0 123 mbB (mbS 16 [] 0) (.exit 0) (mbS 16 (bks 16) 16)) (h2 : LoopC Try.prog 0 123 mmB (mmS 16 (bks 16) 0 0) (.exit 2) (mmS 16 l 15 i)) : Contract Try.prog 5 [I 16] [] (Bo true) ([]) :=
  vcP hmix [.reg 1 [(0, [.call [] [] (Bo true) []], none)], .reg 4 [(0, [.idx 4], none)], .cut ⟨[0, 4, 5], [(801000, 0)], []⟩ (.exit 0) (mbS 16 (bks 16) 16), .cut ⟨[0, 4, 6, 7], [(0, 0)], []⟩ (.exit 2) (mmS 16 l 15 i), .unroll 7, .reg 27 [(1, [.be (I 1)], none)]] [] [
      Contract Try.prog (7 : Nat) [] [] (Bo true) [],
      LoopC Try.prog (0 : Nat) (123 : Nat) mbB { env := [((0 : Nat), I (16 : Int)), ((4 : Nat), V.own (0 : Nat)), ((5 : Nat), I (0 : Int))], st := [((0 : Nat), Obj.arr (4 : Nat) [])], ids := [(0 : Nat)] } (Ex.exit (0 : Nat)) { env := [((0 : Nat), I (16 : Int)), ((4 : Nat), V.own (0 : Nat)), ((5 : Nat), I (16 : Int))], st := [((0 : Nat), Obj.arr (4 : Nat) [Bk.row { num := (0 : Int), born := (0 : Int), tier := (0 : Int), eps := [] }, Bk.row { num := (1 : Int), born := (1 : Int), tier := (0 : Int), eps := [] }, Bk.row { num := (2 : Int), born := (2 : Int), tier := (0 : Int), eps := [] }, Bk.row { num := (3 : Int), born := (3 : Int), tier := (0 : Int), eps := [] }, Bk.row { num := (4 : Int), born := (4 : Int), tier := (0 : Int), eps := [] }, Bk.row { num := (5 : Int), born := (5 : Int), tier := (0 : Int), eps := [] }, Bk.row { num := (6 : Int), born := (6 : Int), tier := (0 : Int), eps := [] }, Bk.row { num := (7 : Int), born := (7 : Int), tier := (0 : Int), eps := [] }, Bk.row { num := (8 : Int), born := (8 : Int), tier := (0 : Int), eps := [] }, Bk.row { num := (9 : Int), born := (9 : Int), tier := (0 : Int), eps := [] }, Bk.row { num := (10 : Int), born := (10 : Int), tier := (0 : Int), eps := [] }, Bk.row { num := (11 : Int), born := (11 : Int), tier := (0 : Int), eps := [] }, Bk.row { num := (12 : Int), born := (12 : Int), tier := (0 : Int), eps := [] }, Bk.row { num := (13 : Int), born := (13 : Int), tier := (0 : Int), eps := [] }, Bk.row { num := (14 : Int), born := (14 : Int), tier := (0 : Int), eps := [] }, Bk.row { num := (15 : Int), born := (15 : Int), tier := (0 : Int), eps := [] }])], ids := [(0 : Nat)] },
      LoopC Try.prog (0 : Nat) (123 : Nat) mmB { env := [((0 : Nat), I (16 : Int)), ((4 : Nat), V.own (0 : Nat)), ((6 : Nat), I (0 : Int)), ((7 : Nat), I (0 : Int))], st := [((0 : Nat), Obj.arr (4 : Nat) [Bk.row { num := (0 : Int), born := (0 : Int), tier := (0 : Int), eps := [] }, Bk.row { num := (1 : Int), born := (1 : Int), tier := (0 : Int), eps := [] }, Bk.row { num := (2 : Int), born := (2 : Int), tier := (0 : Int), eps := [] }, Bk.row { num := (3 : Int), born := (3 : Int), tier := (0 : Int), eps := [] }, Bk.row { num := (4 : Int), born := (4 : Int), tier := (0 : Int), eps := [] }, Bk.row { num := (5 : Int), born := (5 : Int), tier := (0 : Int), eps := [] }, Bk.row { num := (6 : Int), born := (6 : Int), tier := (0 : Int), eps := [] }, Bk.row { num := (7 : Int), born := (7 : Int), tier := (0 : Int), eps := [] }, Bk.row { num := (8 : Int), born := (8 : Int), tier := (0 : Int), eps := [] }, Bk.row { num := (9 : Int), born := (9 : Int), tier := (0 : Int), eps := [] }, Bk.row { num := (10 : Int), born := (10 : Int), tier := (0 : Int), eps := [] }, Bk.row { num := (11 : Int), born := (11 : Int), tier := (0 : Int), eps := [] }, Bk.row { num := (12 : Int), born := (12 : Int), tier := (0 : Int), eps := [] }, Bk.row { num := (13 : Int), born := (13 : Int), tier := (0 : Int), eps := [] }, Bk.row { num := (14 : Int), born := (14 : Int), tier := (0 : Int), eps := [] }, Bk.row { num := (15 : Int), born := (15 : Int), tier := (0 : Int), eps := [] }])], ids := [(0 : Nat)] } (Ex.exit (2 : Nat)) { env := [((0 : Nat), I (16 : Int)), ((4 : Nat), V.own (0 : Nat)), ((6 : Nat), I (15 : Int)), ((7 : Nat), I (Int.ofNat i))], st := [((0 : Nat), Obj.arr (4 : Nat) (List.map Bk.row l))], ids := [(0 : Nat)] },
      Int.ofNat (List.length (List.map Bk.row l)) = (1 : Int)] (by kernel_rfl)
    (by
      simp only [allP]
      and_intros <;> first
        | exact cAlive
        | exact h1
        | exact h2
        | (simp [hl]; done))

theorem me16 (l : List Bk) (i : Nat) (hl : l.length = 1) (h1 : LoopC Try.prog 0 123 mbB (mbS 16 [] 0) (.exit 0) (mbS 16 (bks 16) 16)) (h2 : LoopC Try.prog 0 123 mmB (mmS 16 (bks 16) 0 0) (.exit 2) (mmS 16 l 15 i)) : Contract Try.prog 5 [I 16] [] (Bo true) [] := by
  exact Contract.cast (by
    first
      | rfl) (by
    first
      | rfl) (me16_0 l i hl h1 h2 )

theorem me17_0 (l : List Bk) (i : Nat) (hl : l.length = 2) (h1 : LoopC Try.prog 0 123 mbB (mbS 17 [] 0) (.exit 0) (mbS 17 (bks 17) 17)) (h2 : LoopC Try.prog 0 123 mmB (mmS 17 (bks 17) 0 0) (.exit 2) (mmS 17 l 15 i)) : Contract Try.prog 5 [I 17] [] (Bo true) ([]) :=
  vcP hmix [.reg 1 [(0, [.call [] [] (Bo true) []], none)], .reg 4 [(0, [.idx 4], none)], .cut ⟨[0, 4, 5], [(801000, 0)], []⟩ (.exit 0) (mbS 17 (bks 17) 17), .cut ⟨[0, 4, 6, 7], [(0, 0)], []⟩ (.exit 2) (mmS 17 l 15 i), .unroll 7, .reg 27 [(1, [.be (I 2)], none)]] [] [
      Contract Try.prog (7 : Nat) [] [] (Bo true) [],
      LoopC Try.prog (0 : Nat) (123 : Nat) mbB { env := [((0 : Nat), I (17 : Int)), ((4 : Nat), V.own (0 : Nat)), ((5 : Nat), I (0 : Int))], st := [((0 : Nat), Obj.arr (4 : Nat) [])], ids := [(0 : Nat)] } (Ex.exit (0 : Nat)) { env := [((0 : Nat), I (17 : Int)), ((4 : Nat), V.own (0 : Nat)), ((5 : Nat), I (17 : Int))], st := [((0 : Nat), Obj.arr (4 : Nat) [Bk.row { num := (0 : Int), born := (0 : Int), tier := (0 : Int), eps := [] }, Bk.row { num := (1 : Int), born := (1 : Int), tier := (0 : Int), eps := [] }, Bk.row { num := (2 : Int), born := (2 : Int), tier := (0 : Int), eps := [] }, Bk.row { num := (3 : Int), born := (3 : Int), tier := (0 : Int), eps := [] }, Bk.row { num := (4 : Int), born := (4 : Int), tier := (0 : Int), eps := [] }, Bk.row { num := (5 : Int), born := (5 : Int), tier := (0 : Int), eps := [] }, Bk.row { num := (6 : Int), born := (6 : Int), tier := (0 : Int), eps := [] }, Bk.row { num := (7 : Int), born := (7 : Int), tier := (0 : Int), eps := [] }, Bk.row { num := (8 : Int), born := (8 : Int), tier := (0 : Int), eps := [] }, Bk.row { num := (9 : Int), born := (9 : Int), tier := (0 : Int), eps := [] }, Bk.row { num := (10 : Int), born := (10 : Int), tier := (0 : Int), eps := [] }, Bk.row { num := (11 : Int), born := (11 : Int), tier := (0 : Int), eps := [] }, Bk.row { num := (12 : Int), born := (12 : Int), tier := (0 : Int), eps := [] }, Bk.row { num := (13 : Int), born := (13 : Int), tier := (0 : Int), eps := [] }, Bk.row { num := (14 : Int), born := (14 : Int), tier := (0 : Int), eps := [] }, Bk.row { num := (15 : Int), born := (15 : Int), tier := (0 : Int), eps := [] }, Bk.row { num := (16 : Int), born := (16 : Int), tier := (0 : Int), eps := [] }])], ids := [(0 : Nat)] },
      LoopC Try.prog (0 : Nat) (123 : Nat) mmB { env := [((0 : Nat), I (17 : Int)), ((4 : Nat), V.own (0 : Nat)), ((6 : Nat), I (0 : Int)), ((7 : Nat), I (0 : Int))], st := [((0 : Nat), Obj.arr (4 : Nat) [Bk.row { num := (0 : Int), born := (0 : Int), tier := (0 : Int), eps := [] }, Bk.row { num := (1 : Int), born := (1 : Int), tier := (0 : Int), eps := [] }, Bk.row { num := (2 : Int), born := (2 : Int), tier := (0 : Int), eps := [] }, Bk.row { num := (3 : Int), born := (3 : Int), tier := (0 : Int), eps := [] }, Bk.row { num := (4 : Int), born := (4 : Int), tier := (0 : Int), eps := [] }, Bk.row { num := (5 : Int), born := (5 : Int), tier := (0 : Int), eps := [] }, Bk.row { num := (6 : Int), born := (6 : Int), tier := (0 : Int), eps := [] }, Bk.row { num := (7 : Int), born := (7 : Int), tier := (0 : Int), eps := [] }, Bk.row { num := (8 : Int), born := (8 : Int), tier := (0 : Int), eps := [] }, Bk.row { num := (9 : Int), born := (9 : Int), tier := (0 : Int), eps := [] }, Bk.row { num := (10 : Int), born := (10 : Int), tier := (0 : Int), eps := [] }, Bk.row { num := (11 : Int), born := (11 : Int), tier := (0 : Int), eps := [] }, Bk.row { num := (12 : Int), born := (12 : Int), tier := (0 : Int), eps := [] }, Bk.row { num := (13 : Int), born := (13 : Int), tier := (0 : Int), eps := [] }, Bk.row { num := (14 : Int), born := (14 : Int), tier := (0 : Int), eps := [] }, Bk.row { num := (15 : Int), born := (15 : Int), tier := (0 : Int), eps := [] }, Bk.row { num := (16 : Int), born := (16 : Int), tier := (0 : Int), eps := [] }])], ids := [(0 : Nat)] } (Ex.exit (2 : Nat)) { env := [((0 : Nat), I (17 : Int)), ((4 : Nat), V.own (0 : Nat)), ((6 : Nat), I (15 : Int)), ((7 : Nat), I (Int.ofNat i))], st := [((0 : Nat), Obj.arr (4 : Nat) (List.map Bk.row l))], ids := [(0 : Nat)] },
      Int.ofNat (List.length (List.map Bk.row l)) = (2 : Int)] (by kernel_rfl)
    (by
      simp only [allP]
      and_intros <;> first
        | exact cAlive
        | exact h1
        | exact h2
        | (simp [hl]; done))

theorem me17 (l : List Bk) (i : Nat) (hl : l.length = 2) (h1 : LoopC Try.prog 0 123 mbB (mbS 17 [] 0) (.exit 0) (mbS 17 (bks 17) 17)) (h2 : LoopC Try.prog 0 123 mmB (mmS 17 (bks 17) 0 0) (.exit 2) (mmS 17 l 15 i)) : Contract Try.prog 5 [I 17] [] (Bo true) [] := by
  exact Contract.cast (by
    first
      | rfl) (by
    first
      | rfl) (me17_0 l i hl h1 h2 )

theorem me18_0 (l : List Bk) (i : Nat) (hl : l.length = 2) (h1 : LoopC Try.prog 0 123 mbB (mbS 18 [] 0) (.exit 0) (mbS 18 (bks 18) 18)) (h2 : LoopC Try.prog 0 123 mmB (mmS 18 (bks 18) 0 0) (.exit 2) (mmS 18 l 16 i)) : Contract Try.prog 5 [I 18] [] (Bo true) ([]) :=
  vcP hmix [.reg 1 [(0, [.call [] [] (Bo true) []], none)], .reg 4 [(0, [.idx 4], none)], .cut ⟨[0, 4, 5], [(801000, 0)], []⟩ (.exit 0) (mbS 18 (bks 18) 18), .cut ⟨[0, 4, 6, 7], [(0, 0)], []⟩ (.exit 2) (mmS 18 l 16 i), .unroll 7, .reg 27 [(1, [.be (I 2)], none)]] [] [
      Contract Try.prog (7 : Nat) [] [] (Bo true) [],
      LoopC Try.prog (0 : Nat) (123 : Nat) mbB { env := [((0 : Nat), I (18 : Int)), ((4 : Nat), V.own (0 : Nat)), ((5 : Nat), I (0 : Int))], st := [((0 : Nat), Obj.arr (4 : Nat) [])], ids := [(0 : Nat)] } (Ex.exit (0 : Nat)) { env := [((0 : Nat), I (18 : Int)), ((4 : Nat), V.own (0 : Nat)), ((5 : Nat), I (18 : Int))], st := [((0 : Nat), Obj.arr (4 : Nat) [Bk.row { num := (0 : Int), born := (0 : Int), tier := (0 : Int), eps := [] }, Bk.row { num := (1 : Int), born := (1 : Int), tier := (0 : Int), eps := [] }, Bk.row { num := (2 : Int), born := (2 : Int), tier := (0 : Int), eps := [] }, Bk.row { num := (3 : Int), born := (3 : Int), tier := (0 : Int), eps := [] }, Bk.row { num := (4 : Int), born := (4 : Int), tier := (0 : Int), eps := [] }, Bk.row { num := (5 : Int), born := (5 : Int), tier := (0 : Int), eps := [] }, Bk.row { num := (6 : Int), born := (6 : Int), tier := (0 : Int), eps := [] }, Bk.row { num := (7 : Int), born := (7 : Int), tier := (0 : Int), eps := [] }, Bk.row { num := (8 : Int), born := (8 : Int), tier := (0 : Int), eps := [] }, Bk.row { num := (9 : Int), born := (9 : Int), tier := (0 : Int), eps := [] }, Bk.row { num := (10 : Int), born := (10 : Int), tier := (0 : Int), eps := [] }, Bk.row { num := (11 : Int), born := (11 : Int), tier := (0 : Int), eps := [] }, Bk.row { num := (12 : Int), born := (12 : Int), tier := (0 : Int), eps := [] }, Bk.row { num := (13 : Int), born := (13 : Int), tier := (0 : Int), eps := [] }, Bk.row { num := (14 : Int), born := (14 : Int), tier := (0 : Int), eps := [] }, Bk.row { num := (15 : Int), born := (15 : Int), tier := (0 : Int), eps := [] }, Bk.row { num := (16 : Int), born := (16 : Int), tier := (0 : Int), eps := [] }, Bk.row { num := (17 : Int), born := (17 : Int), tier := (0 : Int), eps := [] }])], ids := [(0 : Nat)] },
      LoopC Try.prog (0 : Nat) (123 : Nat) mmB { env := [((0 : Nat), I (18 : Int)), ((4 : Nat), V.own (0 : Nat)), ((6 : Nat), I (0 : Int)), ((7 : Nat), I (0 : Int))], st := [((0 : Nat), Obj.arr (4 : Nat) [Bk.row { num := (0 : Int), born := (0 : Int), tier := (0 : Int), eps := [] }, Bk.row { num := (1 : Int), born := (1 : Int), tier := (0 : Int), eps := [] }, Bk.row { num := (2 : Int), born := (2 : Int), tier := (0 : Int), eps := [] }, Bk.row { num := (3 : Int), born := (3 : Int), tier := (0 : Int), eps := [] }, Bk.row { num := (4 : Int), born := (4 : Int), tier := (0 : Int), eps := [] }, Bk.row { num := (5 : Int), born := (5 : Int), tier := (0 : Int), eps := [] }, Bk.row { num := (6 : Int), born := (6 : Int), tier := (0 : Int), eps := [] }, Bk.row { num := (7 : Int), born := (7 : Int), tier := (0 : Int), eps := [] }, Bk.row { num := (8 : Int), born := (8 : Int), tier := (0 : Int), eps := [] }, Bk.row { num := (9 : Int), born := (9 : Int), tier := (0 : Int), eps := [] }, Bk.row { num := (10 : Int), born := (10 : Int), tier := (0 : Int), eps := [] }, Bk.row { num := (11 : Int), born := (11 : Int), tier := (0 : Int), eps := [] }, Bk.row { num := (12 : Int), born := (12 : Int), tier := (0 : Int), eps := [] }, Bk.row { num := (13 : Int), born := (13 : Int), tier := (0 : Int), eps := [] }, Bk.row { num := (14 : Int), born := (14 : Int), tier := (0 : Int), eps := [] }, Bk.row { num := (15 : Int), born := (15 : Int), tier := (0 : Int), eps := [] }, Bk.row { num := (16 : Int), born := (16 : Int), tier := (0 : Int), eps := [] }, Bk.row { num := (17 : Int), born := (17 : Int), tier := (0 : Int), eps := [] }])], ids := [(0 : Nat)] } (Ex.exit (2 : Nat)) { env := [((0 : Nat), I (18 : Int)), ((4 : Nat), V.own (0 : Nat)), ((6 : Nat), I (16 : Int)), ((7 : Nat), I (Int.ofNat i))], st := [((0 : Nat), Obj.arr (4 : Nat) (List.map Bk.row l))], ids := [(0 : Nat)] },
      Int.ofNat (List.length (List.map Bk.row l)) = (2 : Int)] (by kernel_rfl)
    (by
      simp only [allP]
      and_intros <;> first
        | exact cAlive
        | exact h1
        | exact h2
        | (simp [hl]; done))

theorem me18 (l : List Bk) (i : Nat) (hl : l.length = 2) (h1 : LoopC Try.prog 0 123 mbB (mbS 18 [] 0) (.exit 0) (mbS 18 (bks 18) 18)) (h2 : LoopC Try.prog 0 123 mmB (mmS 18 (bks 18) 0 0) (.exit 2) (mmS 18 l 16 i)) : Contract Try.prog 5 [I 18] [] (Bo true) [] := by
  exact Contract.cast (by
    first
      | rfl) (by
    first
      | rfl) (me18_0 l i hl h1 h2 )

theorem me19_0 (l : List Bk) (i : Nat) (hl : l.length = 3) (h1 : LoopC Try.prog 0 123 mbB (mbS 19 [] 0) (.exit 0) (mbS 19 (bks 19) 19)) (h2 : LoopC Try.prog 0 123 mmB (mmS 19 (bks 19) 0 0) (.exit 2) (mmS 19 l 16 i)) : Contract Try.prog 5 [I 19] [] (Bo true) ([]) :=
  vcP hmix [.reg 1 [(0, [.call [] [] (Bo true) []], none)], .reg 4 [(0, [.idx 4], none)], .cut ⟨[0, 4, 5], [(801000, 0)], []⟩ (.exit 0) (mbS 19 (bks 19) 19), .cut ⟨[0, 4, 6, 7], [(0, 0)], []⟩ (.exit 2) (mmS 19 l 16 i), .unroll 7, .reg 27 [(1, [.be (I 3)], none)]] [] [
      Contract Try.prog (7 : Nat) [] [] (Bo true) [],
      LoopC Try.prog (0 : Nat) (123 : Nat) mbB { env := [((0 : Nat), I (19 : Int)), ((4 : Nat), V.own (0 : Nat)), ((5 : Nat), I (0 : Int))], st := [((0 : Nat), Obj.arr (4 : Nat) [])], ids := [(0 : Nat)] } (Ex.exit (0 : Nat)) { env := [((0 : Nat), I (19 : Int)), ((4 : Nat), V.own (0 : Nat)), ((5 : Nat), I (19 : Int))], st := [((0 : Nat), Obj.arr (4 : Nat) [Bk.row { num := (0 : Int), born := (0 : Int), tier := (0 : Int), eps := [] }, Bk.row { num := (1 : Int), born := (1 : Int), tier := (0 : Int), eps := [] }, Bk.row { num := (2 : Int), born := (2 : Int), tier := (0 : Int), eps := [] }, Bk.row { num := (3 : Int), born := (3 : Int), tier := (0 : Int), eps := [] }, Bk.row { num := (4 : Int), born := (4 : Int), tier := (0 : Int), eps := [] }, Bk.row { num := (5 : Int), born := (5 : Int), tier := (0 : Int), eps := [] }, Bk.row { num := (6 : Int), born := (6 : Int), tier := (0 : Int), eps := [] }, Bk.row { num := (7 : Int), born := (7 : Int), tier := (0 : Int), eps := [] }, Bk.row { num := (8 : Int), born := (8 : Int), tier := (0 : Int), eps := [] }, Bk.row { num := (9 : Int), born := (9 : Int), tier := (0 : Int), eps := [] }, Bk.row { num := (10 : Int), born := (10 : Int), tier := (0 : Int), eps := [] }, Bk.row { num := (11 : Int), born := (11 : Int), tier := (0 : Int), eps := [] }, Bk.row { num := (12 : Int), born := (12 : Int), tier := (0 : Int), eps := [] }, Bk.row { num := (13 : Int), born := (13 : Int), tier := (0 : Int), eps := [] }, Bk.row { num := (14 : Int), born := (14 : Int), tier := (0 : Int), eps := [] }, Bk.row { num := (15 : Int), born := (15 : Int), tier := (0 : Int), eps := [] }, Bk.row { num := (16 : Int), born := (16 : Int), tier := (0 : Int), eps := [] }, Bk.row { num := (17 : Int), born := (17 : Int), tier := (0 : Int), eps := [] }, Bk.row { num := (18 : Int), born := (18 : Int), tier := (0 : Int), eps := [] }])], ids := [(0 : Nat)] },
      LoopC Try.prog (0 : Nat) (123 : Nat) mmB { env := [((0 : Nat), I (19 : Int)), ((4 : Nat), V.own (0 : Nat)), ((6 : Nat), I (0 : Int)), ((7 : Nat), I (0 : Int))], st := [((0 : Nat), Obj.arr (4 : Nat) [Bk.row { num := (0 : Int), born := (0 : Int), tier := (0 : Int), eps := [] }, Bk.row { num := (1 : Int), born := (1 : Int), tier := (0 : Int), eps := [] }, Bk.row { num := (2 : Int), born := (2 : Int), tier := (0 : Int), eps := [] }, Bk.row { num := (3 : Int), born := (3 : Int), tier := (0 : Int), eps := [] }, Bk.row { num := (4 : Int), born := (4 : Int), tier := (0 : Int), eps := [] }, Bk.row { num := (5 : Int), born := (5 : Int), tier := (0 : Int), eps := [] }, Bk.row { num := (6 : Int), born := (6 : Int), tier := (0 : Int), eps := [] }, Bk.row { num := (7 : Int), born := (7 : Int), tier := (0 : Int), eps := [] }, Bk.row { num := (8 : Int), born := (8 : Int), tier := (0 : Int), eps := [] }, Bk.row { num := (9 : Int), born := (9 : Int), tier := (0 : Int), eps := [] }, Bk.row { num := (10 : Int), born := (10 : Int), tier := (0 : Int), eps := [] }, Bk.row { num := (11 : Int), born := (11 : Int), tier := (0 : Int), eps := [] }, Bk.row { num := (12 : Int), born := (12 : Int), tier := (0 : Int), eps := [] }, Bk.row { num := (13 : Int), born := (13 : Int), tier := (0 : Int), eps := [] }, Bk.row { num := (14 : Int), born := (14 : Int), tier := (0 : Int), eps := [] }, Bk.row { num := (15 : Int), born := (15 : Int), tier := (0 : Int), eps := [] }, Bk.row { num := (16 : Int), born := (16 : Int), tier := (0 : Int), eps := [] }, Bk.row { num := (17 : Int), born := (17 : Int), tier := (0 : Int), eps := [] }, Bk.row { num := (18 : Int), born := (18 : Int), tier := (0 : Int), eps := [] }])], ids := [(0 : Nat)] } (Ex.exit (2 : Nat)) { env := [((0 : Nat), I (19 : Int)), ((4 : Nat), V.own (0 : Nat)), ((6 : Nat), I (16 : Int)), ((7 : Nat), I (Int.ofNat i))], st := [((0 : Nat), Obj.arr (4 : Nat) (List.map Bk.row l))], ids := [(0 : Nat)] },
      Int.ofNat (List.length (List.map Bk.row l)) = (3 : Int)] (by kernel_rfl)
    (by
      simp only [allP]
      and_intros <;> first
        | exact cAlive
        | exact h1
        | exact h2
        | (simp [hl]; done))

theorem me19 (l : List Bk) (i : Nat) (hl : l.length = 3) (h1 : LoopC Try.prog 0 123 mbB (mbS 19 [] 0) (.exit 0) (mbS 19 (bks 19) 19)) (h2 : LoopC Try.prog 0 123 mmB (mmS 19 (bks 19) 0 0) (.exit 2) (mmS 19 l 16 i)) : Contract Try.prog 5 [I 19] [] (Bo true) [] := by
  exact Contract.cast (by
    first
      | rfl) (by
    first
      | rfl) (me19_0 l i hl h1 h2 )

theorem me20_0 (l : List Bk) (i : Nat) (hl : l.length = 2) (h1 : LoopC Try.prog 0 123 mbB (mbS 20 [] 0) (.exit 0) (mbS 20 (bks 20) 20)) (h2 : LoopC Try.prog 0 123 mmB (mmS 20 (bks 20) 0 0) (.exit 2) (mmS 20 l 18 i)) : Contract Try.prog 5 [I 20] [] (Bo true) ([]) :=
  vcP hmix [.reg 1 [(0, [.call [] [] (Bo true) []], none)], .reg 4 [(0, [.idx 4], none)], .cut ⟨[0, 4, 5], [(801000, 0)], []⟩ (.exit 0) (mbS 20 (bks 20) 20), .cut ⟨[0, 4, 6, 7], [(0, 0)], []⟩ (.exit 2) (mmS 20 l 18 i), .unroll 7, .reg 27 [(1, [.be (I 2)], none)]] [] [
      Contract Try.prog (7 : Nat) [] [] (Bo true) [],
      LoopC Try.prog (0 : Nat) (123 : Nat) mbB { env := [((0 : Nat), I (20 : Int)), ((4 : Nat), V.own (0 : Nat)), ((5 : Nat), I (0 : Int))], st := [((0 : Nat), Obj.arr (4 : Nat) [])], ids := [(0 : Nat)] } (Ex.exit (0 : Nat)) { env := [((0 : Nat), I (20 : Int)), ((4 : Nat), V.own (0 : Nat)), ((5 : Nat), I (20 : Int))], st := [((0 : Nat), Obj.arr (4 : Nat) [Bk.row { num := (0 : Int), born := (0 : Int), tier := (0 : Int), eps := [] }, Bk.row { num := (1 : Int), born := (1 : Int), tier := (0 : Int), eps := [] }, Bk.row { num := (2 : Int), born := (2 : Int), tier := (0 : Int), eps := [] }, Bk.row { num := (3 : Int), born := (3 : Int), tier := (0 : Int), eps := [] }, Bk.row { num := (4 : Int), born := (4 : Int), tier := (0 : Int), eps := [] }, Bk.row { num := (5 : Int), born := (5 : Int), tier := (0 : Int), eps := [] }, Bk.row { num := (6 : Int), born := (6 : Int), tier := (0 : Int), eps := [] }, Bk.row { num := (7 : Int), born := (7 : Int), tier := (0 : Int), eps := [] }, Bk.row { num := (8 : Int), born := (8 : Int), tier := (0 : Int), eps := [] }, Bk.row { num := (9 : Int), born := (9 : Int), tier := (0 : Int), eps := [] }, Bk.row { num := (10 : Int), born := (10 : Int), tier := (0 : Int), eps := [] }, Bk.row { num := (11 : Int), born := (11 : Int), tier := (0 : Int), eps := [] }, Bk.row { num := (12 : Int), born := (12 : Int), tier := (0 : Int), eps := [] }, Bk.row { num := (13 : Int), born := (13 : Int), tier := (0 : Int), eps := [] }, Bk.row { num := (14 : Int), born := (14 : Int), tier := (0 : Int), eps := [] }, Bk.row { num := (15 : Int), born := (15 : Int), tier := (0 : Int), eps := [] }, Bk.row { num := (16 : Int), born := (16 : Int), tier := (0 : Int), eps := [] }, Bk.row { num := (17 : Int), born := (17 : Int), tier := (0 : Int), eps := [] }, Bk.row { num := (18 : Int), born := (18 : Int), tier := (0 : Int), eps := [] }, Bk.row { num := (19 : Int), born := (19 : Int), tier := (0 : Int), eps := [] }])], ids := [(0 : Nat)] },
      LoopC Try.prog (0 : Nat) (123 : Nat) mmB { env := [((0 : Nat), I (20 : Int)), ((4 : Nat), V.own (0 : Nat)), ((6 : Nat), I (0 : Int)), ((7 : Nat), I (0 : Int))], st := [((0 : Nat), Obj.arr (4 : Nat) [Bk.row { num := (0 : Int), born := (0 : Int), tier := (0 : Int), eps := [] }, Bk.row { num := (1 : Int), born := (1 : Int), tier := (0 : Int), eps := [] }, Bk.row { num := (2 : Int), born := (2 : Int), tier := (0 : Int), eps := [] }, Bk.row { num := (3 : Int), born := (3 : Int), tier := (0 : Int), eps := [] }, Bk.row { num := (4 : Int), born := (4 : Int), tier := (0 : Int), eps := [] }, Bk.row { num := (5 : Int), born := (5 : Int), tier := (0 : Int), eps := [] }, Bk.row { num := (6 : Int), born := (6 : Int), tier := (0 : Int), eps := [] }, Bk.row { num := (7 : Int), born := (7 : Int), tier := (0 : Int), eps := [] }, Bk.row { num := (8 : Int), born := (8 : Int), tier := (0 : Int), eps := [] }, Bk.row { num := (9 : Int), born := (9 : Int), tier := (0 : Int), eps := [] }, Bk.row { num := (10 : Int), born := (10 : Int), tier := (0 : Int), eps := [] }, Bk.row { num := (11 : Int), born := (11 : Int), tier := (0 : Int), eps := [] }, Bk.row { num := (12 : Int), born := (12 : Int), tier := (0 : Int), eps := [] }, Bk.row { num := (13 : Int), born := (13 : Int), tier := (0 : Int), eps := [] }, Bk.row { num := (14 : Int), born := (14 : Int), tier := (0 : Int), eps := [] }, Bk.row { num := (15 : Int), born := (15 : Int), tier := (0 : Int), eps := [] }, Bk.row { num := (16 : Int), born := (16 : Int), tier := (0 : Int), eps := [] }, Bk.row { num := (17 : Int), born := (17 : Int), tier := (0 : Int), eps := [] }, Bk.row { num := (18 : Int), born := (18 : Int), tier := (0 : Int), eps := [] }, Bk.row { num := (19 : Int), born := (19 : Int), tier := (0 : Int), eps := [] }])], ids := [(0 : Nat)] } (Ex.exit (2 : Nat)) { env := [((0 : Nat), I (20 : Int)), ((4 : Nat), V.own (0 : Nat)), ((6 : Nat), I (18 : Int)), ((7 : Nat), I (Int.ofNat i))], st := [((0 : Nat), Obj.arr (4 : Nat) (List.map Bk.row l))], ids := [(0 : Nat)] },
      Int.ofNat (List.length (List.map Bk.row l)) = (2 : Int)] (by kernel_rfl)
    (by
      simp only [allP]
      and_intros <;> first
        | exact cAlive
        | exact h1
        | exact h2
        | (simp [hl]; done))

theorem me20 (l : List Bk) (i : Nat) (hl : l.length = 2) (h1 : LoopC Try.prog 0 123 mbB (mbS 20 [] 0) (.exit 0) (mbS 20 (bks 20) 20)) (h2 : LoopC Try.prog 0 123 mmB (mmS 20 (bks 20) 0 0) (.exit 2) (mmS 20 l 18 i)) : Contract Try.prog 5 [I 20] [] (Bo true) [] := by
  exact Contract.cast (by
    first
      | rfl) (by
    first
      | rfl) (me20_0 l i hl h1 h2 )

theorem meLow_0 (n : Int) (hn : n < 0) : Contract Try.prog 5 [I n] [] (Bo true) ([]) :=
  vcP hmix [.reg 1 [(0, [.call [] [] (Bo true) []], none)], .reg 2 [(4, [], some true)]] [] [
      Contract Try.prog (7 : Nat) [] [] (Bo true) [],
      decide (n < (0 : Int)) = true] (by kernel_rfl)
    (by
      simp only [allP]
      and_intros <;> first
        | exact cAlive
        | (simp; omega))

theorem meLow (n : Int) (hn : n < 0) : Contract Try.prog 5 [I n] [] (Bo true) [] := by
  exact Contract.cast (by
    first
      | rfl) (by
    first
      | rfl) (meLow_0 n hn )

theorem meHigh_0 (n : Int) (hn : 20 < n) : Contract Try.prog 5 [I n] [] (Bo true) ([]) :=
  vcP hmix [.reg 1 [(0, [.call [] [] (Bo true) []], none)], .reg 2 [(4, [], some false), (8, [], some true)]] [] [
      Contract Try.prog (7 : Nat) [] [] (Bo true) [],
      decide (n < (0 : Int)) = false,
      decide (n > (20 : Int)) = true] (by kernel_rfl)
    (by
      simp only [allP]
      and_intros <;> first
        | exact cAlive
        | (simp; omega))

theorem meHigh (n : Int) (hn : 20 < n) : Contract Try.prog 5 [I n] [] (Bo true) [] := by
  exact Contract.cast (by
    first
      | rfl) (by
    first
      | rfl) (meHigh_0 n hn )

end Go.Proofs.Ytfpdlamjlbpmkaa
