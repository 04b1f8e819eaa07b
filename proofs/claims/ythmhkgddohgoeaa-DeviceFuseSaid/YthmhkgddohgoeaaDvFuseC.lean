/- DeviceFuse: just as many calls go through as the fuse says. -/
import Derived.Test.YthmhkgddohgoeaaDvFuseP4
import Derived.Test.YthmhkgddohgoeaaRows
namespace Go.Proofs.Ythmhkgddohgoeaa
open E
set_option maxRecDepth 100000
set_option linter.unusedVariables false
set_option linter.unusedSimpArgs false

def fuS (n c : Int) (d : Dv) (i : Nat) : SL := ⟨[(0, I n), (1, I c), (6, .ptr 801001 0 0 0), (7, I i)], [(801001, d.box 901), (901, d.map)], [801001, 901]⟩
noncomputable def fuB : Code := codeAt Try.prog 3 [true, true, true, true, true, true, true, false, true, false, false]

theorem fuP_0 (n c : Int) (d d2 : Dv) (i : Nat) (hi : (i : Int) < c) (hc : c ≤ 60) (hn : (i : Int) + 1 < n) (h1 : Contract Try.prog 10 [.ptr 0 0 0 0, .val (.string ⟨#[97]⟩), .sl 1 ([50].map bR)] [d.box 1, d.map] (I 0) [some (d2.box 2), none, some d2.map]) (h2 : Contract Try.prog 12 [.ptr 0 0 0 0, .val (.string ⟨#[110, 111, 98, 111, 100, 121]⟩)] [d2.box 1, d2.map] (I 4) [some (d2.box 1), some d2.map]) : CodeC Try.prog 0 96 fuB (fuS n c d i) (Ex.normal) ({ env := [((0 : Nat), I n), ((1 : Nat), I c), ((6 : Nat), V.ptr (801001 : Nat) (0 : Nat) (0 : Nat) (0 : Nat)), ((7 : Nat), I (Int.ofNat (i + (1 : Nat))))], st := [((801001 : Nat), Obj.box [I (Dv.room d2), I (Dv.used d2), V.val (Value.int IntKind.u32 (bif Dv.nl d2 then (0 : Int) else (1 : Int))), V.val (Value.int IntKind.i32 (0 : Int)), V.val (Value.int IntKind.u32 (0 : Int)), V.mref (901 : Nat), I (Dv.fuse d2)]), ((901 : Nat), Obj.nest (Nest.mp (Dv.nl d2) (mE (Dv.fs d2))) [])], ids := [(801001 : Nat), (901 : Nat)] }) :=
  runP hmix [.reg 10 [(2, [], some true)], .reg 12 [(3, [.call [801001, 901] [] (I 0) [some (d2.box 2), none, some d2.map]], none)], .reg 13 [(1, [.call [801001, 2404001] [] (I 4) [some (d2.box 1), some d2.map]], none)], .reg 14 [(2, [], some true), (5, [.call [] [] (I 0) []], none), (9, [.be (I ((i + 1 : Nat) : Int))], none), (11, [], some true), (14, [.call [] [] (I 4) []], none), (22, [], some false), (25, [.call [] [] (I 0) []], none), (29, [.call [] [] (I 4) []], none)], .reg 11 [(1, [.be (I ((i + 1 : Nat) : Int))], none)]] ⟨[0, 1, 6, 7], [(801001, 801001), (2404001, 901)], []⟩ [
      decide (Int.ofNat i < c) = true,
      [[V.val (Value.int IntKind.u8 (50 : Int))]] ≠ [],
      Contract Try.prog (10 : Nat) [V.ptr (0 : Nat) (0 : Nat) (0 : Nat) (0 : Nat), Sg { data := { toList := [(97 : UInt8)] } }, V.sl (1 : Nat) [[V.val (Value.int IntKind.u8 (50 : Int))]]] [Obj.box [I (Dv.room d), I (Dv.used d), V.val (Value.int IntKind.u32 (bif Dv.nl d then (0 : Int) else (1 : Int))), V.val (Value.int IntKind.i32 (0 : Int)), V.val (Value.int IntKind.u32 (0 : Int)), V.mref (1 : Nat), I (Dv.fuse d)], Obj.nest (Nest.mp (Dv.nl d) (mE (Dv.fs d))) []] (I (0 : Int)) [some (Obj.box [I (Dv.room d2), I (Dv.used d2), V.val (Value.int IntKind.u32 (bif Dv.nl d2 then (0 : Int) else (1 : Int))), V.val (Value.int IntKind.i32 (0 : Int)), V.val (Value.int IntKind.u32 (0 : Int)), V.mref (2 : Nat), I (Dv.fuse d2)]), none, some (Obj.nest (Nest.mp (Dv.nl d2) (mE (Dv.fs d2))) [])],
      Contract Try.prog (12 : Nat) [V.ptr (0 : Nat) (0 : Nat) (0 : Nat) (0 : Nat), Sg { data := { toList := [(110 : UInt8), (111 : UInt8), (98 : UInt8), (111 : UInt8), (100 : UInt8), (121 : UInt8)] } }] [Obj.box [I (Dv.room d2), I (Dv.used d2), V.val (Value.int IntKind.u32 (bif Dv.nl d2 then (0 : Int) else (1 : Int))), V.val (Value.int IntKind.i32 (0 : Int)), V.val (Value.int IntKind.u32 (0 : Int)), V.mref (1 : Nat), I (Dv.fuse d2)], Obj.nest (Nest.mp (Dv.nl d2) (mE (Dv.fs d2))) []] (I (4 : Int)) [some (Obj.box [I (Dv.room d2), I (Dv.used d2), V.val (Value.int IntKind.u32 (bif Dv.nl d2 then (0 : Int) else (1 : Int))), V.val (Value.int IntKind.i32 (0 : Int)), V.val (Value.int IntKind.u32 (0 : Int)), V.mref (1 : Nat), I (Dv.fuse d2)]), some (Obj.nest (Nest.mp (Dv.nl d2) (mE (Dv.fs d2))) [])],
      decide (Int.ofNat i < n) = true,
      Contract Try.prog (13 : Nat) [I (0 : Int)] [] (I (0 : Int)) [],
      IntKind.wrap IntKind.i64 (Int.ofNat (i + (1 : Nat))) = Int.ofNat (i + (1 : Nat)),
      decide (Int.ofNat (i + (1 : Nat)) < n) = true,
      Contract Try.prog (13 : Nat) [I (4 : Int)] [] (I (4 : Int)) [],
      decide (Int.ofNat i ≥ n) = false,
      IntKind.wrap IntKind.i64 (Int.ofNat (i + (1 : Nat))) = Int.ofNat (i + (1 : Nat))] (by kernel_rfl)
    (by
      simp only [allP]
      and_intros <;> first
        | exact h1
        | exact h2
        | exact cNum 0
        | exact cNum 4
        | exact List.cons_ne_nil _ _
        | exact i64_small (by simp; omega)
        | (simp; omega))

theorem fuP (n c : Int) (d d2 : Dv) (i : Nat) (hi : (i : Int) < c) (hc : c ≤ 60) (hn : (i : Int) + 1 < n) (h1 : Contract Try.prog 10 [.ptr 0 0 0 0, .val (.string ⟨#[97]⟩), .sl 1 ([50].map bR)] [d.box 1, d.map] (I 0) [some (d2.box 2), none, some d2.map]) (h2 : Contract Try.prog 12 [.ptr 0 0 0 0, .val (.string ⟨#[110, 111, 98, 111, 100, 121]⟩)] [d2.box 1, d2.map] (I 4) [some (d2.box 1), some d2.map])  : CodeC Try.prog 0 96 fuB (fuS n c d i) .normal (fuS n c d2 (i + 1)) := by
  exact CodeC.cast (by
    first
      | rfl) (fuP_0 n c d d2 i hi hc hn h1 h2 )

theorem fuQ_0 (n c : Int) (d d2 : Dv) (i : Nat) (hi : (i : Int) < c) (hc : c ≤ 60) (hn : (i : Int) + 1 = n) (h1 : Contract Try.prog 10 [.ptr 0 0 0 0, .val (.string ⟨#[97]⟩), .sl 1 ([50].map bR)] [d.box 1, d.map] (I 0) [some (d2.box 2), none, some d2.map]) (h2 : Contract Try.prog 12 [.ptr 0 0 0 0, .val (.string ⟨#[110, 111, 98, 111, 100, 121]⟩)] [d2.box 1, d2.map] (I 5) [some (d2.box 1), some d2.map]) : CodeC Try.prog 0 96 fuB (fuS n c d i) (Ex.normal) ({ env := [((0 : Nat), I n), ((1 : Nat), I c), ((6 : Nat), V.ptr (801001 : Nat) (0 : Nat) (0 : Nat) (0 : Nat)), ((7 : Nat), I (Int.ofNat (i + (1 : Nat))))], st := [((801001 : Nat), Obj.box [I (Dv.room d2), I (Dv.used d2), V.val (Value.int IntKind.u32 (bif Dv.nl d2 then (0 : Int) else (1 : Int))), V.val (Value.int IntKind.i32 (0 : Int)), V.val (Value.int IntKind.u32 (0 : Int)), V.mref (901 : Nat), I (Dv.fuse d2)]), ((901 : Nat), Obj.nest (Nest.mp (Dv.nl d2) (mE (Dv.fs d2))) [])], ids := [(801001 : Nat), (901 : Nat)] }) :=
  runP hmix [.reg 10 [(2, [], some true)], .reg 12 [(3, [.call [801001, 901] [] (I 0) [some (d2.box 2), none, some d2.map]], none)], .reg 13 [(1, [.call [801001, 2404001] [] (I 5) [some (d2.box 1), some d2.map]], none)], .reg 14 [(2, [], some true), (5, [.call [] [] (I 0) []], none), (9, [.be (I ((i + 1 : Nat) : Int))], none), (11, [], some false), (14, [.call [] [] (I 5) []], none), (22, [], some false), (25, [.call [] [] (I 0) []], none), (29, [.call [] [] (I 5) []], none)], .reg 11 [(1, [.be (I ((i + 1 : Nat) : Int))], none)]] ⟨[0, 1, 6, 7], [(801001, 801001), (2404001, 901)], []⟩ [
      decide (Int.ofNat i < c) = true,
      [[V.val (Value.int IntKind.u8 (50 : Int))]] ≠ [],
      Contract Try.prog (10 : Nat) [V.ptr (0 : Nat) (0 : Nat) (0 : Nat) (0 : Nat), Sg { data := { toList := [(97 : UInt8)] } }, V.sl (1 : Nat) [[V.val (Value.int IntKind.u8 (50 : Int))]]] [Obj.box [I (Dv.room d), I (Dv.used d), V.val (Value.int IntKind.u32 (bif Dv.nl d then (0 : Int) else (1 : Int))), V.val (Value.int IntKind.i32 (0 : Int)), V.val (Value.int IntKind.u32 (0 : Int)), V.mref (1 : Nat), I (Dv.fuse d)], Obj.nest (Nest.mp (Dv.nl d) (mE (Dv.fs d))) []] (I (0 : Int)) [some (Obj.box [I (Dv.room d2), I (Dv.used d2), V.val (Value.int IntKind.u32 (bif Dv.nl d2 then (0 : Int) else (1 : Int))), V.val (Value.int IntKind.i32 (0 : Int)), V.val (Value.int IntKind.u32 (0 : Int)), V.mref (2 : Nat), I (Dv.fuse d2)]), none, some (Obj.nest (Nest.mp (Dv.nl d2) (mE (Dv.fs d2))) [])],
      Contract Try.prog (12 : Nat) [V.ptr (0 : Nat) (0 : Nat) (0 : Nat) (0 : Nat), Sg { data := { toList := [(110 : UInt8), (111 : UInt8), (98 : UInt8), (111 : UInt8), (100 : UInt8), (121 : UInt8)] } }] [Obj.box [I (Dv.room d2), I (Dv.used d2), V.val (Value.int IntKind.u32 (bif Dv.nl d2 then (0 : Int) else (1 : Int))), V.val (Value.int IntKind.i32 (0 : Int)), V.val (Value.int IntKind.u32 (0 : Int)), V.mref (1 : Nat), I (Dv.fuse d2)], Obj.nest (Nest.mp (Dv.nl d2) (mE (Dv.fs d2))) []] (I (5 : Int)) [some (Obj.box [I (Dv.room d2), I (Dv.used d2), V.val (Value.int IntKind.u32 (bif Dv.nl d2 then (0 : Int) else (1 : Int))), V.val (Value.int IntKind.i32 (0 : Int)), V.val (Value.int IntKind.u32 (0 : Int)), V.mref (1 : Nat), I (Dv.fuse d2)]), some (Obj.nest (Nest.mp (Dv.nl d2) (mE (Dv.fs d2))) [])],
      decide (Int.ofNat i < n) = true,
      Contract Try.prog (13 : Nat) [I (0 : Int)] [] (I (0 : Int)) [],
      IntKind.wrap IntKind.i64 (Int.ofNat (i + (1 : Nat))) = Int.ofNat (i + (1 : Nat)),
      decide (Int.ofNat (i + (1 : Nat)) < n) = false,
      decide (Int.ofNat i ≥ n) = false,
      IntKind.wrap IntKind.i64 (Int.ofNat (i + (1 : Nat))) = Int.ofNat (i + (1 : Nat))] (by kernel_rfl)
    (by
      simp only [allP]
      and_intros <;> first
        | exact h1
        | exact h2
        | exact cNum 0
        | exact List.cons_ne_nil _ _
        | exact i64_small (by simp; omega)
        | (simp; omega))

theorem fuQ (n c : Int) (d d2 : Dv) (i : Nat) (hi : (i : Int) < c) (hc : c ≤ 60) (hn : (i : Int) + 1 = n) (h1 : Contract Try.prog 10 [.ptr 0 0 0 0, .val (.string ⟨#[97]⟩), .sl 1 ([50].map bR)] [d.box 1, d.map] (I 0) [some (d2.box 2), none, some d2.map]) (h2 : Contract Try.prog 12 [.ptr 0 0 0 0, .val (.string ⟨#[110, 111, 98, 111, 100, 121]⟩)] [d2.box 1, d2.map] (I 5) [some (d2.box 1), some d2.map])  : CodeC Try.prog 0 96 fuB (fuS n c d i) .normal (fuS n c d2 (i + 1)) := by
  exact CodeC.cast (by
    first
      | rfl) (fuQ_0 n c d d2 i hi hc hn h1 h2 )

theorem fuR_0 (n c : Int) (d d2 : Dv) (i : Nat) (hi : (i : Int) < c) (hc : c ≤ 60) (hn : n ≤ (i : Int)) (h1 : Contract Try.prog 10 [.ptr 0 0 0 0, .val (.string ⟨#[97]⟩), .sl 1 ([50].map bR)] [d.box 1, d.map] (I 5) [some (d2.box 2), none, some d2.map]) (h2 : Contract Try.prog 12 [.ptr 0 0 0 0, .val (.string ⟨#[110, 111, 98, 111, 100, 121]⟩)] [d2.box 1, d2.map] (I 5) [some (d2.box 1), some d2.map]) : CodeC Try.prog 0 96 fuB (fuS n c d i) (Ex.normal) ({ env := [((0 : Nat), I n), ((1 : Nat), I c), ((6 : Nat), V.ptr (801001 : Nat) (0 : Nat) (0 : Nat) (0 : Nat)), ((7 : Nat), I (Int.ofNat (i + (1 : Nat))))], st := [((801001 : Nat), Obj.box [I (Dv.room d2), I (Dv.used d2), V.val (Value.int IntKind.u32 (bif Dv.nl d2 then (0 : Int) else (1 : Int))), V.val (Value.int IntKind.i32 (0 : Int)), V.val (Value.int IntKind.u32 (0 : Int)), V.mref (901 : Nat), I (Dv.fuse d2)]), ((901 : Nat), Obj.nest (Nest.mp (Dv.nl d2) (mE (Dv.fs d2))) [])], ids := [(801001 : Nat), (901 : Nat)] }) :=
  runP hmix [.reg 10 [(2, [], some true)], .reg 12 [(3, [.call [801001, 901] [] (I 5) [some (d2.box 2), none, some d2.map]], none)], .reg 13 [(1, [.call [801001, 2404001] [] (I 5) [some (d2.box 1), some d2.map]], none)], .reg 14 [(2, [], some false), (5, [.call [] [] (I 5) []], none), (9, [.be (I ((i + 1 : Nat) : Int))], none), (14, [.call [] [] (I 5) []], none), (22, [], some true), (25, [.call [] [] (I 5) []], none), (29, [.call [] [] (I 5) []], none)], .reg 11 [(1, [.be (I ((i + 1 : Nat) : Int))], none)]] ⟨[0, 1, 6, 7], [(801001, 801001), (2404001, 901)], []⟩ [
      decide (Int.ofNat i < c) = true,
      [[V.val (Value.int IntKind.u8 (50 : Int))]] ≠ [],
      Contract Try.prog (10 : Nat) [V.ptr (0 : Nat) (0 : Nat) (0 : Nat) (0 : Nat), Sg { data := { toList := [(97 : UInt8)] } }, V.sl (1 : Nat) [[V.val (Value.int IntKind.u8 (50 : Int))]]] [Obj.box [I (Dv.room d), I (Dv.used d), V.val (Value.int IntKind.u32 (bif Dv.nl d then (0 : Int) else (1 : Int))), V.val (Value.int IntKind.i32 (0 : Int)), V.val (Value.int IntKind.u32 (0 : Int)), V.mref (1 : Nat), I (Dv.fuse d)], Obj.nest (Nest.mp (Dv.nl d) (mE (Dv.fs d))) []] (I (5 : Int)) [some (Obj.box [I (Dv.room d2), I (Dv.used d2), V.val (Value.int IntKind.u32 (bif Dv.nl d2 then (0 : Int) else (1 : Int))), V.val (Value.int IntKind.i32 (0 : Int)), V.val (Value.int IntKind.u32 (0 : Int)), V.mref (2 : Nat), I (Dv.fuse d2)]), none, some (Obj.nest (Nest.mp (Dv.nl d2) (mE (Dv.fs d2))) [])],
      Contract Try.prog (12 : Nat) [V.ptr (0 : Nat) (0 : Nat) (0 : Nat) (0 : Nat), Sg { data := { toList := [(110 : UInt8), (111 : UInt8), (98 : UInt8), (111 : UInt8), (100 : UInt8), (121 : UInt8)] } }] [Obj.box [I (Dv.room d2), I (Dv.used d2), V.val (Value.int IntKind.u32 (bif Dv.nl d2 then (0 : Int) else (1 : Int))), V.val (Value.int IntKind.i32 (0 : Int)), V.val (Value.int IntKind.u32 (0 : Int)), V.mref (1 : Nat), I (Dv.fuse d2)], Obj.nest (Nest.mp (Dv.nl d2) (mE (Dv.fs d2))) []] (I (5 : Int)) [some (Obj.box [I (Dv.room d2), I (Dv.used d2), V.val (Value.int IntKind.u32 (bif Dv.nl d2 then (0 : Int) else (1 : Int))), V.val (Value.int IntKind.i32 (0 : Int)), V.val (Value.int IntKind.u32 (0 : Int)), V.mref (1 : Nat), I (Dv.fuse d2)]), some (Obj.nest (Nest.mp (Dv.nl d2) (mE (Dv.fs d2))) [])],
      decide (Int.ofNat i < n) = false,
      decide (Int.ofNat i ≥ n) = true,
      Contract Try.prog (13 : Nat) [I (5 : Int)] [] (I (5 : Int)) [],
      Contract Try.prog (13 : Nat) [I (5 : Int)] [] (I (5 : Int)) [],
      IntKind.wrap IntKind.i64 (Int.ofNat (i + (1 : Nat))) = Int.ofNat (i + (1 : Nat))] (by kernel_rfl)
    (by
      simp only [allP]
      and_intros <;> first
        | exact h1
        | exact h2
        | exact cNum 5
        | exact List.cons_ne_nil _ _
        | exact i64_small (by simp; omega)
        | (simp; omega))

theorem fuR (n c : Int) (d d2 : Dv) (i : Nat) (hi : (i : Int) < c) (hc : c ≤ 60) (hn : n ≤ (i : Int)) (h1 : Contract Try.prog 10 [.ptr 0 0 0 0, .val (.string ⟨#[97]⟩), .sl 1 ([50].map bR)] [d.box 1, d.map] (I 5) [some (d2.box 2), none, some d2.map]) (h2 : Contract Try.prog 12 [.ptr 0 0 0 0, .val (.string ⟨#[110, 111, 98, 111, 100, 121]⟩)] [d2.box 1, d2.map] (I 5) [some (d2.box 1), some d2.map])  : CodeC Try.prog 0 96 fuB (fuS n c d i) .normal (fuS n c d2 (i + 1)) := by
  exact CodeC.cast (by
    first
      | rfl) (fuR_0 n c d d2 i hi hc hn h1 h2 )

theorem fuE_0 (n c : Int) (d : Dv) (i : Nat) (h : c ≤ (i : Int)) : CodeC Try.prog 0 96 fuB (fuS n c d i) (Ex.exit (0 : Nat)) ({ env := [((0 : Nat), I n), ((1 : Nat), I c), ((6 : Nat), V.ptr (801001 : Nat) (0 : Nat) (0 : Nat) (0 : Nat)), ((7 : Nat), I (Int.ofNat i))], st := [((801001 : Nat), Obj.box [I (Dv.room d), I (Dv.used d), V.val (Value.int IntKind.u32 (bif Dv.nl d then (0 : Int) else (1 : Int))), V.val (Value.int IntKind.i32 (0 : Int)), V.val (Value.int IntKind.u32 (0 : Int)), V.mref (901 : Nat), I (Dv.fuse d)]), ((901 : Nat), Obj.nest (Nest.mp (Dv.nl d) (mE (Dv.fs d))) [])], ids := [(801001 : Nat), (901 : Nat)] }) :=
  runP hmix [.reg 10 [(2, [], some false)]] ⟨[0, 1, 6, 7], [(801001, 801001), (901, 901)], []⟩ [
      decide (Int.ofNat i < c) = false] (by kernel_rfl)
    (by
      simp only [allP]
      and_intros <;> first
        | (simp; omega))

theorem fuE (n c : Int) (d : Dv) (i : Nat) (h : c ≤ (i : Int))  : CodeC Try.prog 0 96 fuB (fuS n c d i) (.exit 0) (fuS n c d i) := by
  exact CodeC.cast (by
    first
      | rfl) (fuE_0 n c d i h )

theorem fuX0_0 (n c : Int) (h1 : n < 0) : Contract Try.prog 3 [I n, I c] [] (Bo true) ([]) :=
  vcP hmix [.reg 1 [(0, [.call [] [] (Bo true) []], none)], .reg 2 [(4, [], some true)]] [] [
      Contract Try.prog (8 : Nat) [] [] (Bo true) [],
      decide (n < (0 : Int)) = true] (by kernel_rfl)
    (by
      simp only [allP]
      and_intros <;> first
        | exact cAlive
        | (simp; omega))

theorem fuX0 (n c : Int) (h1 : n < 0) : Contract Try.prog 3 [I n, I c] [] (Bo true) [] := by
  exact Contract.cast (by
    first
      | rfl) (by
    first
      | rfl) (fuX0_0 n c h1 )

theorem fuX1_0 (n c : Int) (h1 : 0 ≤ n) (h2 : 50 < n) : Contract Try.prog 3 [I n, I c] [] (Bo true) ([]) :=
  vcP hmix [.reg 1 [(0, [.call [] [] (Bo true) []], none)], .reg 2 [(4, [], some false), (8, [], some true)]] [] [
      Contract Try.prog (8 : Nat) [] [] (Bo true) [],
      decide (n < (0 : Int)) = false,
      decide (n > (50 : Int)) = true] (by kernel_rfl)
    (by
      simp only [allP]
      and_intros <;> first
        | exact cAlive
        | (simp; omega))

theorem fuX1 (n c : Int) (h1 : 0 ≤ n) (h2 : 50 < n) : Contract Try.prog 3 [I n, I c] [] (Bo true) [] := by
  exact Contract.cast (by
    first
      | rfl) (by
    first
      | rfl) (fuX1_0 n c h1 h2 )

theorem fuX2_0 (n c : Int) (h1 : 0 ≤ n) (h2 : n ≤ 50) (h3 : c < 0) : Contract Try.prog 3 [I n, I c] [] (Bo true) ([]) :=
  vcP hmix [.reg 1 [(0, [.call [] [] (Bo true) []], none)], .reg 2 [(4, [], some false), (8, [], some false), (12, [], some true)]] [] [
      Contract Try.prog (8 : Nat) [] [] (Bo true) [],
      decide (n < (0 : Int)) = false,
      decide (n > (50 : Int)) = false,
      decide (c < (0 : Int)) = true] (by kernel_rfl)
    (by
      simp only [allP]
      and_intros <;> first
        | exact cAlive
        | (simp; omega))

theorem fuX2 (n c : Int) (h1 : 0 ≤ n) (h2 : n ≤ 50) (h3 : c < 0) : Contract Try.prog 3 [I n, I c] [] (Bo true) [] := by
  exact Contract.cast (by
    first
      | rfl) (by
    first
      | rfl) (fuX2_0 n c h1 h2 h3 )

theorem fuX3_0 (n c : Int) (h1 : 0 ≤ n) (h2 : n ≤ 50) (h3 : 0 ≤ c) (h4 : 60 < c) : Contract Try.prog 3 [I n, I c] [] (Bo true) ([]) :=
  vcP hmix [.reg 1 [(0, [.call [] [] (Bo true) []], none)], .reg 2 [(4, [], some false), (8, [], some false), (12, [], some false), (16, [], some true)]] [] [
      Contract Try.prog (8 : Nat) [] [] (Bo true) [],
      decide (n < (0 : Int)) = false,
      decide (n > (50 : Int)) = false,
      decide (c < (0 : Int)) = false,
      decide (c > (60 : Int)) = true] (by kernel_rfl)
    (by
      simp only [allP]
      and_intros <;> first
        | exact cAlive
        | (simp; omega))

theorem fuX3 (n c : Int) (h1 : 0 ≤ n) (h2 : n ≤ 50) (h3 : 0 ≤ c) (h4 : 60 < c) : Contract Try.prog 3 [I n, I c] [] (Bo true) [] := by
  exact Contract.cast (by
    first
      | rfl) (by
    first
      | rfl) (fuX3_0 n c h1 h2 h3 h4 )

theorem fuN1 : Contract Try.prog 10 [.ptr 0 0 0 0, .val (.string ⟨#[97]⟩), .sl 1 ([49].map bR)] [(⟨100, 0, true, [], -1⟩ : Dv).box 1, (⟨100, 0, true, [], -1⟩ : Dv).map] (I 0) [some ((⟨100, 1, false, [(⟨#[97]⟩, ⟨[49], 0⟩)], -1⟩ : Dv).box 2), none, some (⟨100, 1, false, [(⟨#[97]⟩, ⟨[49], 0⟩)], -1⟩ : Dv).map] :=
  appC (appNew 100 ⟨#[97]⟩ [49] sA_ne (by decide)) (newP_ok (by decide) (by decide)) (by decide)
theorem fuN2 (n : Int) (h : 0 ≤ n) : Contract Try.prog 11 [.ptr 0 0 0 0, I n] [(⟨100, 1, false, [(⟨#[97]⟩, ⟨[49], 0⟩)], -1⟩ : Dv).box 1, (⟨100, 1, false, [(⟨#[97]⟩, ⟨[49], 0⟩)], -1⟩ : Dv).map] (.tup []) [some ((⟨100, 1, false, [(⟨#[97]⟩, ⟨[49], 0⟩)], n⟩ : Dv).box 1), some (⟨100, 1, false, [(⟨#[97]⟩, ⟨[49], 0⟩)], n⟩ : Dv).map] := by
  have := cFuse (⟨100, 1, false, [(⟨#[97]⟩, ⟨[49], 0⟩)], -1⟩ : Dv) n
  rw [show (if (-1 : Int) > n then -1 else n) = n by rw [if_neg (by omega)]] at this
  exact this
theorem fuY_0 (n c : Int) (dd : Dv) (i : Nat) (h1 : 0 ≤ n) (h2 : n ≤ 50) (h3 : 0 ≤ c) (h4 : c ≤ 60) (hw : c < n) (hu : dd.used = c + 1) (hL : LoopC Try.prog 0 96 fuB (fuS n c (⟨100, 1, false, [(⟨#[97]⟩, ⟨[49], 0⟩)], n⟩ : Dv) 0) (.exit 0) (fuS n c dd i)) : Contract Try.prog 3 [I n, I c] [] (Bo true) ([]) :=
  vcP hmix [.reg 1 [(0, [.call [] [] (Bo true) []], none)], .reg 2 [(4, [], some false), (8, [], some false), (12, [], some false), (16, [], some false)], .reg 4 [(0, [.call [] [] (.ptr 0 0 0 0) [some ((⟨100, 0, true, [], -1⟩ : Dv).box 1), some (⟨100, 0, true, [], -1⟩ : Dv).map]], none)], .reg 7 [(3, [.call [801001, 801002] [] (I 0) [some ((⟨100, 1, false, [(⟨#[97]⟩, ⟨[49], 0⟩)], -1⟩ : Dv).box 2), none, some (⟨100, 1, false, [(⟨#[97]⟩, ⟨[49], 0⟩)], -1⟩ : Dv).map]], none)], .reg 8 [(2, [.call [801001, 1404001] [] (.tup []) [some ((⟨100, 1, false, [(⟨#[97]⟩, ⟨[49], 0⟩)], n⟩ : Dv).box 1), some (⟨100, 1, false, [(⟨#[97]⟩, ⟨[49], 0⟩)], n⟩ : Dv).map]], none)], .cut ⟨[0, 1, 6, 7], [(801001, 801001), (1404001, 901)], []⟩ (.exit 0) (fuS n c dd i), .reg 17 [(2, [], some true)], .reg 19 [(1, [.call [801001, 901] [] (I dd.used) [some (dd.box 1), some dd.map]], none), (3, [.be (I (c + 1))], none), (4, [], some true)]] [] [
      Contract Try.prog (8 : Nat) [] [] (Bo true) [],
      decide (n < (0 : Int)) = false,
      decide (n > (50 : Int)) = false,
      decide (c < (0 : Int)) = false,
      decide (c > (60 : Int)) = false,
      Contract Try.prog (9 : Nat) [I (100 : Int)] [] (V.ptr (0 : Nat) (0 : Nat) (0 : Nat) (0 : Nat)) [some (Obj.box [I (100 : Int), I (0 : Int), V.val (Value.int IntKind.u32 (0 : Int)), V.val (Value.int IntKind.i32 (0 : Int)), V.val (Value.int IntKind.u32 (0 : Int)), V.mref (1 : Nat), I (-1 : Int)]), some (Obj.nest (Nest.mp true (mE [])) [])],
      [[V.val (Value.int IntKind.u8 (49 : Int))]] ≠ [],
      Contract Try.prog (10 : Nat) [V.ptr (0 : Nat) (0 : Nat) (0 : Nat) (0 : Nat), Sg { data := { toList := [(97 : UInt8)] } }, V.sl (1 : Nat) [[V.val (Value.int IntKind.u8 (49 : Int))]]] [Obj.box [I (100 : Int), I (0 : Int), V.val (Value.int IntKind.u32 (0 : Int)), V.val (Value.int IntKind.i32 (0 : Int)), V.val (Value.int IntKind.u32 (0 : Int)), V.mref (1 : Nat), I (-1 : Int)], Obj.nest (Nest.mp true (mE [])) []] (I (0 : Int)) [some (Obj.box [I (100 : Int), I (1 : Int), V.val (Value.int IntKind.u32 (1 : Int)), V.val (Value.int IntKind.i32 (0 : Int)), V.val (Value.int IntKind.u32 (0 : Int)), V.mref (2 : Nat), I (-1 : Int)]), none, some (Obj.nest (Nest.mp false (mE [({ data := { toList := [(97 : UInt8)] } }, { bs := [(49 : UInt8)], sure := (0 : Int) })])) [])],
      Contract Try.prog (11 : Nat) [V.ptr (0 : Nat) (0 : Nat) (0 : Nat) (0 : Nat), I n] [Obj.box [I (100 : Int), I (1 : Int), V.val (Value.int IntKind.u32 (1 : Int)), V.val (Value.int IntKind.i32 (0 : Int)), V.val (Value.int IntKind.u32 (0 : Int)), V.mref (1 : Nat), I (-1 : Int)], Obj.nest (Nest.mp false (mE [({ data := { toList := [(97 : UInt8)] } }, { bs := [(49 : UInt8)], sure := (0 : Int) })])) []] (V.tup []) [some (Obj.box [I (100 : Int), I (1 : Int), V.val (Value.int IntKind.u32 (1 : Int)), V.val (Value.int IntKind.i32 (0 : Int)), V.val (Value.int IntKind.u32 (0 : Int)), V.mref (1 : Nat), I n]), some (Obj.nest (Nest.mp false (mE [({ data := { toList := [(97 : UInt8)] } }, { bs := [(49 : UInt8)], sure := (0 : Int) })])) [])],
      LoopC Try.prog (0 : Nat) (96 : Nat) fuB { env := [((0 : Nat), I n), ((1 : Nat), I c), ((6 : Nat), V.ptr (801001 : Nat) (0 : Nat) (0 : Nat) (0 : Nat)), ((7 : Nat), I (0 : Int))], st := [((801001 : Nat), Obj.box [I (100 : Int), I (1 : Int), V.val (Value.int IntKind.u32 (1 : Int)), V.val (Value.int IntKind.i32 (0 : Int)), V.val (Value.int IntKind.u32 (0 : Int)), V.mref (901 : Nat), I n]), ((901 : Nat), Obj.nest (Nest.mp false (mE [({ data := { toList := [(97 : UInt8)] } }, { bs := [(49 : UInt8)], sure := (0 : Int) })])) [])], ids := [(801001 : Nat), (901 : Nat)] } (Ex.exit (0 : Nat)) { env := [((0 : Nat), I n), ((1 : Nat), I c), ((6 : Nat), V.ptr (801001 : Nat) (0 : Nat) (0 : Nat) (0 : Nat)), ((7 : Nat), I (Int.ofNat i))], st := [((801001 : Nat), Obj.box [I (Dv.room dd), I (Dv.used dd), V.val (Value.int IntKind.u32 (bif Dv.nl dd then (0 : Int) else (1 : Int))), V.val (Value.int IntKind.i32 (0 : Int)), V.val (Value.int IntKind.u32 (0 : Int)), V.mref (901 : Nat), I (Dv.fuse dd)]), ((901 : Nat), Obj.nest (Nest.mp (Dv.nl dd) (mE (Dv.fs dd))) [])], ids := [(801001 : Nat), (901 : Nat)] },
      decide (c < n) = true,
      Contract Try.prog (14 : Nat) [V.ptr (0 : Nat) (0 : Nat) (0 : Nat) (0 : Nat)] [Obj.box [I (Dv.room dd), I (Dv.used dd), V.val (Value.int IntKind.u32 (bif Dv.nl dd then (0 : Int) else (1 : Int))), V.val (Value.int IntKind.i32 (0 : Int)), V.val (Value.int IntKind.u32 (0 : Int)), V.mref (1 : Nat), I (Dv.fuse dd)], Obj.nest (Nest.mp (Dv.nl dd) (mE (Dv.fs dd))) []] (I (Dv.used dd)) [some (Obj.box [I (Dv.room dd), I (Dv.used dd), V.val (Value.int IntKind.u32 (bif Dv.nl dd then (0 : Int) else (1 : Int))), V.val (Value.int IntKind.i32 (0 : Int)), V.val (Value.int IntKind.u32 (0 : Int)), V.mref (1 : Nat), I (Dv.fuse dd)]), some (Obj.nest (Nest.mp (Dv.nl dd) (mE (Dv.fs dd))) [])],
      IntKind.wrap IntKind.i64 (c + (1 : Int)) = c + (1 : Int),
      (Dv.used dd == c + (1 : Int)) = true] (by kernel_rfl)
    (by
      simp only [allP]
      and_intros <;> first
        | exact cAlive
        | exact cNewP 100 (by decide)
        | exact fuN1
        | exact fuN2 n h1
        | exact hL
        | exact cUsed dd
        | exact List.cons_ne_nil _ _
        | exact i64_small (by omega)
        | (simp; omega))

theorem fuY (n c : Int) (dd : Dv) (i : Nat) (h1 : 0 ≤ n) (h2 : n ≤ 50) (h3 : 0 ≤ c) (h4 : c ≤ 60) (hw : c < n) (hu : dd.used = c + 1) (hL : LoopC Try.prog 0 96 fuB (fuS n c (⟨100, 1, false, [(⟨#[97]⟩, ⟨[49], 0⟩)], n⟩ : Dv) 0) (.exit 0) (fuS n c dd i)) : Contract Try.prog 3 [I n, I c] [] (Bo true) [] := by
  exact Contract.cast (by
    first
      | rfl) (by
    first
      | rfl) (fuY_0 n c dd i h1 h2 h3 h4 hw hu hL )

theorem fuZ_0 (n c : Int) (dd : Dv) (i : Nat) (h1 : 0 ≤ n) (h2 : n ≤ 50) (h3 : 0 ≤ c) (h4 : c ≤ 60) (hw : n ≤ c) (hu : dd.used = n + 1) (hL : LoopC Try.prog 0 96 fuB (fuS n c (⟨100, 1, false, [(⟨#[97]⟩, ⟨[49], 0⟩)], n⟩ : Dv) 0) (.exit 0) (fuS n c dd i)) : Contract Try.prog 3 [I n, I c] [] (Bo true) ([]) :=
  vcP hmix [.reg 1 [(0, [.call [] [] (Bo true) []], none)], .reg 2 [(4, [], some false), (8, [], some false), (12, [], some false), (16, [], some false)], .reg 4 [(0, [.call [] [] (.ptr 0 0 0 0) [some ((⟨100, 0, true, [], -1⟩ : Dv).box 1), some (⟨100, 0, true, [], -1⟩ : Dv).map]], none)], .reg 7 [(3, [.call [801001, 801002] [] (I 0) [some ((⟨100, 1, false, [(⟨#[97]⟩, ⟨[49], 0⟩)], -1⟩ : Dv).box 2), none, some (⟨100, 1, false, [(⟨#[97]⟩, ⟨[49], 0⟩)], -1⟩ : Dv).map]], none)], .reg 8 [(2, [.call [801001, 1404001] [] (.tup []) [some ((⟨100, 1, false, [(⟨#[97]⟩, ⟨[49], 0⟩)], n⟩ : Dv).box 1), some (⟨100, 1, false, [(⟨#[97]⟩, ⟨[49], 0⟩)], n⟩ : Dv).map]], none)], .cut ⟨[0, 1, 6, 7], [(801001, 801001), (1404001, 901)], []⟩ (.exit 0) (fuS n c dd i), .reg 17 [(2, [], some false)], .reg 19 [(1, [.call [801001, 901] [] (I dd.used) [some (dd.box 1), some dd.map]], none), (3, [.be (I (n + 1))], none), (4, [], some true)]] [] [
      Contract Try.prog (8 : Nat) [] [] (Bo true) [],
      decide (n < (0 : Int)) = false,
      decide (n > (50 : Int)) = false,
      decide (c < (0 : Int)) = false,
      decide (c > (60 : Int)) = false,
      Contract Try.prog (9 : Nat) [I (100 : Int)] [] (V.ptr (0 : Nat) (0 : Nat) (0 : Nat) (0 : Nat)) [some (Obj.box [I (100 : Int), I (0 : Int), V.val (Value.int IntKind.u32 (0 : Int)), V.val (Value.int IntKind.i32 (0 : Int)), V.val (Value.int IntKind.u32 (0 : Int)), V.mref (1 : Nat), I (-1 : Int)]), some (Obj.nest (Nest.mp true (mE [])) [])],
      [[V.val (Value.int IntKind.u8 (49 : Int))]] ≠ [],
      Contract Try.prog (10 : Nat) [V.ptr (0 : Nat) (0 : Nat) (0 : Nat) (0 : Nat), Sg { data := { toList := [(97 : UInt8)] } }, V.sl (1 : Nat) [[V.val (Value.int IntKind.u8 (49 : Int))]]] [Obj.box [I (100 : Int), I (0 : Int), V.val (Value.int IntKind.u32 (0 : Int)), V.val (Value.int IntKind.i32 (0 : Int)), V.val (Value.int IntKind.u32 (0 : Int)), V.mref (1 : Nat), I (-1 : Int)], Obj.nest (Nest.mp true (mE [])) []] (I (0 : Int)) [some (Obj.box [I (100 : Int), I (1 : Int), V.val (Value.int IntKind.u32 (1 : Int)), V.val (Value.int IntKind.i32 (0 : Int)), V.val (Value.int IntKind.u32 (0 : Int)), V.mref (2 : Nat), I (-1 : Int)]), none, some (Obj.nest (Nest.mp false (mE [({ data := { toList := [(97 : UInt8)] } }, { bs := [(49 : UInt8)], sure := (0 : Int) })])) [])],
      Contract Try.prog (11 : Nat) [V.ptr (0 : Nat) (0 : Nat) (0 : Nat) (0 : Nat), I n] [Obj.box [I (100 : Int), I (1 : Int), V.val (Value.int IntKind.u32 (1 : Int)), V.val (Value.int IntKind.i32 (0 : Int)), V.val (Value.int IntKind.u32 (0 : Int)), V.mref (1 : Nat), I (-1 : Int)], Obj.nest (Nest.mp false (mE [({ data := { toList := [(97 : UInt8)] } }, { bs := [(49 : UInt8)], sure := (0 : Int) })])) []] (V.tup []) [some (Obj.box [I (100 : Int), I (1 : Int), V.val (Value.int IntKind.u32 (1 : Int)), V.val (Value.int IntKind.i32 (0 : Int)), V.val (Value.int IntKind.u32 (0 : Int)), V.mref (1 : Nat), I n]), some (Obj.nest (Nest.mp false (mE [({ data := { toList := [(97 : UInt8)] } }, { bs := [(49 : UInt8)], sure := (0 : Int) })])) [])],
      LoopC Try.prog (0 : Nat) (96 : Nat) fuB { env := [((0 : Nat), I n), ((1 : Nat), I c), ((6 : Nat), V.ptr (801001 : Nat) (0 : Nat) (0 : Nat) (0 : Nat)), ((7 : Nat), I (0 : Int))], st := [((801001 : Nat), Obj.box [I (100 : Int), I (1 : Int), V.val (Value.int IntKind.u32 (1 : Int)), V.val (Value.int IntKind.i32 (0 : Int)), V.val (Value.int IntKind.u32 (0 : Int)), V.mref (901 : Nat), I n]), ((901 : Nat), Obj.nest (Nest.mp false (mE [({ data := { toList := [(97 : UInt8)] } }, { bs := [(49 : UInt8)], sure := (0 : Int) })])) [])], ids := [(801001 : Nat), (901 : Nat)] } (Ex.exit (0 : Nat)) { env := [((0 : Nat), I n), ((1 : Nat), I c), ((6 : Nat), V.ptr (801001 : Nat) (0 : Nat) (0 : Nat) (0 : Nat)), ((7 : Nat), I (Int.ofNat i))], st := [((801001 : Nat), Obj.box [I (Dv.room dd), I (Dv.used dd), V.val (Value.int IntKind.u32 (bif Dv.nl dd then (0 : Int) else (1 : Int))), V.val (Value.int IntKind.i32 (0 : Int)), V.val (Value.int IntKind.u32 (0 : Int)), V.mref (901 : Nat), I (Dv.fuse dd)]), ((901 : Nat), Obj.nest (Nest.mp (Dv.nl dd) (mE (Dv.fs dd))) [])], ids := [(801001 : Nat), (901 : Nat)] },
      decide (c < n) = false,
      Contract Try.prog (14 : Nat) [V.ptr (0 : Nat) (0 : Nat) (0 : Nat) (0 : Nat)] [Obj.box [I (Dv.room dd), I (Dv.used dd), V.val (Value.int IntKind.u32 (bif Dv.nl dd then (0 : Int) else (1 : Int))), V.val (Value.int IntKind.i32 (0 : Int)), V.val (Value.int IntKind.u32 (0 : Int)), V.mref (1 : Nat), I (Dv.fuse dd)], Obj.nest (Nest.mp (Dv.nl dd) (mE (Dv.fs dd))) []] (I (Dv.used dd)) [some (Obj.box [I (Dv.room dd), I (Dv.used dd), V.val (Value.int IntKind.u32 (bif Dv.nl dd then (0 : Int) else (1 : Int))), V.val (Value.int IntKind.i32 (0 : Int)), V.val (Value.int IntKind.u32 (0 : Int)), V.mref (1 : Nat), I (Dv.fuse dd)]), some (Obj.nest (Nest.mp (Dv.nl dd) (mE (Dv.fs dd))) [])],
      IntKind.wrap IntKind.i64 (n + (1 : Int)) = n + (1 : Int),
      (Dv.used dd == n + (1 : Int)) = true] (by kernel_rfl)
    (by
      simp only [allP]
      and_intros <;> first
        | exact cAlive
        | exact cNewP 100 (by decide)
        | exact fuN1
        | exact fuN2 n h1
        | exact hL
        | exact cUsed dd
        | exact List.cons_ne_nil _ _
        | exact i64_small (by omega)
        | (simp; omega))

theorem fuZ (n c : Int) (dd : Dv) (i : Nat) (h1 : 0 ≤ n) (h2 : n ≤ 50) (h3 : 0 ≤ c) (h4 : c ≤ 60) (hw : n ≤ c) (hu : dd.used = n + 1) (hL : LoopC Try.prog 0 96 fuB (fuS n c (⟨100, 1, false, [(⟨#[97]⟩, ⟨[49], 0⟩)], n⟩ : Dv) 0) (.exit 0) (fuS n c dd i)) : Contract Try.prog 3 [I n, I c] [] (Bo true) [] := by
  exact Contract.cast (by
    first
      | rfl) (by
    first
      | rfl) (fuZ_0 n c dd i h1 h2 h3 h4 hw hu hL )

def fuD (n i : Nat) : Dv := ⟨100, ((1 + min i n : Nat) : Int), false, [(⟨#[97]⟩, ⟨49 :: List.replicate (min i n) 50, 0⟩)], ((n - min i n : Nat) : Int)⟩
theorem fuD_ok {n i : Nat} (hn : n ≤ 50) : Ok (fuD n i) := by
  refine ⟨?_, by simp [fuD, Uniq], fun p hp => ?_, fun h => by simp [fuD] at h, ?_, ⟨by simp [fuD], by simp [fuD]⟩, fun p hp => ?_, ?_, by simp [fuD]⟩
  · simp [fuD, tot]; omega
  · simp only [fuD, List.mem_singleton] at hp; subst hp; simp; omega
  · simp only [fuD]; omega
  · simp only [fuD, List.mem_singleton] at hp; subst hp; show (⟨#[97]⟩ : ByteArray).size ≤ maxLen; decide
  · simp [fuD, tot]; omega
theorem fuD_tot {n i : Nat} : tot (fuD n i).fs = 1 + min i n := by simp [fuD, tot]; omega
theorem fuD_app {n i : Nat} (hn : n ≤ 50) : (fuD n i).append ⟨#[97]⟩ [50] = (fuD n (i + 1), if i < n then 0 else 5) := by
  unfold Dv.append
  by_cases h : i < n
  · have e1 : min i n = i := by omega
    have e2 : min (i + 1) n = i + 1 := by omega
    rw [if_neg (by simp only [fuD, e1]; omega), if_neg sA_ne, if_neg (by simp only [fuD, e1, List.length_singleton]; omega), if_pos h]
    simp only [fuD, e1, e2, put, look, List.find?_cons, beq_self_eq_true, Option.map_some, Option.getD_some, if_true, Dv.went, List.cons_append, List.length_singleton, ← List.replicate_succ']
    have hb : decide ((((n - i : Nat) : Int)) > 0) = true := by simp; omega
    rw [hb, cond_true]
    have h1 : ((1 + i : Nat) : Int) + ((1 : Nat) : Int) = ((1 + (i + 1) : Nat) : Int) := by omega
    have h2 : ((n - i : Nat) : Int) - 1 = ((n - (i + 1) : Nat) : Int) := by omega
    rw [h1, h2]
  · have e1 : min i n = n := by omega
    have e2 : min (i + 1) n = n := by omega
    rw [if_pos (by simp only [fuD, e1]; omega), if_neg h]
    simp only [fuD, e1, e2]
theorem fuD_sync {n i : Nat} : (fuD n i).sync ⟨#[110, 111, 98, 111, 100, 121]⟩ = (fuD n i, if i < n then 4 else 5) := by
  unfold Dv.sync
  have hl : look (fuD n i).fs ⟨#[110, 111, 98, 111, 100, 121]⟩ = none := rfl
  rw [hl]
  by_cases h : i < n
  · rw [if_neg (by simp only [fuD]; omega), if_pos h]
  · rw [if_pos (by simp only [fuD]; omega), if_neg h]
theorem fuLoop (n c : Nat) (hn : n ≤ 50) (hc : c ≤ 60) : ∀ (m i : Nat), i + m = c → LoopC Try.prog 0 96 fuB (fuS n c (fuD n i) i) (.exit 0) (fuS n c (fuD n c) c)
  | 0, i, h => by
    have : i = c := by omega
    subst this
    exact LoopC.last (fuE n _ _ i (Int.le_refl _)) (by simp)
  | m + 1, i, h => by
    refine LoopC.next ?_ (fuLoop n c hn hc m (i + 1) (by omega))
    have ha := appC (fuD_app (i := i) hn) (fuD_ok hn) (by rw [fuD_tot]; simp; omega)
    have hs := cSync (fuD n (i + 1)) ⟨#[110, 111, 98, 111, 100, 121]⟩ (fuD_ok hn)
    rw [fuD_sync] at hs
    by_cases h1 : i + 1 < n
    · rw [if_pos (by omega)] at ha
      rw [if_pos h1] at hs
      exact fuP n c (fuD n i) (fuD n (i + 1)) i (by omega) (by omega) (by omega) ha hs
    · rw [if_neg h1] at hs
      by_cases h2 : i + 1 = n
      · rw [if_pos (by omega)] at ha
        exact fuQ n c (fuD n i) (fuD n (i + 1)) i (by omega) (by omega) (by omega) ha hs
      · rw [if_neg (by omega)] at ha
        exact fuR n c (fuD n i) (fuD n (i + 1)) i (by omega) (by omega) (by omega) ha hs
theorem cDeviceFuse (n c : Int) : Contract Try.prog 3 [I n, I c] [] (Bo true) [] := by
  by_cases h1 : n < 0
  · exact fuX0 n c h1
  by_cases h2 : 50 < n
  · exact fuX1 n c (by omega) h2
  by_cases h3 : c < 0
  · exact fuX2 n c (by omega) (by omega) h3
  by_cases h4 : 60 < c
  · exact fuX3 n c (by omega) (by omega) (by omega) h4
  obtain ⟨n, rfl⟩ : ∃ k : Nat, n = k := ⟨n.toNat, by omega⟩
  obtain ⟨c, rfl⟩ : ∃ k : Nat, c = k := ⟨c.toNat, by omega⟩
  have hl := fuLoop n c (by omega) (by omega) c 0 (by omega)
  have e0 : fuD n 0 = (⟨100, 1, false, [(⟨#[97]⟩, ⟨[49], 0⟩)], n⟩ : Dv) := by simp [fuD]
  rw [e0] at hl
  by_cases hw : c < n
  · exact fuY n c _ c (by omega) (by omega) (by omega) (by omega) (by omega) (by simp only [fuD]; omega) hl
  · exact fuZ n c _ c (by omega) (by omega) (by omega) (by omega) (by omega) (by simp only [fuD]; omega) hl

open Go.ChangeShapes Go.WideShapes Go.ChangeAt Go.RowKit
theorem own : ownKnob Try.prog.godebug = none := by kernel_rfl
theorem laidOut : laidOutB Try.prog = true := by kernel_rfl
theorem deviceFuse_lifted (os : Os) (started : os.Started) (H : Type) (enc : TypeId × Value → H) :
    ReturnsInHanded {} Try.checked os 3 .any (Rows.deviceFuseSpec.pre6 enc Try.prog Try.f3 Rows.deviceFuseRow.domain false) (Rows.deviceFuseSpec.post enc Try.prog Try.f3 false true false false) := by
  refine returnsInHanded_of_change (C := Try.checked) own started (by kernel_rfl) Try.func3
    (ChangeSpec.witness6 (enc := enc) (C := Try.checked) false ⟨#[], #[.int .i64 0, .int .i64 0], []⟩ 8 (by kernel_rfl) (by kernel_rfl) (by kernel_rfl) (by kernel_rfl)) ?_
  intro W base args ds gs before hval hW _ _
  refine row_of (P := Try.prog) (tb := 4) laidOut rfl (by kernel_rfl) (by kernel_rfl) (by kernel_rfl) Try.underlying4 (fun ds h => ?_) (fun us h => ?_) W base args ds gs before hval hW
  · match ds, h with
    | [_, _], _ => rfl
  · obtain ⟨u0, _, rfl, h0, u1, _, rfl, h1, rfl⟩ := h
    obtain ⟨n, rfl, hn⟩ := arg_int Try.underlying3 h0
    obtain ⟨c, rfl, hc⟩ := arg_int Try.underlying3 h1
    exact cDeviceFuse n c

theorem DeviceFuse_proved : Rows.DeviceFuseSaid :=
  OpenClaim.holds_of_wide 3 Try.f3 rfl rfl rfl rfl rfl rfl rfl ⟨rfl, rfl, rfl, rfl, rfl⟩ rfl rfl rfl rfl rfl (by kernel_rfl) Try.func3 (by kernel_rfl)
    (of_decide_eq_true (by kernel_rfl)) (by unfold Func.isWrapper; first | (rw [if_pos (by decide +kernel)]; kernel_rfl) | (rw [if_neg (by decide +kernel)]; exact ⟨rfl, rfl⟩))
    (fun os started H enc _ => deviceFuse_lifted os started H enc)
#print axioms DeviceFuse_proved
end Go.Proofs.Ythmhkgddohgoeaa
