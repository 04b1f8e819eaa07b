/- ShelfPlays: what is put, behind any row of calls. -/
import Derived.Test.YtinfjnnffmlpmaaGreatDoorShPlaysP5
import Derived.LaidMore
import Derived.SevenTiedAt
import Derived.OpenShut
import Derived.Stop.Joined
import Derived.Test.YtinfjnnffmlpmaaGreatDoorRows
import Derived.Test.YtinfjnnffmlpmaaGreatDoorCards
import Derived.Test.YtinfjnnffmlpmaaGreatDoorTie
namespace Go.Proofs.YtinfjnnffmlpmaaGreatDoor
open E
set_option maxRecDepth 100000
set_option linter.unusedVariables false
set_option linter.unusedSimpArgs false

theorem plX0_0 (R : Int) (l : List Ac) (n : ByteArray) (b : List UInt8) (k : Int) (hf : Contract Tryz.prog 5 [.sl 6 (l.map Ac.row)] [] (Bo false) []) : Contract Tryz.prog 3 [I R, .sl 6 (l.map Ac.row), .val (.string n), .sl 1 (b.map bR), I k] [] (Bo true) ([]) :=
  vcP hmix [.reg 1 [(0, [.call [] [] (Bo true) []], none)], .reg 2 [(4, [.call [] [] (Bo false) []], none)]] [] [
      Contract Tryz.prog (4 : Nat) [] [] (Bo true) [],
      Contract Tryz.prog (5 : Nat) [V.sl (6 : Nat) (List.map (fun a0 => [I (Ac.way a0), I (Ac.n a0), Sg (Ac.nm a0), Sg (Ac.to a0), V.sl (1 : Nat) (List.map bR (Ac.dat a0)), V.sl (1 : Nat) (List.map iR (Ac.pk a0))]) l)] [] (Bo false) []] (by kernel_rfl)
    (by
      simp only [allP]
      and_intros <;> first
        | exact cAlive
        | exact hf)

theorem plX0 (R : Int) (l : List Ac) (n : ByteArray) (b : List UInt8) (k : Int) (hf : Contract Tryz.prog 5 [.sl 6 (l.map Ac.row)] [] (Bo false) []) : Contract Tryz.prog 3 [I R, .sl 6 (l.map Ac.row), .val (.string n), .sl 1 (b.map bR), I k] [] (Bo true) [] := by
  exact Contract.cast (by
    first
      | rfl) (by
    first
      | rfl) (plX0_0 R l n b k hf )

theorem plX1_0 (R : Int) (l : List Ac) (n : ByteArray) (b : List UInt8) (k : Int) (hf : Contract Tryz.prog 5 [.sl 6 (l.map Ac.row)] [] (Bo true) []) (h1 : 20 < n.size) : Contract Tryz.prog 3 [I R, .sl 6 (l.map Ac.row), .val (.string n), .sl 1 (b.map bR), I k] [] (Bo true) ([]) :=
  vcP hmix [.reg 1 [(0, [.call [] [] (Bo true) []], none)], .reg 2 [(4, [.call [] [] (Bo true) []], none), (10, [], some true)]] [] [
      Contract Tryz.prog (4 : Nat) [] [] (Bo true) [],
      Contract Tryz.prog (5 : Nat) [V.sl (6 : Nat) (List.map (fun a0 => [I (Ac.way a0), I (Ac.n a0), Sg (Ac.nm a0), Sg (Ac.to a0), V.sl (1 : Nat) (List.map bR (Ac.dat a0)), V.sl (1 : Nat) (List.map iR (Ac.pk a0))]) l)] [] (Bo true) [],
      decide (Int.ofNat (ByteArray.size n) > (20 : Int)) = true] (by kernel_rfl)
    (by
      simp only [allP]
      and_intros <;> first
        | exact cAlive
        | exact hf
        | (simp; omega))

theorem plX1 (R : Int) (l : List Ac) (n : ByteArray) (b : List UInt8) (k : Int) (hf : Contract Tryz.prog 5 [.sl 6 (l.map Ac.row)] [] (Bo true) []) (h1 : 20 < n.size) : Contract Tryz.prog 3 [I R, .sl 6 (l.map Ac.row), .val (.string n), .sl 1 (b.map bR), I k] [] (Bo true) [] := by
  exact Contract.cast (by
    first
      | rfl) (by
    first
      | rfl) (plX1_0 R l n b k hf h1 )

theorem plX2_0 (R : Int) (l : List Ac) (n : ByteArray) (b : List UInt8) (k : Int) (hf : Contract Tryz.prog 5 [.sl 6 (l.map Ac.row)] [] (Bo true) []) (h1 : n.size ≤ 20) (h2 : 300 < b.length) : Contract Tryz.prog 3 [I R, .sl 6 (l.map Ac.row), .val (.string n), .sl 1 (b.map bR), I k] [] (Bo true) ([]) :=
  vcP hmix [.reg 1 [(0, [.call [] [] (Bo true) []], none)], .reg 2 [(4, [.call [] [] (Bo true) []], none), (10, [], some false), (15, [], some true)]] [] [
      Contract Tryz.prog (4 : Nat) [] [] (Bo true) [],
      Contract Tryz.prog (5 : Nat) [V.sl (6 : Nat) (List.map (fun a0 => [I (Ac.way a0), I (Ac.n a0), Sg (Ac.nm a0), Sg (Ac.to a0), V.sl (1 : Nat) (List.map bR (Ac.dat a0)), V.sl (1 : Nat) (List.map iR (Ac.pk a0))]) l)] [] (Bo true) [],
      decide (Int.ofNat (ByteArray.size n) > (20 : Int)) = false,
      decide (Int.ofNat (List.length (List.map bR b)) > (300 : Int)) = true] (by kernel_rfl)
    (by
      simp only [allP]
      and_intros <;> first
        | exact cAlive
        | exact hf
        | (simp; omega))

theorem plX2 (R : Int) (l : List Ac) (n : ByteArray) (b : List UInt8) (k : Int) (hf : Contract Tryz.prog 5 [.sl 6 (l.map Ac.row)] [] (Bo true) []) (h1 : n.size ≤ 20) (h2 : 300 < b.length) : Contract Tryz.prog 3 [I R, .sl 6 (l.map Ac.row), .val (.string n), .sl 1 (b.map bR), I k] [] (Bo true) [] := by
  exact Contract.cast (by
    first
      | rfl) (by
    first
      | rfl) (plX2_0 R l n b k hf h1 h2 )

theorem plF_0 (R : Int) (l : List Ac) (n : ByteArray) (b : List UInt8) (k e : Int) (d d2 d3 : Dv) (r r2 r3 : Rv) (fs : Fs) (hf : Contract Tryz.prog 5 [.sl 6 (l.map Ac.row)] [] (Bo true) []) (g1 : n.size ≤ 20) (g2 : b.length ≤ 300) (hL : LoopC Tryz.prog 0 98 plB (plS l n b k (newD R) (⟨capI R 0 9223372036854775807, -1, []⟩ : Rv) 0) (.exit 0) (plS l n b k d r l.length)) (h1 : Contract Tryz.prog 10 [.ptr 0 0 0 0, I k] [d.box 1, d.map] (.tup []) [some (d2.box 1), some d2.map]) (h2 : Contract Tryz.prog 11 [.ptr 0 0 0 0, I k] [r.box 1, r.arr] (.tup []) [some (r2.box 1), some r2.arr]) (h3 : Contract Tryz.prog 12 [.ptr 0 0 0 0, .val (.string n), .sl 1 (b.map bR)] [d2.box 1, d2.map] (I e) [some (d3.box 2), none, some d3.map]) (h4 : Contract Tryz.prog 13 [.ptr 0 0 0 0, .val (.string n), .sl 1 (b.map bR)] [r2.box 1, r2.arr] (I e) [some (r3.box 2), none, some r3.arr]) (h5 : Contract Tryz.prog 16 [.ptr 0 0 0 0] [d3.box 1, d3.map] (.sl 3 (fs.map fR)) [some (d3.box 1), some d3.map]) (h6 : Contract Tryz.prog 17 [.ptr 0 0 0 0] [r3.box 1, r3.arr] (.sl 3 (fs.map fR)) [some (r3.box 1), some r3.arr]) (h7 : Contract Tryz.prog 15 [.sl 3 (fs.map fR), .sl 3 (fs.map fR)] [] (Bo true) []) : Contract Tryz.prog 3 [I R, .sl 6 (l.map Ac.row), .val (.string n), .sl 1 (b.map bR), I k] [] (Bo true) ([]) :=
  vcP hmix [.reg 1 [(0, [.call [] [] (Bo true) []], none)], .reg 2 [(4, [.call [] [] (Bo true) []], none), (10, [], some false), (15, [], some false)], .reg 4 [(1, [.call [] [] (.ptr 0 0 0 0) [some ((newD R).box 1), some (newD R).map]], none)], .reg 5 [(1, [.call [] [] (.ptr 0 0 0 0) [some ((⟨capI R 0 9223372036854775807, -1, []⟩ : Rv).box 1), some (⟨capI R 0 9223372036854775807, -1, []⟩ : Rv).arr]], none)], .cut ⟨[1, 2, 3, 4, 12, 13, 14], [(802001, 802001), (802002, 901), (1002001, 1002001), (1002002, 903)], []⟩ (.exit 0) (plS l n b k d r l.length), .reg 13 [(2, [.call [802001, 901] [] (.tup []) [some (d2.box 1), some d2.map]], none)], .reg 14 [(2, [.call [1002001, 903] [] (.tup []) [some (r2.box 1), some r2.arr]], none)], .reg 15 [(4, [.call [802001, 901] [] (I e) [some (d3.box 2), none, some d3.map]], none)], .reg 16 [(3, [.call [1002001, 903] [] (I e) [some (r3.box 2), none, some r3.arr]], none)], .reg 17 [(1, [.call [] [] (I e) []], none), (3, [], some true), (6, [.call [802001, 3005001] [] (.sl 3 (fs.map fR)) [some (d3.box 1), some d3.map]], none), (8, [.call [1002001, 3204001] [] (.sl 3 (fs.map fR)) [some (r3.box 1), some r3.arr]], none), (9, [.call [] [] (Bo true) []], none)]] [] [
      Contract Tryz.prog (4 : Nat) [] [] (Bo true) [],
      Contract Tryz.prog (5 : Nat) [V.sl (6 : Nat) (List.map (fun a0 => [I (Ac.way a0), I (Ac.n a0), Sg (Ac.nm a0), Sg (Ac.to a0), V.sl (1 : Nat) (List.map bR (Ac.dat a0)), V.sl (1 : Nat) (List.map iR (Ac.pk a0))]) l)] [] (Bo true) [],
      decide (Int.ofNat (ByteArray.size n) > (20 : Int)) = false,
      decide (Int.ofNat (List.length (List.map bR b)) > (300 : Int)) = false,
      Contract Tryz.prog (6 : Nat) [I R] [] (V.ptr (0 : Nat) (0 : Nat) (0 : Nat) (0 : Nat)) [some (Obj.box [I (if (0 : Int) < R then R else (0 : Int)), I (0 : Int), V.val (Value.int IntKind.u32 (0 : Int)), V.val (Value.int IntKind.i32 (0 : Int)), V.val (Value.int IntKind.u32 (0 : Int)), V.mref (1 : Nat), I (-1 : Int)]), some (Obj.nest (Nest.mp true (mE [])) [])],
      Contract Tryz.prog (7 : Nat) [I R] [] (V.ptr (0 : Nat) (0 : Nat) (0 : Nat) (0 : Nat)) [some (Obj.box [I (capI R (0 : Int) (9223372036854775807 : Int)), I (-1 : Int), V.own (1 : Nat)]), some (Obj.arr (3 : Nat) [])],
      LoopC Tryz.prog (0 : Nat) (98 : Nat) plB { env := [((1 : Nat), V.sl (6 : Nat) (List.map (fun a0 => [I (Ac.way a0), I (Ac.n a0), Sg (Ac.nm a0), Sg (Ac.to a0), V.sl (1 : Nat) (List.map bR (Ac.dat a0)), V.sl (1 : Nat) (List.map iR (Ac.pk a0))]) l)), ((2 : Nat), Sg n), ((3 : Nat), V.sl (1 : Nat) (List.map bR b)), ((4 : Nat), I k), ((12 : Nat), V.ptr (802001 : Nat) (0 : Nat) (0 : Nat) (0 : Nat)), ((13 : Nat), V.ptr (1002001 : Nat) (0 : Nat) (0 : Nat) (0 : Nat)), ((14 : Nat), I (0 : Int))], st := [((802001 : Nat), Obj.box [I (if (0 : Int) < R then R else (0 : Int)), I (0 : Int), V.val (Value.int IntKind.u32 (0 : Int)), V.val (Value.int IntKind.i32 (0 : Int)), V.val (Value.int IntKind.u32 (0 : Int)), V.mref (901 : Nat), I (-1 : Int)]), ((901 : Nat), Obj.nest (Nest.mp true (mE [])) []), ((1002001 : Nat), Obj.box [I (capI R (0 : Int) (9223372036854775807 : Int)), I (-1 : Int), V.own (903 : Nat)]), ((903 : Nat), Obj.arr (3 : Nat) [])], ids := [(802001 : Nat), (901 : Nat), (1002001 : Nat), (903 : Nat)] } (Ex.exit (0 : Nat)) { env := [((1 : Nat), V.sl (6 : Nat) (List.map (fun a0 => [I (Ac.way a0), I (Ac.n a0), Sg (Ac.nm a0), Sg (Ac.to a0), V.sl (1 : Nat) (List.map bR (Ac.dat a0)), V.sl (1 : Nat) (List.map iR (Ac.pk a0))]) l)), ((2 : Nat), Sg n), ((3 : Nat), V.sl (1 : Nat) (List.map bR b)), ((4 : Nat), I k), ((12 : Nat), V.ptr (802001 : Nat) (0 : Nat) (0 : Nat) (0 : Nat)), ((13 : Nat), V.ptr (1002001 : Nat) (0 : Nat) (0 : Nat) (0 : Nat)), ((14 : Nat), I (Int.ofNat (List.length l)))], st := [((802001 : Nat), Obj.box [I (Dv.room d), I (Dv.used d), V.val (Value.int IntKind.u32 (bif Dv.nl d then (0 : Int) else (1 : Int))), V.val (Value.int IntKind.i32 (0 : Int)), V.val (Value.int IntKind.u32 (0 : Int)), V.mref (901 : Nat), I (Dv.fuse d)]), ((901 : Nat), Obj.nest (Nest.mp (Dv.nl d) (mE (Dv.fs d))) []), ((1002001 : Nat), Obj.box [I (Rv.room r), I (Rv.fuse r), V.own (903 : Nat)]), ((903 : Nat), Obj.arr (3 : Nat) (List.map fR (Rv.F r)))], ids := [(802001 : Nat), (901 : Nat), (1002001 : Nat), (903 : Nat)] },
      Contract Tryz.prog (10 : Nat) [V.ptr (0 : Nat) (0 : Nat) (0 : Nat) (0 : Nat), I k] [Obj.box [I (Dv.room d), I (Dv.used d), V.val (Value.int IntKind.u32 (bif Dv.nl d then (0 : Int) else (1 : Int))), V.val (Value.int IntKind.i32 (0 : Int)), V.val (Value.int IntKind.u32 (0 : Int)), V.mref (1 : Nat), I (Dv.fuse d)], Obj.nest (Nest.mp (Dv.nl d) (mE (Dv.fs d))) []] (V.tup []) [some (Obj.box [I (Dv.room d2), I (Dv.used d2), V.val (Value.int IntKind.u32 (bif Dv.nl d2 then (0 : Int) else (1 : Int))), V.val (Value.int IntKind.i32 (0 : Int)), V.val (Value.int IntKind.u32 (0 : Int)), V.mref (1 : Nat), I (Dv.fuse d2)]), some (Obj.nest (Nest.mp (Dv.nl d2) (mE (Dv.fs d2))) [])],
      Contract Tryz.prog (11 : Nat) [V.ptr (0 : Nat) (0 : Nat) (0 : Nat) (0 : Nat), I k] [Obj.box [I (Rv.room r), I (Rv.fuse r), V.own (1 : Nat)], Obj.arr (3 : Nat) (List.map fR (Rv.F r))] (V.tup []) [some (Obj.box [I (Rv.room r2), I (Rv.fuse r2), V.own (1 : Nat)]), some (Obj.arr (3 : Nat) (List.map fR (Rv.F r2)))],
      List.length (List.map bR b) * (1 : Nat) ≤ (140737488355328 : Nat),
      Contract Tryz.prog (12 : Nat) [V.ptr (0 : Nat) (0 : Nat) (0 : Nat) (0 : Nat), Sg n, V.sl (1 : Nat) (List.map bR b)] [Obj.box [I (Dv.room d2), I (Dv.used d2), V.val (Value.int IntKind.u32 (bif Dv.nl d2 then (0 : Int) else (1 : Int))), V.val (Value.int IntKind.i32 (0 : Int)), V.val (Value.int IntKind.u32 (0 : Int)), V.mref (1 : Nat), I (Dv.fuse d2)], Obj.nest (Nest.mp (Dv.nl d2) (mE (Dv.fs d2))) []] (I e) [some (Obj.box [I (Dv.room d3), I (Dv.used d3), V.val (Value.int IntKind.u32 (bif Dv.nl d3 then (0 : Int) else (1 : Int))), V.val (Value.int IntKind.i32 (0 : Int)), V.val (Value.int IntKind.u32 (0 : Int)), V.mref (2 : Nat), I (Dv.fuse d3)]), none, some (Obj.nest (Nest.mp (Dv.nl d3) (mE (Dv.fs d3))) [])],
      true = true,
      true = true,
      ∀ (c0 : Inn), List.Mem c0 (List.map (fun x1 => Prod.snd x1) (mE (Dv.fs d3))) → Inn.flat c0,
      Contract Tryz.prog (13 : Nat) [V.ptr (0 : Nat) (0 : Nat) (0 : Nat) (0 : Nat), Sg n, V.sl (1 : Nat) (List.map bR b)] [Obj.box [I (Rv.room r2), I (Rv.fuse r2), V.own (1 : Nat)], Obj.arr (3 : Nat) (List.map fR (Rv.F r2))] (I e) [some (Obj.box [I (Rv.room r3), I (Rv.fuse r3), V.own (2 : Nat)]), none, some (Obj.arr (3 : Nat) (List.map fR (Rv.F r3)))],
      Contract Tryz.prog (14 : Nat) [I e] [] (I e) [],
      (e == e) = true,
      Contract Tryz.prog (16 : Nat) [V.ptr (0 : Nat) (0 : Nat) (0 : Nat) (0 : Nat)] [Obj.box [I (Dv.room d3), I (Dv.used d3), V.val (Value.int IntKind.u32 (bif Dv.nl d3 then (0 : Int) else (1 : Int))), V.val (Value.int IntKind.i32 (0 : Int)), V.val (Value.int IntKind.u32 (0 : Int)), V.mref (1 : Nat), I (Dv.fuse d3)], Obj.nest (Nest.mp (Dv.nl d3) (mE (Dv.fs d3))) []] (V.sl (3 : Nat) (List.map fR fs)) [some (Obj.box [I (Dv.room d3), I (Dv.used d3), V.val (Value.int IntKind.u32 (bif Dv.nl d3 then (0 : Int) else (1 : Int))), V.val (Value.int IntKind.i32 (0 : Int)), V.val (Value.int IntKind.u32 (0 : Int)), V.mref (1 : Nat), I (Dv.fuse d3)]), some (Obj.nest (Nest.mp (Dv.nl d3) (mE (Dv.fs d3))) [])],
      Contract Tryz.prog (17 : Nat) [V.ptr (0 : Nat) (0 : Nat) (0 : Nat) (0 : Nat)] [Obj.box [I (Rv.room r3), I (Rv.fuse r3), V.own (1 : Nat)], Obj.arr (3 : Nat) (List.map fR (Rv.F r3))] (V.sl (3 : Nat) (List.map fR fs)) [some (Obj.box [I (Rv.room r3), I (Rv.fuse r3), V.own (1 : Nat)]), some (Obj.arr (3 : Nat) (List.map fR (Rv.F r3)))],
      Contract Tryz.prog (15 : Nat) [V.sl (3 : Nat) (List.map fR fs), V.sl (3 : Nat) (List.map fR fs)] [] (Bo true) []] (by kernel_rfl)
    (by
      simp only [allP]
      and_intros <;> first
        | omega
        | exact cAlive
        | exact hf
        | exact cNew R
        | exact cRNew R
        | exact hL
        | exact h1
        | exact h2
        | exact h3
        | exact h4
        | exact cNum e
        | exact h5
        | exact h6
        | exact mE_flat _
        | (simp; omega)
        | (simp; done))

theorem plF (R : Int) (l : List Ac) (n : ByteArray) (b : List UInt8) (k e : Int) (d d2 d3 : Dv) (r r2 r3 : Rv) (fs : Fs) (hf : Contract Tryz.prog 5 [.sl 6 (l.map Ac.row)] [] (Bo true) []) (g1 : n.size ≤ 20) (g2 : b.length ≤ 300) (hL : LoopC Tryz.prog 0 98 plB (plS l n b k (newD R) (⟨capI R 0 9223372036854775807, -1, []⟩ : Rv) 0) (.exit 0) (plS l n b k d r l.length)) (h1 : Contract Tryz.prog 10 [.ptr 0 0 0 0, I k] [d.box 1, d.map] (.tup []) [some (d2.box 1), some d2.map]) (h2 : Contract Tryz.prog 11 [.ptr 0 0 0 0, I k] [r.box 1, r.arr] (.tup []) [some (r2.box 1), some r2.arr]) (h3 : Contract Tryz.prog 12 [.ptr 0 0 0 0, .val (.string n), .sl 1 (b.map bR)] [d2.box 1, d2.map] (I e) [some (d3.box 2), none, some d3.map]) (h4 : Contract Tryz.prog 13 [.ptr 0 0 0 0, .val (.string n), .sl 1 (b.map bR)] [r2.box 1, r2.arr] (I e) [some (r3.box 2), none, some r3.arr]) (h5 : Contract Tryz.prog 16 [.ptr 0 0 0 0] [d3.box 1, d3.map] (.sl 3 (fs.map fR)) [some (d3.box 1), some d3.map]) (h6 : Contract Tryz.prog 17 [.ptr 0 0 0 0] [r3.box 1, r3.arr] (.sl 3 (fs.map fR)) [some (r3.box 1), some r3.arr]) (h7 : Contract Tryz.prog 15 [.sl 3 (fs.map fR), .sl 3 (fs.map fR)] [] (Bo true) []) : Contract Tryz.prog 3 [I R, .sl 6 (l.map Ac.row), .val (.string n), .sl 1 (b.map bR), I k] [] (Bo true) [] := by
  exact Contract.cast (by
    first
      | rfl) (by
    first
      | rfl) (plF_0 R l n b k e d d2 d3 r r2 r3 fs hf g1 g2 hL h1 h2 h3 h4 h5 h6 h7 )

theorem cShelfPlays (R : Int) (hR : R ≤ 9223372036854775807) (l : List Ac) (hl : l.length ≤ 9223372036854775807) (n : ByteArray) (b : List UInt8) (k : Int) (hk : k ≤ 9223372036854775807) : Contract Tryz.prog 3 [I R, .sl 6 (l.map Ac.row), .val (.string n), .sl 1 (b.map bR), I k] [] (Bo true) [] := by
  obtain ⟨q, hb, hb2⟩ := cFew l hl
  cases q with
  | false => exact plX0 R l n b k hb
  | true =>
    by_cases g1 : 20 < n.size
    · exact plX1 R l n b k hb g1
    by_cases g2 : 300 < b.length
    · exact plX2 R l n b k hb (by omega) g2
    obtain ⟨h80, hok⟩ := hb2 rfl
    have e0 : newD R = ⟨capI R 0 9223372036854775807, 0, true, [], -1⟩ := by
      unfold newD capI
      by_cases h : 0 < R
      · rw [if_pos h, show decide (R < 0) = false by simp; omega, show decide (R > 9223372036854775807) = false by simp; omega]; rfl
      · rw [if_neg h]
        by_cases h2 : R < 0
        · rw [show decide (R < 0) = true by simpa using h2]; rfl
        · have : R = 0 := by omega
          subst this; rfl
    have hc : 0 ≤ capI R 0 9223372036854775807 ∧ capI R 0 9223372036854775807 ≤ 9223372036854775807 := by
      unfold capI
      by_cases h2 : R < 0
      · rw [show decide (R < 0) = true by simpa using h2, cond_true]; decide
      · rw [show decide (R < 0) = false by simpa using h2, show decide (R > 9223372036854775807) = false by simp; omega, cond_false, cond_false]; omega
    have ok0 : Ok (newD R) := by rw [e0]; exact newP_ok hc.1 hc.2
    obtain ⟨d, r, q1, q2, q3⟩ := plLoop l n b k h80 hok l.length 0 (newD R) (⟨capI R 0 9223372036854775807, -1, []⟩ : Rv) (by omega) ⟨ok0, by rw [e0]; simp, by rw [e0]; simp⟩ ⟨by rw [e0], by rw [e0], by rw [e0], List.Pairwise.nil⟩
    have s2 := sz_fuse k hk q2
    have f1 := relFuse k hk q3
    have rel2 : Rel {d with fuse := if (-1 : Int) > k then -1 else k} (⟨r.room, if (-1 : Int) > k then -1 else k, r.F⟩ : Rv) := ⟨q3.room, rfl, q3.perm, q3.sd⟩
    have hu := s2.used
    have hw := s2.ok.used
    have hfw := s2.few
    have ht : tot ({d with fuse := if (-1 : Int) > k then -1 else k} : Dv).fs + b.length ≤ 1000000000 := by omega
    obtain ⟨r3, c3, rel3⟩ := relPut n b s2.ok rel2 ht (by omega) (by omega)
    have ok3 := put_ok (nm := n) (b := b) s2.ok ht (by omega) (by omega)
    have few3 := put_few n b s2.ok
    have hlen := rel3.len
    have h2 := cRFiles r3 (by omega)
    have h1 := cFiles _ ok3
    rw [← rel3.sd.eq rel3.perm ok3.uniq] at h1
    exact plF R l n b k _ d _ _ r _ r3 r3.F hb (by omega) (by omega) q1 (cFuse d k) f1 (cPut _ n b s2.ok ht (by omega) (by omega)) c3 h1 h2 (cSame r3.F (by omega))
open Go.ChangeShapes Go.WideShapes Go.ChangeAt Go.RowKit
theorem typed_all {α : Type} {f : α → List V} {rows : List (List V)} (h : ∀ r ∈ rows, ∃ e : α, r = f e) : ∃ es : List α, rows = es.map f := by
  induction rows with
  | nil => exact ⟨[], rfl⟩
  | cons r rows ih =>
    obtain ⟨e, rfl⟩ := h r (by simp)
    obtain ⟨es, rfl⟩ := ih fun r hr => h r (by simp [hr])
    exact ⟨e :: es, rfl⟩
theorem typed_allP {α : Type} {f : α → List V} {Q : α → Prop} {rows : List (List V)} (h : ∀ r ∈ rows, ∃ e : α, r = f e ∧ Q e) : ∃ es : List α, rows = es.map f ∧ ∀ e ∈ es, Q e := by
  induction rows with
  | nil => exact ⟨[], rfl, fun e he => by simp at he⟩
  | cons r rows ih =>
    obtain ⟨e, rfl, hq⟩ := h r (by simp)
    obtain ⟨es, rfl, hs⟩ := ih fun r hr => h r (by simp [hr])
    exact ⟨e :: es, rfl, fun x hx => by rcases List.mem_cons.1 hx with rfl | hx; exact hq; exact hs x hx⟩
theorem wfle {n : Int} (h : (Lit.int .i64 n).wf = true) : n ≤ 9223372036854775807 := by
  simp [Lit.wf, IntKind.min, IntKind.max, IntKind.signed, IntKind.bits] at h
  omega
theorem typed_b {r : List V} {B d : Nat} (h : Typed Tryz.prog B (d + 1) 5 r) : ∃ b : UInt8, r = bR b := by
  obtain ⟨n, rfl, hn⟩ := typed_int Tryz.underlying5 h
  simp [Lit.wf, IntKind.min, IntKind.max, IntKind.signed, IntKind.bits] at hn
  refine ⟨UInt8.ofNat n.toNat, ?_⟩
  have : ((UInt8.ofNat n.toNat).toNat : Int) = n := by simp; omega
  simp only [bR, intRow, this]
theorem typed_i {r : List V} {B d : Nat} (h : Typed Tryz.prog B (d + 1) 3 r) : ∃ n : Int, r = iR n := by
  obtain ⟨n, rfl, _⟩ := typed_int Tryz.underlying3 h
  exact ⟨n, rfl⟩
theorem typed_ac {r : List V} {B d : Nat} (h : Typed Tryz.prog B (d + 3) 34 r) : ∃ e : Ac, r = Ac.row e ∧ e.n ≤ 9223372036854775807 := by
  obtain ⟨_, _, rfl, h0x0, _, _, rfl, h0x1, _, _, rfl, h0x2, _, _, rfl, h0x3, _, _, rfl, h0x4, _, _, rfl, h0x5, rfl⟩ :
    catFields (Typed Tryz.prog B (d + 2)) [⟨"Way", 3, 0, false, "", "", 0⟩, ⟨"N", 3, 1, false, "", "", 8⟩, ⟨"Name", 9, 2, false, "", "", 16⟩, ⟨"To", 9, 3, false, "", "", 32⟩, ⟨"Data", 23, 4, false, "", "", 48⟩, ⟨"Picks", 32, 5, false, "", "", 72⟩] _ := typed_struct Tryz.underlying34 h
  obtain ⟨vw, rfl, _⟩ := typed_int Tryz.underlying3 h0x0
  obtain ⟨vn, rfl, hwn⟩ := typed_int Tryz.underlying3 h0x1
  obtain ⟨vm, rfl, _⟩ := typed_string Tryz.underlying9 h0x2
  obtain ⟨vt, rfl, _⟩ := typed_string Tryz.underlying9 h0x3
  obtain ⟨wd, rfl, _, qd⟩ := typed_slice Tryz.underlying23 h0x4
  obtain ⟨vd, rfl⟩ := typed_all (f := bR) fun r h => typed_b (qd r h)
  obtain ⟨wp, rfl, _, qp⟩ := typed_slice Tryz.underlying32 h0x5
  obtain ⟨vp, rfl⟩ := typed_all (f := iR) fun r h => typed_i (qp r h)
  exact ⟨Ac.mk vw vn vm vt vd vp, rfl, wfle hwn⟩
theorem own : ownKnob Tryz.prog.godebug = none := by kernel_rfl
theorem laidOut : laidOutB Tryz.prog = true := by kernel_rfl
def laidL : List (String × DataW Unit) := [("math/bits.deBruijn32tab", Rows.laid_math_bits_deBruijn32tab), ("math/bits.deBruijn64tab", Rows.laid_math_bits_deBruijn64tab), ("internal/strconv.uint64pow10", Rows.laid_internal_strconv_uint64pow10)]
/-- The door's own heap meets the condition. -/
theorem door_met (os : Os) (args : Array Value) : laidMetH Tryz.prog laidL ((World.doorLaid Tryz.prog 400 os).forCall (fun _ _ => 0) ⟨#[], args, []⟩).memory :=
  laidMetH_of_parts3 (fuel := 8) (laidMet_of_run' 8 (by kernel_rfl) (by kernel_rfl)) (by kernel_rfl) (by kernel_rfl)
theorem shelfPlays_lifted (os : Os) (started : os.Started) (H : Type) (enc : TypeId × Value → H) :
    ReturnsInHanded {} Tryz.checked os 3 .any (fun w args => (Rows.shelfPlaysSpec.pre enc Tryz.prog Tryz.f3 [] false w args ∧ laidMetH Tryz.prog laidL w) ∧ sizedMet enc Tryz.prog Tryz.f3 (OpenSpec.ofChange Rows.shelfPlaysSpec) false w args)
      (Rows.shelfPlaysSpec.post enc Tryz.prog Tryz.f3 false true false false) := by
  refine returnsInHanded_of_change_and (C := Tryz.checked) (X := fun w _ => laidMetH Tryz.prog laidL w) (fun _ _ _ hh h => h.of_heap hh) own started (by kernel_rfl) Tryz.func3
    (ChangeSpec.witness_shaped (enc := enc) (C := Tryz.checked) (os := os) (X := fun w _ => laidMetH Tryz.prog laidL w) false (World.doorLaid Tryz.prog 400 os) #[.int .i64 0, .slice none 0 0, .string ⟨#[]⟩, .slice none 0 0, .int .i64 0] 8 rfl (World.shaped_of_RefB (by kernel_rfl) (by kernel_rfl)) (by kernel_rfl) (by kernel_rfl) (by kernel_rfl) (door_met os _)) ?_
  intro W base args ds gs before hval hW _ _ _ _
  refine row_of (P := Tryz.prog) (tb := 4) laidOut rfl (by kernel_rfl) (by kernel_rfl) (by kernel_rfl) Tryz.underlying4 (fun ds h => ?_) (fun us h => ?_) W base args ds gs before hval hW
  · match ds, h with
    | [_, _, _, _, _], _ => rfl
  · obtain ⟨u0, _, rfl, h0, u1, _, rfl, h1, u2, _, rfl, h2, u3, _, rfl, h3, u4, _, rfl, h4, rfl⟩ := h
    obtain ⟨R, rfl, hR⟩ := arg_int Tryz.underlying3 h0
    obtain ⟨rows1, rfl, hb1, hr1⟩ := arg_slice Tryz.underlying22 h1
    obtain ⟨l, rfl, hq⟩ := typed_allP (f := Ac.row) fun r h => typed_ac (hr1 r h)
    obtain ⟨n, rfl, hn⟩ := arg_string Tryz.underlying9 h2
    obtain ⟨rows3, rfl, _, hr3⟩ := arg_slice Tryz.underlying23 h3
    obtain ⟨b, rfl⟩ := typed_all (f := bR) fun r h => typed_b (hr3 r h)
    obtain ⟨k, rfl, hk⟩ := arg_int Tryz.underlying3 h4
    exact cShelfPlays R (wfle hR) l (by rw [List.length_map] at hb1; exact hb1) n b k (wfle hk)

theorem shelfPlays_said : Rows.ShelfPlaysSaid :=
  OpenClaim.holds_of_wide 3 Tryz.f3 rfl rfl rfl rfl rfl rfl rfl ⟨rfl, rfl, rfl, rfl, rfl⟩ rfl rfl rfl rfl rfl (by kernel_rfl) Tryz.func3 (by kernel_rfl)
    (of_decide_eq_true (by kernel_rfl)) (by unfold Func.isWrapper; first | (rw [if_pos (by decide +kernel)]; kernel_rfl) | (rw [if_neg (by decide +kernel)]; exact ⟨rfl, rfl⟩))
    (fun os started H enc _ => shelfPlays_lifted os started H enc)
theorem ShelfPlaysCard_proved : Rows.ShelfPlaysCardSaid :=
  Claim7.holds_tied_plain_at .later [] [.data, .data, .data] true (true, "519e08abaa91a1cd4a5a181e73264fa19186860a2b96bcb7cc5675c483da78d9") false shelfPlays_said (fun _ h => by cases h) (by kernel_rfl) (fun _ h => by cases h) shelfPlays_row_tie rfl ⟨rfl, rfl⟩ (by kernel_rfl) rfl
    (fun f fn hf hfn => by
      obtain rfl : f = 3 := Option.some.inj ((show Tryz.prog.funcNamed "gleaning/gleaninglaw24.ShelfPlays" = some 3 by kernel_rfl).symm.trans hf) |>.symm
      obtain rfl : fn = Tryz.f3 := (Option.some.inj (Tryz.func3.symm.trans hfn)).symm
      exact ⟨by kernel_rfl, fun j t ht => by
        have hm : t ∈ Tryz.f3.params.toList := by simpa using Array.mem_of_getElem? ht
        have hall : (Tryz.f3.params.toList.all fun u => !Tryz.prog.wantsStandIn u) = true := by kernel_rfl
        exact (show Tryz.prog.wantsStandIn t = false by simpa using List.all_eq_true.1 hall t hm)⟩)
    (by kernel_rfl)
#print axioms ShelfPlaysCard_proved
end Go.Proofs.YtinfjnnffmlpmaaGreatDoor
