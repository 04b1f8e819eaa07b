/- ShelfWhole: what is put is there whole, or what was there before. -/
import Derived.Test.YtinfjnnffmlpmaaDoorShWholeP4
import Derived.LaidMore
import Derived.SevenTiedAt
import Derived.OpenShut
import Derived.Stop.Joined
import Derived.Test.YtinfjnnffmlpmaaDoorRows
import Derived.Test.YtinfjnnffmlpmaaDoorCards
import Derived.Test.YtinfjnnffmlpmaaDoorTie
namespace Go.Proofs.YtinfjnnffmlpmaaDoor
open E
set_option maxRecDepth 100000
set_option linter.unusedVariables false
set_option linter.unusedSimpArgs false

/-- A crash leaves what is sure. -/
theorem cut_sure {f : Fi} (h0 : 0 ≤ f.sure) (hs : f.sure = f.bs.length) (p : Option Int) : cut f p = f := by
  have hc := crN_bnd h0 (by omega) p
  have : crN f p = f.bs.length := by omega
  unfold cut
  rw [this]
  cases f with
  | mk b s =>
    simp only at hs
    simp [hs]
theorem crashL_sure (ps : List Int) {s : ByteArray} {f : Fi} (h0 : 0 ≤ f.sure) (hs : f.sure = f.bs.length) : ∀ (ns : List ByteArray) (i : Nat) (d : Dv), look d.fs s = some f → look (crashL ps ns i d).fs s = some f
  | [], _, _, h => h
  | t :: ns, i, d, h => by
    refine crashL_sure ps h0 hs ns (i + 1) _ ?_
    rw [crash1_look]
    split
    · rename_i e
      subst e
      rw [h]
      show some (cut f _) = some f
      rw [cut_sure h0 hs]
    · exact h
theorem crashL_none (ps : List Int) {s : ByteArray} : ∀ (ns : List ByteArray) (i : Nat) (d : Dv), look d.fs s = none → look (crashL ps ns i d).fs s = none
  | [], _, _, h => h
  | t :: ns, i, d, h => by
    refine crashL_none ps ns (i + 1) _ ?_
    rw [crash1_look]
    split
    · rename_i e
      subst e
      rw [h]
      rfl
    · exact h
theorem crash_sure {d : Dv} {s : ByteArray} {f : Fi} (ps : List Int) (h : look d.fs s = some f) (h0 : 0 ≤ f.sure) (hs : f.sure = f.bs.length) : look (d.crash ps).fs s = some f := crashL_sure ps h0 hs _ _ _ h
theorem crash_none {d : Dv} {s : ByteArray} (ps : List Int) (h : look d.fs s = none) : look (d.crash ps).fs s = none := crashL_none ps _ _ _ h
theorem whX0_0 (a b : List UInt8) (t : Bool) (e p : Int) (h1 : 200 < a.length) : Contract Tryd.prog 4 [.sl 1 (a.map bR), .sl 1 (b.map bR), Bo t, I e, I p] [] (Bo true) ([]) :=
  vcP hmix [.reg 1 [(0, [.call [] [] (Bo true) []], none)], .reg 2 [(5, [], some true)]] [] [
      Contract Tryd.prog (5 : Nat) [] [] (Bo true) [],
      decide (Int.ofNat (List.length (List.map bR a)) > (200 : Int)) = true] (by kernel_rfl)
    (by
      simp only [allP]
      and_intros <;> first
        | exact cAlive
        | (simp; omega))

theorem whX0 (a b : List UInt8) (t : Bool) (e p : Int) (h1 : 200 < a.length) : Contract Tryd.prog 4 [.sl 1 (a.map bR), .sl 1 (b.map bR), Bo t, I e, I p] [] (Bo true) [] := by
  exact Contract.cast (by
    first
      | rfl) (by
    first
      | rfl) (whX0_0 a b t e p h1 )

theorem whX1_0 (a b : List UInt8) (t : Bool) (e p : Int) (h1 : a.length ≤ 200) (h2 : 200 < b.length) : Contract Tryd.prog 4 [.sl 1 (a.map bR), .sl 1 (b.map bR), Bo t, I e, I p] [] (Bo true) ([]) :=
  vcP hmix [.reg 1 [(0, [.call [] [] (Bo true) []], none)], .reg 2 [(5, [], some false), (10, [], some true)]] [] [
      Contract Tryd.prog (5 : Nat) [] [] (Bo true) [],
      decide (Int.ofNat (List.length (List.map bR a)) > (200 : Int)) = false,
      decide (Int.ofNat (List.length (List.map bR b)) > (200 : Int)) = true] (by kernel_rfl)
    (by
      simp only [allP]
      and_intros <;> first
        | exact cAlive
        | (simp; omega))

theorem whX1 (a b : List UInt8) (t : Bool) (e p : Int) (h1 : a.length ≤ 200) (h2 : 200 < b.length) : Contract Tryd.prog 4 [.sl 1 (a.map bR), .sl 1 (b.map bR), Bo t, I e, I p] [] (Bo true) [] := by
  exact Contract.cast (by
    first
      | rfl) (by
    first
      | rfl) (whX1_0 a b t e p h1 h2 )

theorem whX2_0 (a b : List UInt8) (t : Bool) (e p : Int) (h1 : a.length ≤ 200) (h2 : b.length ≤ 200) (h3 : e < 0) : Contract Tryd.prog 4 [.sl 1 (a.map bR), .sl 1 (b.map bR), Bo t, I e, I p] [] (Bo true) ([]) :=
  vcP hmix [.reg 1 [(0, [.call [] [] (Bo true) []], none)], .reg 2 [(5, [], some false), (10, [], some false), (14, [], some true)]] [] [
      Contract Tryd.prog (5 : Nat) [] [] (Bo true) [],
      decide (Int.ofNat (List.length (List.map bR a)) > (200 : Int)) = false,
      decide (Int.ofNat (List.length (List.map bR b)) > (200 : Int)) = false,
      decide (e < (0 : Int)) = true] (by kernel_rfl)
    (by
      simp only [allP]
      and_intros <;> first
        | exact cAlive
        | (simp; omega))

theorem whX2 (a b : List UInt8) (t : Bool) (e p : Int) (h1 : a.length ≤ 200) (h2 : b.length ≤ 200) (h3 : e < 0) : Contract Tryd.prog 4 [.sl 1 (a.map bR), .sl 1 (b.map bR), Bo t, I e, I p] [] (Bo true) [] := by
  exact Contract.cast (by
    first
      | rfl) (by
    first
      | rfl) (whX2_0 a b t e p h1 h2 h3 )

theorem whX3_0 (a b : List UInt8) (t : Bool) (e p : Int) (h1 : a.length ≤ 200) (h2 : b.length ≤ 200) (h3 : 0 ≤ e) (h4 : 6 < e) : Contract Tryd.prog 4 [.sl 1 (a.map bR), .sl 1 (b.map bR), Bo t, I e, I p] [] (Bo true) ([]) :=
  vcP hmix [.reg 1 [(0, [.call [] [] (Bo true) []], none)], .reg 2 [(5, [], some false), (10, [], some false), (14, [], some false), (18, [], some true)]] [] [
      Contract Tryd.prog (5 : Nat) [] [] (Bo true) [],
      decide (Int.ofNat (List.length (List.map bR a)) > (200 : Int)) = false,
      decide (Int.ofNat (List.length (List.map bR b)) > (200 : Int)) = false,
      decide (e < (0 : Int)) = false,
      decide (e > (6 : Int)) = true] (by kernel_rfl)
    (by
      simp only [allP]
      and_intros <;> first
        | exact cAlive
        | (simp; omega))

theorem whX3 (a b : List UInt8) (t : Bool) (e p : Int) (h1 : a.length ≤ 200) (h2 : b.length ≤ 200) (h3 : 0 ≤ e) (h4 : 6 < e) : Contract Tryd.prog 4 [.sl 1 (a.map bR), .sl 1 (b.map bR), Bo t, I e, I p] [] (Bo true) [] := by
  exact Contract.cast (by
    first
      | rfl) (by
    first
      | rfl) (whX3_0 a b t e p h1 h2 h3 h4 )

theorem whT00_0 (d1 d2 d3 d4 : Dv) (a b c : List UInt8) (e p er : Int) (h1 : a.length ≤ 200) (h2 : b.length ≤ 200) (h3 : 0 ≤ e) (h4 : e ≤ 6) (he : er = 0) (hb : c = b) (c1 : Contract Tryd.prog 10 [.ptr 0 0 0 0, .val (.string ⟨#[102]⟩), .sl 1 (a.map bR)] [(⟨1000, 0, true, [], -1⟩ : Dv).box 1, (⟨1000, 0, true, [], -1⟩ : Dv).map] (I 0) [some (d1.box 2), none, some d1.map]) (c2 : Contract Tryd.prog 11 [.ptr 0 0 0 0, I e] [d1.box 1, d1.map] (.tup []) [some (d2.box 1), some d2.map]) (c3 : Contract Tryd.prog 10 [.ptr 0 0 0 0, .val (.string ⟨#[102]⟩), .sl 1 (b.map bR)] [d2.box 1, d2.map] (I er) [some (d3.box 2), none, some d3.map]) (c4 : Contract Tryd.prog 12 [.ptr 0 0 0 0, .sl 1 ([p, p, p].map iR)] [d3.box 1, d3.map] (.tup []) [some (d4.box 1), some d4.map]) (c5 : Contract Tryd.prog 13 [.ptr 0 0 0 0, .val (.string ⟨#[102]⟩)] [d4.box 1, d4.map] (.tup [.sl 1 (c.map bR), Bo true]) [some (d4.box 1), some d4.map]) : Contract Tryd.prog 4 [.sl 1 (a.map bR), .sl 1 (b.map bR), Bo true, I e, I p] [] (Bo true) ([]) :=
  vcP hmix [.reg 1 [(0, [.call [] [] (Bo true) []], none)], .reg 2 [(5, [], some false), (10, [], some false), (14, [], some false), (18, [], some false)], .reg 4 [(0, [.call [] [] (.ptr 0 0 0 0) [some ((⟨1000, 0, true, [], -1⟩ : Dv).box 1), some (⟨1000, 0, true, [], -1⟩ : Dv).map]], none)], .reg 8 [(2, [.call [801001, 801002] [] (I 0) [some (d1.box 2), none, some d1.map]], none)], .reg 9 [(2, [.call [801001, 1603001] [] (.tup []) [some (d2.box 1), some d2.map]], none)], .reg 10 [(2, [.call [801001, 1603001] [] (I er) [some (d3.box 2), none, some d3.map]], none)], .reg 11 [(5, [.call [801001, 2003001] [] (.tup []) [some (d4.box 1), some d4.map]], none)], .reg 12 [(1, [.call [801001, 2003001] [] (.tup [.sl 1 (c.map bR), Bo true]) [some (d4.box 1), some d4.map]], none)], .reg 13 [(1, [.call [] [] (I er) []], none), (2, [], some true)], .reg 14 [(3, [.str ⟨c.toArray⟩], none), (5, [.str ⟨b.toArray⟩], none), (6, [], some true)]] [] [
      Contract Tryd.prog (5 : Nat) [] [] (Bo true) [],
      decide (Int.ofNat (List.length (List.map bR a)) > (200 : Int)) = false,
      decide (Int.ofNat (List.length (List.map bR b)) > (200 : Int)) = false,
      decide (e < (0 : Int)) = false,
      decide (e > (6 : Int)) = false,
      Contract Tryd.prog (9 : Nat) [I (1000 : Int)] [] (V.ptr (0 : Nat) (0 : Nat) (0 : Nat) (0 : Nat)) [some (Obj.box [I (1000 : Int), I (0 : Int), V.val (Value.int IntKind.u32 (0 : Int)), V.val (Value.int IntKind.i32 (0 : Int)), V.val (Value.int IntKind.u32 (0 : Int)), V.mref (1 : Nat), I (-1 : Int)]), some (Obj.nest (Nest.mp true (mE [])) [])],
      Contract Tryd.prog (10 : Nat) [V.ptr (0 : Nat) (0 : Nat) (0 : Nat) (0 : Nat), Sg { data := { toList := [(102 : UInt8)] } }, V.sl (1 : Nat) (List.map bR a)] [Obj.box [I (1000 : Int), I (0 : Int), V.val (Value.int IntKind.u32 (0 : Int)), V.val (Value.int IntKind.i32 (0 : Int)), V.val (Value.int IntKind.u32 (0 : Int)), V.mref (1 : Nat), I (-1 : Int)], Obj.nest (Nest.mp true (mE [])) []] (I (0 : Int)) [some (Obj.box [I (Dv.room d1), I (Dv.used d1), V.val (Value.int IntKind.u32 (bif Dv.nl d1 then (0 : Int) else (1 : Int))), V.val (Value.int IntKind.i32 (0 : Int)), V.val (Value.int IntKind.u32 (0 : Int)), V.mref (2 : Nat), I (Dv.fuse d1)]), none, some (Obj.nest (Nest.mp (Dv.nl d1) (mE (Dv.fs d1))) [])],
      Contract Tryd.prog (11 : Nat) [V.ptr (0 : Nat) (0 : Nat) (0 : Nat) (0 : Nat), I e] [Obj.box [I (Dv.room d1), I (Dv.used d1), V.val (Value.int IntKind.u32 (bif Dv.nl d1 then (0 : Int) else (1 : Int))), V.val (Value.int IntKind.i32 (0 : Int)), V.val (Value.int IntKind.u32 (0 : Int)), V.mref (1 : Nat), I (Dv.fuse d1)], Obj.nest (Nest.mp (Dv.nl d1) (mE (Dv.fs d1))) []] (V.tup []) [some (Obj.box [I (Dv.room d2), I (Dv.used d2), V.val (Value.int IntKind.u32 (bif Dv.nl d2 then (0 : Int) else (1 : Int))), V.val (Value.int IntKind.i32 (0 : Int)), V.val (Value.int IntKind.u32 (0 : Int)), V.mref (1 : Nat), I (Dv.fuse d2)]), some (Obj.nest (Nest.mp (Dv.nl d2) (mE (Dv.fs d2))) [])],
      Contract Tryd.prog (10 : Nat) [V.ptr (0 : Nat) (0 : Nat) (0 : Nat) (0 : Nat), Sg { data := { toList := [(102 : UInt8)] } }, V.sl (1 : Nat) (List.map bR b)] [Obj.box [I (Dv.room d2), I (Dv.used d2), V.val (Value.int IntKind.u32 (bif Dv.nl d2 then (0 : Int) else (1 : Int))), V.val (Value.int IntKind.i32 (0 : Int)), V.val (Value.int IntKind.u32 (0 : Int)), V.mref (1 : Nat), I (Dv.fuse d2)], Obj.nest (Nest.mp (Dv.nl d2) (mE (Dv.fs d2))) []] (I er) [some (Obj.box [I (Dv.room d3), I (Dv.used d3), V.val (Value.int IntKind.u32 (bif Dv.nl d3 then (0 : Int) else (1 : Int))), V.val (Value.int IntKind.i32 (0 : Int)), V.val (Value.int IntKind.u32 (0 : Int)), V.mref (2 : Nat), I (Dv.fuse d3)]), none, some (Obj.nest (Nest.mp (Dv.nl d3) (mE (Dv.fs d3))) [])],
      Contract Tryd.prog (12 : Nat) [V.ptr (0 : Nat) (0 : Nat) (0 : Nat) (0 : Nat), V.sl (1 : Nat) [[I p], [I p], [I p]]] [Obj.box [I (Dv.room d3), I (Dv.used d3), V.val (Value.int IntKind.u32 (bif Dv.nl d3 then (0 : Int) else (1 : Int))), V.val (Value.int IntKind.i32 (0 : Int)), V.val (Value.int IntKind.u32 (0 : Int)), V.mref (1 : Nat), I (Dv.fuse d3)], Obj.nest (Nest.mp (Dv.nl d3) (mE (Dv.fs d3))) []] (V.tup []) [some (Obj.box [I (Dv.room d4), I (Dv.used d4), V.val (Value.int IntKind.u32 (bif Dv.nl d4 then (0 : Int) else (1 : Int))), V.val (Value.int IntKind.i32 (0 : Int)), V.val (Value.int IntKind.u32 (0 : Int)), V.mref (1 : Nat), I (Dv.fuse d4)]), some (Obj.nest (Nest.mp (Dv.nl d4) (mE (Dv.fs d4))) [])],
      true = true,
      true = true,
      ∀ (c0 : Inn), List.Mem c0 (List.map (fun x1 => Prod.snd x1) (mE (Dv.fs d4))) → Inn.flat c0,
      Contract Tryd.prog (13 : Nat) [V.ptr (0 : Nat) (0 : Nat) (0 : Nat) (0 : Nat), Sg { data := { toList := [(102 : UInt8)] } }] [Obj.box [I (Dv.room d4), I (Dv.used d4), V.val (Value.int IntKind.u32 (bif Dv.nl d4 then (0 : Int) else (1 : Int))), V.val (Value.int IntKind.i32 (0 : Int)), V.val (Value.int IntKind.u32 (0 : Int)), V.mref (1 : Nat), I (Dv.fuse d4)], Obj.nest (Nest.mp (Dv.nl d4) (mE (Dv.fs d4))) []] (V.tup [V.sl (1 : Nat) (List.map bR c), Bo true]) [some (Obj.box [I (Dv.room d4), I (Dv.used d4), V.val (Value.int IntKind.u32 (bif Dv.nl d4 then (0 : Int) else (1 : Int))), V.val (Value.int IntKind.i32 (0 : Int)), V.val (Value.int IntKind.u32 (0 : Int)), V.mref (1 : Nat), I (Dv.fuse d4)]), some (Obj.nest (Nest.mp (Dv.nl d4) (mE (Dv.fs d4))) [])],
      Contract Tryd.prog (14 : Nat) [I er] [] (I er) [],
      (er == (0 : Int)) = true,
      List.map bR c = strRows { data := { toList := c } },
      List.map bR b = strRows { data := { toList := b } },
      (ByteArray.toList { data := { toList := c } } == ByteArray.toList { data := { toList := b } }) = true] (by kernel_rfl)
    (by
      simp only [allP]
      and_intros <;> first
        | exact cAlive
        | exact cNewP 1000 (by decide)
        | exact c1
        | exact c2
        | exact c3
        | exact c4
        | exact c5
        | exact cNum er
        | exact strRows_bR _
        | exact mE_flat _
        | (simp [he]; done)
        | (simp [hb]; done)
        | (simp; omega))

theorem whT00 (d1 d2 d3 d4 : Dv) (a b c : List UInt8) (e p er : Int) (h1 : a.length ≤ 200) (h2 : b.length ≤ 200) (h3 : 0 ≤ e) (h4 : e ≤ 6) (he : er = 0) (hb : c = b) (c1 : Contract Tryd.prog 10 [.ptr 0 0 0 0, .val (.string ⟨#[102]⟩), .sl 1 (a.map bR)] [(⟨1000, 0, true, [], -1⟩ : Dv).box 1, (⟨1000, 0, true, [], -1⟩ : Dv).map] (I 0) [some (d1.box 2), none, some d1.map]) (c2 : Contract Tryd.prog 11 [.ptr 0 0 0 0, I e] [d1.box 1, d1.map] (.tup []) [some (d2.box 1), some d2.map]) (c3 : Contract Tryd.prog 10 [.ptr 0 0 0 0, .val (.string ⟨#[102]⟩), .sl 1 (b.map bR)] [d2.box 1, d2.map] (I er) [some (d3.box 2), none, some d3.map]) (c4 : Contract Tryd.prog 12 [.ptr 0 0 0 0, .sl 1 ([p, p, p].map iR)] [d3.box 1, d3.map] (.tup []) [some (d4.box 1), some d4.map]) (c5 : Contract Tryd.prog 13 [.ptr 0 0 0 0, .val (.string ⟨#[102]⟩)] [d4.box 1, d4.map] (.tup [.sl 1 (c.map bR), Bo true]) [some (d4.box 1), some d4.map]) : Contract Tryd.prog 4 [.sl 1 (a.map bR), .sl 1 (b.map bR), Bo true, I e, I p] [] (Bo true) [] := by
  exact Contract.cast (by
    first
      | rfl) (by
    first
      | rfl) (whT00_0 d1 d2 d3 d4 a b c e p er h1 h2 h3 h4 he hb c1 c2 c3 c4 c5 )

theorem whT10_0 (d1 d2 d3 d4 : Dv) (a b c : List UInt8) (e p er : Int) (h1 : a.length ≤ 200) (h2 : b.length ≤ 200) (h3 : 0 ≤ e) (h4 : e ≤ 6) (he : er ≠ 0) (hb : c = a) (c1 : Contract Tryd.prog 10 [.ptr 0 0 0 0, .val (.string ⟨#[102]⟩), .sl 1 (a.map bR)] [(⟨1000, 0, true, [], -1⟩ : Dv).box 1, (⟨1000, 0, true, [], -1⟩ : Dv).map] (I 0) [some (d1.box 2), none, some d1.map]) (c2 : Contract Tryd.prog 11 [.ptr 0 0 0 0, I e] [d1.box 1, d1.map] (.tup []) [some (d2.box 1), some d2.map]) (c3 : Contract Tryd.prog 10 [.ptr 0 0 0 0, .val (.string ⟨#[102]⟩), .sl 1 (b.map bR)] [d2.box 1, d2.map] (I er) [some (d3.box 2), none, some d3.map]) (c4 : Contract Tryd.prog 12 [.ptr 0 0 0 0, .sl 1 ([p, p, p].map iR)] [d3.box 1, d3.map] (.tup []) [some (d4.box 1), some d4.map]) (c5 : Contract Tryd.prog 13 [.ptr 0 0 0 0, .val (.string ⟨#[102]⟩)] [d4.box 1, d4.map] (.tup [.sl 1 (c.map bR), Bo true]) [some (d4.box 1), some d4.map]) : Contract Tryd.prog 4 [.sl 1 (a.map bR), .sl 1 (b.map bR), Bo true, I e, I p] [] (Bo true) ([]) :=
  vcP hmix [.reg 1 [(0, [.call [] [] (Bo true) []], none)], .reg 2 [(5, [], some false), (10, [], some false), (14, [], some false), (18, [], some false)], .reg 4 [(0, [.call [] [] (.ptr 0 0 0 0) [some ((⟨1000, 0, true, [], -1⟩ : Dv).box 1), some (⟨1000, 0, true, [], -1⟩ : Dv).map]], none)], .reg 8 [(2, [.call [801001, 801002] [] (I 0) [some (d1.box 2), none, some d1.map]], none)], .reg 9 [(2, [.call [801001, 1603001] [] (.tup []) [some (d2.box 1), some d2.map]], none)], .reg 10 [(2, [.call [801001, 1603001] [] (I er) [some (d3.box 2), none, some d3.map]], none)], .reg 11 [(5, [.call [801001, 2003001] [] (.tup []) [some (d4.box 1), some d4.map]], none)], .reg 12 [(1, [.call [801001, 2003001] [] (.tup [.sl 1 (c.map bR), Bo true]) [some (d4.box 1), some d4.map]], none)], .reg 13 [(1, [.call [] [] (I er) []], none), (2, [], some false)], .reg 15 [(5, [.str ⟨c.toArray⟩], none), (7, [.str ⟨a.toArray⟩], none), (8, [], some true)]] [] [
      Contract Tryd.prog (5 : Nat) [] [] (Bo true) [],
      decide (Int.ofNat (List.length (List.map bR a)) > (200 : Int)) = false,
      decide (Int.ofNat (List.length (List.map bR b)) > (200 : Int)) = false,
      decide (e < (0 : Int)) = false,
      decide (e > (6 : Int)) = false,
      Contract Tryd.prog (9 : Nat) [I (1000 : Int)] [] (V.ptr (0 : Nat) (0 : Nat) (0 : Nat) (0 : Nat)) [some (Obj.box [I (1000 : Int), I (0 : Int), V.val (Value.int IntKind.u32 (0 : Int)), V.val (Value.int IntKind.i32 (0 : Int)), V.val (Value.int IntKind.u32 (0 : Int)), V.mref (1 : Nat), I (-1 : Int)]), some (Obj.nest (Nest.mp true (mE [])) [])],
      Contract Tryd.prog (10 : Nat) [V.ptr (0 : Nat) (0 : Nat) (0 : Nat) (0 : Nat), Sg { data := { toList := [(102 : UInt8)] } }, V.sl (1 : Nat) (List.map bR a)] [Obj.box [I (1000 : Int), I (0 : Int), V.val (Value.int IntKind.u32 (0 : Int)), V.val (Value.int IntKind.i32 (0 : Int)), V.val (Value.int IntKind.u32 (0 : Int)), V.mref (1 : Nat), I (-1 : Int)], Obj.nest (Nest.mp true (mE [])) []] (I (0 : Int)) [some (Obj.box [I (Dv.room d1), I (Dv.used d1), V.val (Value.int IntKind.u32 (bif Dv.nl d1 then (0 : Int) else (1 : Int))), V.val (Value.int IntKind.i32 (0 : Int)), V.val (Value.int IntKind.u32 (0 : Int)), V.mref (2 : Nat), I (Dv.fuse d1)]), none, some (Obj.nest (Nest.mp (Dv.nl d1) (mE (Dv.fs d1))) [])],
      Contract Tryd.prog (11 : Nat) [V.ptr (0 : Nat) (0 : Nat) (0 : Nat) (0 : Nat), I e] [Obj.box [I (Dv.room d1), I (Dv.used d1), V.val (Value.int IntKind.u32 (bif Dv.nl d1 then (0 : Int) else (1 : Int))), V.val (Value.int IntKind.i32 (0 : Int)), V.val (Value.int IntKind.u32 (0 : Int)), V.mref (1 : Nat), I (Dv.fuse d1)], Obj.nest (Nest.mp (Dv.nl d1) (mE (Dv.fs d1))) []] (V.tup []) [some (Obj.box [I (Dv.room d2), I (Dv.used d2), V.val (Value.int IntKind.u32 (bif Dv.nl d2 then (0 : Int) else (1 : Int))), V.val (Value.int IntKind.i32 (0 : Int)), V.val (Value.int IntKind.u32 (0 : Int)), V.mref (1 : Nat), I (Dv.fuse d2)]), some (Obj.nest (Nest.mp (Dv.nl d2) (mE (Dv.fs d2))) [])],
      Contract Tryd.prog (10 : Nat) [V.ptr (0 : Nat) (0 : Nat) (0 : Nat) (0 : Nat), Sg { data := { toList := [(102 : UInt8)] } }, V.sl (1 : Nat) (List.map bR b)] [Obj.box [I (Dv.room d2), I (Dv.used d2), V.val (Value.int IntKind.u32 (bif Dv.nl d2 then (0 : Int) else (1 : Int))), V.val (Value.int IntKind.i32 (0 : Int)), V.val (Value.int IntKind.u32 (0 : Int)), V.mref (1 : Nat), I (Dv.fuse d2)], Obj.nest (Nest.mp (Dv.nl d2) (mE (Dv.fs d2))) []] (I er) [some (Obj.box [I (Dv.room d3), I (Dv.used d3), V.val (Value.int IntKind.u32 (bif Dv.nl d3 then (0 : Int) else (1 : Int))), V.val (Value.int IntKind.i32 (0 : Int)), V.val (Value.int IntKind.u32 (0 : Int)), V.mref (2 : Nat), I (Dv.fuse d3)]), none, some (Obj.nest (Nest.mp (Dv.nl d3) (mE (Dv.fs d3))) [])],
      Contract Tryd.prog (12 : Nat) [V.ptr (0 : Nat) (0 : Nat) (0 : Nat) (0 : Nat), V.sl (1 : Nat) [[I p], [I p], [I p]]] [Obj.box [I (Dv.room d3), I (Dv.used d3), V.val (Value.int IntKind.u32 (bif Dv.nl d3 then (0 : Int) else (1 : Int))), V.val (Value.int IntKind.i32 (0 : Int)), V.val (Value.int IntKind.u32 (0 : Int)), V.mref (1 : Nat), I (Dv.fuse d3)], Obj.nest (Nest.mp (Dv.nl d3) (mE (Dv.fs d3))) []] (V.tup []) [some (Obj.box [I (Dv.room d4), I (Dv.used d4), V.val (Value.int IntKind.u32 (bif Dv.nl d4 then (0 : Int) else (1 : Int))), V.val (Value.int IntKind.i32 (0 : Int)), V.val (Value.int IntKind.u32 (0 : Int)), V.mref (1 : Nat), I (Dv.fuse d4)]), some (Obj.nest (Nest.mp (Dv.nl d4) (mE (Dv.fs d4))) [])],
      true = true,
      true = true,
      ∀ (c0 : Inn), List.Mem c0 (List.map (fun x1 => Prod.snd x1) (mE (Dv.fs d4))) → Inn.flat c0,
      Contract Tryd.prog (13 : Nat) [V.ptr (0 : Nat) (0 : Nat) (0 : Nat) (0 : Nat), Sg { data := { toList := [(102 : UInt8)] } }] [Obj.box [I (Dv.room d4), I (Dv.used d4), V.val (Value.int IntKind.u32 (bif Dv.nl d4 then (0 : Int) else (1 : Int))), V.val (Value.int IntKind.i32 (0 : Int)), V.val (Value.int IntKind.u32 (0 : Int)), V.mref (1 : Nat), I (Dv.fuse d4)], Obj.nest (Nest.mp (Dv.nl d4) (mE (Dv.fs d4))) []] (V.tup [V.sl (1 : Nat) (List.map bR c), Bo true]) [some (Obj.box [I (Dv.room d4), I (Dv.used d4), V.val (Value.int IntKind.u32 (bif Dv.nl d4 then (0 : Int) else (1 : Int))), V.val (Value.int IntKind.i32 (0 : Int)), V.val (Value.int IntKind.u32 (0 : Int)), V.mref (1 : Nat), I (Dv.fuse d4)]), some (Obj.nest (Nest.mp (Dv.nl d4) (mE (Dv.fs d4))) [])],
      Contract Tryd.prog (14 : Nat) [I er] [] (I er) [],
      (er == (0 : Int)) = false,
      List.map bR c = strRows { data := { toList := c } },
      List.map bR a = strRows { data := { toList := a } },
      (ByteArray.toList { data := { toList := c } } == ByteArray.toList { data := { toList := a } }) = true] (by kernel_rfl)
    (by
      simp only [allP]
      and_intros <;> first
        | exact cAlive
        | exact cNewP 1000 (by decide)
        | exact c1
        | exact c2
        | exact c3
        | exact c4
        | exact c5
        | exact cNum er
        | exact strRows_bR _
        | exact mE_flat _
        | (simp [he]; done)
        | (simp [hb]; done)
        | (simp; omega))

theorem whT10 (d1 d2 d3 d4 : Dv) (a b c : List UInt8) (e p er : Int) (h1 : a.length ≤ 200) (h2 : b.length ≤ 200) (h3 : 0 ≤ e) (h4 : e ≤ 6) (he : er ≠ 0) (hb : c = a) (c1 : Contract Tryd.prog 10 [.ptr 0 0 0 0, .val (.string ⟨#[102]⟩), .sl 1 (a.map bR)] [(⟨1000, 0, true, [], -1⟩ : Dv).box 1, (⟨1000, 0, true, [], -1⟩ : Dv).map] (I 0) [some (d1.box 2), none, some d1.map]) (c2 : Contract Tryd.prog 11 [.ptr 0 0 0 0, I e] [d1.box 1, d1.map] (.tup []) [some (d2.box 1), some d2.map]) (c3 : Contract Tryd.prog 10 [.ptr 0 0 0 0, .val (.string ⟨#[102]⟩), .sl 1 (b.map bR)] [d2.box 1, d2.map] (I er) [some (d3.box 2), none, some d3.map]) (c4 : Contract Tryd.prog 12 [.ptr 0 0 0 0, .sl 1 ([p, p, p].map iR)] [d3.box 1, d3.map] (.tup []) [some (d4.box 1), some d4.map]) (c5 : Contract Tryd.prog 13 [.ptr 0 0 0 0, .val (.string ⟨#[102]⟩)] [d4.box 1, d4.map] (.tup [.sl 1 (c.map bR), Bo true]) [some (d4.box 1), some d4.map]) : Contract Tryd.prog 4 [.sl 1 (a.map bR), .sl 1 (b.map bR), Bo true, I e, I p] [] (Bo true) [] := by
  exact Contract.cast (by
    first
      | rfl) (by
    first
      | rfl) (whT10_0 d1 d2 d3 d4 a b c e p er h1 h2 h3 h4 he hb c1 c2 c3 c4 c5 )

theorem whF00_0 (d1 d2 d3 d4 : Dv) (a b c : List UInt8) (e p er : Int) (h1 : a.length ≤ 200) (h2 : b.length ≤ 200) (h3 : 0 ≤ e) (h4 : e ≤ 6) (he : er = 0) (hb : c = b) (c2 : Contract Tryd.prog 11 [.ptr 0 0 0 0, I e] [(⟨1000, 0, true, [], -1⟩ : Dv).box 1, (⟨1000, 0, true, [], -1⟩ : Dv).map] (.tup []) [some (d2.box 1), some d2.map]) (c3 : Contract Tryd.prog 10 [.ptr 0 0 0 0, .val (.string ⟨#[102]⟩), .sl 1 (b.map bR)] [d2.box 1, d2.map] (I er) [some (d3.box 2), none, some d3.map]) (c4 : Contract Tryd.prog 12 [.ptr 0 0 0 0, .sl 1 ([p, p, p].map iR)] [d3.box 1, d3.map] (.tup []) [some (d4.box 1), some d4.map]) (c5 : Contract Tryd.prog 13 [.ptr 0 0 0 0, .val (.string ⟨#[102]⟩)] [d4.box 1, d4.map] (.tup [.sl 1 (c.map bR), Bo true]) [some (d4.box 1), some d4.map]) : Contract Tryd.prog 4 [.sl 1 (a.map bR), .sl 1 (b.map bR), Bo false, I e, I p] [] (Bo true) ([]) :=
  vcP hmix [.reg 1 [(0, [.call [] [] (Bo true) []], none)], .reg 2 [(5, [], some false), (10, [], some false), (14, [], some false), (18, [], some false)], .reg 4 [(0, [.call [] [] (.ptr 0 0 0 0) [some ((⟨1000, 0, true, [], -1⟩ : Dv).box 1), some (⟨1000, 0, true, [], -1⟩ : Dv).map]], none)], .reg 9 [(2, [.call [801001, 801002] [] (.tup []) [some (d2.box 1), some d2.map]], none)], .reg 10 [(2, [.call [801001, 801002] [] (I er) [some (d3.box 2), none, some d3.map]], none)], .reg 11 [(5, [.call [801001, 2003001] [] (.tup []) [some (d4.box 1), some d4.map]], none)], .reg 12 [(1, [.call [801001, 2003001] [] (.tup [.sl 1 (c.map bR), Bo true]) [some (d4.box 1), some d4.map]], none)], .reg 13 [(1, [.call [] [] (I er) []], none), (2, [], some true)], .reg 14 [(3, [.str ⟨c.toArray⟩], none), (5, [.str ⟨b.toArray⟩], none), (6, [], some true)]] [] [
      Contract Tryd.prog (5 : Nat) [] [] (Bo true) [],
      decide (Int.ofNat (List.length (List.map bR a)) > (200 : Int)) = false,
      decide (Int.ofNat (List.length (List.map bR b)) > (200 : Int)) = false,
      decide (e < (0 : Int)) = false,
      decide (e > (6 : Int)) = false,
      Contract Tryd.prog (9 : Nat) [I (1000 : Int)] [] (V.ptr (0 : Nat) (0 : Nat) (0 : Nat) (0 : Nat)) [some (Obj.box [I (1000 : Int), I (0 : Int), V.val (Value.int IntKind.u32 (0 : Int)), V.val (Value.int IntKind.i32 (0 : Int)), V.val (Value.int IntKind.u32 (0 : Int)), V.mref (1 : Nat), I (-1 : Int)]), some (Obj.nest (Nest.mp true (mE [])) [])],
      Contract Tryd.prog (11 : Nat) [V.ptr (0 : Nat) (0 : Nat) (0 : Nat) (0 : Nat), I e] [Obj.box [I (1000 : Int), I (0 : Int), V.val (Value.int IntKind.u32 (0 : Int)), V.val (Value.int IntKind.i32 (0 : Int)), V.val (Value.int IntKind.u32 (0 : Int)), V.mref (1 : Nat), I (-1 : Int)], Obj.nest (Nest.mp true (mE [])) []] (V.tup []) [some (Obj.box [I (Dv.room d2), I (Dv.used d2), V.val (Value.int IntKind.u32 (bif Dv.nl d2 then (0 : Int) else (1 : Int))), V.val (Value.int IntKind.i32 (0 : Int)), V.val (Value.int IntKind.u32 (0 : Int)), V.mref (1 : Nat), I (Dv.fuse d2)]), some (Obj.nest (Nest.mp (Dv.nl d2) (mE (Dv.fs d2))) [])],
      Contract Tryd.prog (10 : Nat) [V.ptr (0 : Nat) (0 : Nat) (0 : Nat) (0 : Nat), Sg { data := { toList := [(102 : UInt8)] } }, V.sl (1 : Nat) (List.map bR b)] [Obj.box [I (Dv.room d2), I (Dv.used d2), V.val (Value.int IntKind.u32 (bif Dv.nl d2 then (0 : Int) else (1 : Int))), V.val (Value.int IntKind.i32 (0 : Int)), V.val (Value.int IntKind.u32 (0 : Int)), V.mref (1 : Nat), I (Dv.fuse d2)], Obj.nest (Nest.mp (Dv.nl d2) (mE (Dv.fs d2))) []] (I er) [some (Obj.box [I (Dv.room d3), I (Dv.used d3), V.val (Value.int IntKind.u32 (bif Dv.nl d3 then (0 : Int) else (1 : Int))), V.val (Value.int IntKind.i32 (0 : Int)), V.val (Value.int IntKind.u32 (0 : Int)), V.mref (2 : Nat), I (Dv.fuse d3)]), none, some (Obj.nest (Nest.mp (Dv.nl d3) (mE (Dv.fs d3))) [])],
      Contract Tryd.prog (12 : Nat) [V.ptr (0 : Nat) (0 : Nat) (0 : Nat) (0 : Nat), V.sl (1 : Nat) [[I p], [I p], [I p]]] [Obj.box [I (Dv.room d3), I (Dv.used d3), V.val (Value.int IntKind.u32 (bif Dv.nl d3 then (0 : Int) else (1 : Int))), V.val (Value.int IntKind.i32 (0 : Int)), V.val (Value.int IntKind.u32 (0 : Int)), V.mref (1 : Nat), I (Dv.fuse d3)], Obj.nest (Nest.mp (Dv.nl d3) (mE (Dv.fs d3))) []] (V.tup []) [some (Obj.box [I (Dv.room d4), I (Dv.used d4), V.val (Value.int IntKind.u32 (bif Dv.nl d4 then (0 : Int) else (1 : Int))), V.val (Value.int IntKind.i32 (0 : Int)), V.val (Value.int IntKind.u32 (0 : Int)), V.mref (1 : Nat), I (Dv.fuse d4)]), some (Obj.nest (Nest.mp (Dv.nl d4) (mE (Dv.fs d4))) [])],
      true = true,
      true = true,
      ∀ (c0 : Inn), List.Mem c0 (List.map (fun x1 => Prod.snd x1) (mE (Dv.fs d4))) → Inn.flat c0,
      Contract Tryd.prog (13 : Nat) [V.ptr (0 : Nat) (0 : Nat) (0 : Nat) (0 : Nat), Sg { data := { toList := [(102 : UInt8)] } }] [Obj.box [I (Dv.room d4), I (Dv.used d4), V.val (Value.int IntKind.u32 (bif Dv.nl d4 then (0 : Int) else (1 : Int))), V.val (Value.int IntKind.i32 (0 : Int)), V.val (Value.int IntKind.u32 (0 : Int)), V.mref (1 : Nat), I (Dv.fuse d4)], Obj.nest (Nest.mp (Dv.nl d4) (mE (Dv.fs d4))) []] (V.tup [V.sl (1 : Nat) (List.map bR c), Bo true]) [some (Obj.box [I (Dv.room d4), I (Dv.used d4), V.val (Value.int IntKind.u32 (bif Dv.nl d4 then (0 : Int) else (1 : Int))), V.val (Value.int IntKind.i32 (0 : Int)), V.val (Value.int IntKind.u32 (0 : Int)), V.mref (1 : Nat), I (Dv.fuse d4)]), some (Obj.nest (Nest.mp (Dv.nl d4) (mE (Dv.fs d4))) [])],
      Contract Tryd.prog (14 : Nat) [I er] [] (I er) [],
      (er == (0 : Int)) = true,
      List.map bR c = strRows { data := { toList := c } },
      List.map bR b = strRows { data := { toList := b } },
      (ByteArray.toList { data := { toList := c } } == ByteArray.toList { data := { toList := b } }) = true] (by kernel_rfl)
    (by
      simp only [allP]
      and_intros <;> first
        | exact cAlive
        | exact cNewP 1000 (by decide)
        | exact c2
        | exact c3
        | exact c4
        | exact c5
        | exact cNum er
        | exact strRows_bR _
        | exact mE_flat _
        | (simp [he]; done)
        | (simp [hb]; done)
        | (simp; omega))

theorem whF00 (d1 d2 d3 d4 : Dv) (a b c : List UInt8) (e p er : Int) (h1 : a.length ≤ 200) (h2 : b.length ≤ 200) (h3 : 0 ≤ e) (h4 : e ≤ 6) (he : er = 0) (hb : c = b) (c2 : Contract Tryd.prog 11 [.ptr 0 0 0 0, I e] [(⟨1000, 0, true, [], -1⟩ : Dv).box 1, (⟨1000, 0, true, [], -1⟩ : Dv).map] (.tup []) [some (d2.box 1), some d2.map]) (c3 : Contract Tryd.prog 10 [.ptr 0 0 0 0, .val (.string ⟨#[102]⟩), .sl 1 (b.map bR)] [d2.box 1, d2.map] (I er) [some (d3.box 2), none, some d3.map]) (c4 : Contract Tryd.prog 12 [.ptr 0 0 0 0, .sl 1 ([p, p, p].map iR)] [d3.box 1, d3.map] (.tup []) [some (d4.box 1), some d4.map]) (c5 : Contract Tryd.prog 13 [.ptr 0 0 0 0, .val (.string ⟨#[102]⟩)] [d4.box 1, d4.map] (.tup [.sl 1 (c.map bR), Bo true]) [some (d4.box 1), some d4.map]) : Contract Tryd.prog 4 [.sl 1 (a.map bR), .sl 1 (b.map bR), Bo false, I e, I p] [] (Bo true) [] := by
  exact Contract.cast (by
    first
      | rfl) (by
    first
      | rfl) (whF00_0 d1 d2 d3 d4 a b c e p er h1 h2 h3 h4 he hb c2 c3 c4 c5 )

theorem whF10_0 (d1 d2 d3 d4 : Dv) (a b c : List UInt8) (e p er : Int) (h1 : a.length ≤ 200) (h2 : b.length ≤ 200) (h3 : 0 ≤ e) (h4 : e ≤ 6) (he : er ≠ 0) (hb : a = []) (hc : c = []) (c2 : Contract Tryd.prog 11 [.ptr 0 0 0 0, I e] [(⟨1000, 0, true, [], -1⟩ : Dv).box 1, (⟨1000, 0, true, [], -1⟩ : Dv).map] (.tup []) [some (d2.box 1), some d2.map]) (c3 : Contract Tryd.prog 10 [.ptr 0 0 0 0, .val (.string ⟨#[102]⟩), .sl 1 (b.map bR)] [d2.box 1, d2.map] (I er) [some (d3.box 2), none, some d3.map]) (c4 : Contract Tryd.prog 12 [.ptr 0 0 0 0, .sl 1 ([p, p, p].map iR)] [d3.box 1, d3.map] (.tup []) [some (d4.box 1), some d4.map]) (c5 : Contract Tryd.prog 13 [.ptr 0 0 0 0, .val (.string ⟨#[102]⟩)] [d4.box 1, d4.map] (.tup [.sl 1 (c.map bR), Bo false]) [some (d4.box 1), some d4.map]) : Contract Tryd.prog 4 [.sl 1 (a.map bR), .sl 1 (b.map bR), Bo false, I e, I p] [] (Bo true) ([]) :=
  vcP hmix [.reg 1 [(0, [.call [] [] (Bo true) []], none)], .reg 2 [(5, [], some false), (10, [], some false), (14, [], some false), (18, [], some false)], .reg 4 [(0, [.call [] [] (.ptr 0 0 0 0) [some ((⟨1000, 0, true, [], -1⟩ : Dv).box 1), some (⟨1000, 0, true, [], -1⟩ : Dv).map]], none)], .reg 9 [(2, [.call [801001, 801002] [] (.tup []) [some (d2.box 1), some d2.map]], none)], .reg 10 [(2, [.call [801001, 801002] [] (I er) [some (d3.box 2), none, some d3.map]], none)], .reg 11 [(5, [.call [801001, 2003001] [] (.tup []) [some (d4.box 1), some d4.map]], none)], .reg 12 [(1, [.call [801001, 2003001] [] (.tup [.sl 1 (c.map bR), Bo false]) [some (d4.box 1), some d4.map]], none)], .reg 13 [(1, [.call [] [] (I er) []], none), (2, [], some false)], .reg 15 [(5, [.str ⟨c.toArray⟩], none), (7, [.str ⟨a.toArray⟩], none), (8, [], some true)]] [] [
      Contract Tryd.prog (5 : Nat) [] [] (Bo true) [],
      decide (Int.ofNat (List.length (List.map bR a)) > (200 : Int)) = false,
      decide (Int.ofNat (List.length (List.map bR b)) > (200 : Int)) = false,
      decide (e < (0 : Int)) = false,
      decide (e > (6 : Int)) = false,
      Contract Tryd.prog (9 : Nat) [I (1000 : Int)] [] (V.ptr (0 : Nat) (0 : Nat) (0 : Nat) (0 : Nat)) [some (Obj.box [I (1000 : Int), I (0 : Int), V.val (Value.int IntKind.u32 (0 : Int)), V.val (Value.int IntKind.i32 (0 : Int)), V.val (Value.int IntKind.u32 (0 : Int)), V.mref (1 : Nat), I (-1 : Int)]), some (Obj.nest (Nest.mp true (mE [])) [])],
      Contract Tryd.prog (11 : Nat) [V.ptr (0 : Nat) (0 : Nat) (0 : Nat) (0 : Nat), I e] [Obj.box [I (1000 : Int), I (0 : Int), V.val (Value.int IntKind.u32 (0 : Int)), V.val (Value.int IntKind.i32 (0 : Int)), V.val (Value.int IntKind.u32 (0 : Int)), V.mref (1 : Nat), I (-1 : Int)], Obj.nest (Nest.mp true (mE [])) []] (V.tup []) [some (Obj.box [I (Dv.room d2), I (Dv.used d2), V.val (Value.int IntKind.u32 (bif Dv.nl d2 then (0 : Int) else (1 : Int))), V.val (Value.int IntKind.i32 (0 : Int)), V.val (Value.int IntKind.u32 (0 : Int)), V.mref (1 : Nat), I (Dv.fuse d2)]), some (Obj.nest (Nest.mp (Dv.nl d2) (mE (Dv.fs d2))) [])],
      Contract Tryd.prog (10 : Nat) [V.ptr (0 : Nat) (0 : Nat) (0 : Nat) (0 : Nat), Sg { data := { toList := [(102 : UInt8)] } }, V.sl (1 : Nat) (List.map bR b)] [Obj.box [I (Dv.room d2), I (Dv.used d2), V.val (Value.int IntKind.u32 (bif Dv.nl d2 then (0 : Int) else (1 : Int))), V.val (Value.int IntKind.i32 (0 : Int)), V.val (Value.int IntKind.u32 (0 : Int)), V.mref (1 : Nat), I (Dv.fuse d2)], Obj.nest (Nest.mp (Dv.nl d2) (mE (Dv.fs d2))) []] (I er) [some (Obj.box [I (Dv.room d3), I (Dv.used d3), V.val (Value.int IntKind.u32 (bif Dv.nl d3 then (0 : Int) else (1 : Int))), V.val (Value.int IntKind.i32 (0 : Int)), V.val (Value.int IntKind.u32 (0 : Int)), V.mref (2 : Nat), I (Dv.fuse d3)]), none, some (Obj.nest (Nest.mp (Dv.nl d3) (mE (Dv.fs d3))) [])],
      Contract Tryd.prog (12 : Nat) [V.ptr (0 : Nat) (0 : Nat) (0 : Nat) (0 : Nat), V.sl (1 : Nat) [[I p], [I p], [I p]]] [Obj.box [I (Dv.room d3), I (Dv.used d3), V.val (Value.int IntKind.u32 (bif Dv.nl d3 then (0 : Int) else (1 : Int))), V.val (Value.int IntKind.i32 (0 : Int)), V.val (Value.int IntKind.u32 (0 : Int)), V.mref (1 : Nat), I (Dv.fuse d3)], Obj.nest (Nest.mp (Dv.nl d3) (mE (Dv.fs d3))) []] (V.tup []) [some (Obj.box [I (Dv.room d4), I (Dv.used d4), V.val (Value.int IntKind.u32 (bif Dv.nl d4 then (0 : Int) else (1 : Int))), V.val (Value.int IntKind.i32 (0 : Int)), V.val (Value.int IntKind.u32 (0 : Int)), V.mref (1 : Nat), I (Dv.fuse d4)]), some (Obj.nest (Nest.mp (Dv.nl d4) (mE (Dv.fs d4))) [])],
      true = true,
      true = true,
      ∀ (c0 : Inn), List.Mem c0 (List.map (fun x1 => Prod.snd x1) (mE (Dv.fs d4))) → Inn.flat c0,
      Contract Tryd.prog (13 : Nat) [V.ptr (0 : Nat) (0 : Nat) (0 : Nat) (0 : Nat), Sg { data := { toList := [(102 : UInt8)] } }] [Obj.box [I (Dv.room d4), I (Dv.used d4), V.val (Value.int IntKind.u32 (bif Dv.nl d4 then (0 : Int) else (1 : Int))), V.val (Value.int IntKind.i32 (0 : Int)), V.val (Value.int IntKind.u32 (0 : Int)), V.mref (1 : Nat), I (Dv.fuse d4)], Obj.nest (Nest.mp (Dv.nl d4) (mE (Dv.fs d4))) []] (V.tup [V.sl (1 : Nat) (List.map bR c), Bo false]) [some (Obj.box [I (Dv.room d4), I (Dv.used d4), V.val (Value.int IntKind.u32 (bif Dv.nl d4 then (0 : Int) else (1 : Int))), V.val (Value.int IntKind.i32 (0 : Int)), V.val (Value.int IntKind.u32 (0 : Int)), V.mref (1 : Nat), I (Dv.fuse d4)]), some (Obj.nest (Nest.mp (Dv.nl d4) (mE (Dv.fs d4))) [])],
      Contract Tryd.prog (14 : Nat) [I er] [] (I er) [],
      (er == (0 : Int)) = false,
      List.map bR c = strRows { data := { toList := c } },
      List.map bR a = strRows { data := { toList := a } },
      (ByteArray.toList { data := { toList := c } } == ByteArray.toList { data := { toList := a } }) = true] (by kernel_rfl)
    (by
      simp only [allP]
      and_intros <;> first
        | exact cAlive
        | exact cNewP 1000 (by decide)
        | exact c2
        | exact c3
        | exact c4
        | exact c5
        | exact cNum er
        | exact strRows_bR _
        | exact mE_flat _
        | (simp [he]; done)
        | (simp [hb]; done)
        | (simp [hb, hc]; done)
        | (simp; omega))

theorem whF10 (d1 d2 d3 d4 : Dv) (a b c : List UInt8) (e p er : Int) (h1 : a.length ≤ 200) (h2 : b.length ≤ 200) (h3 : 0 ≤ e) (h4 : e ≤ 6) (he : er ≠ 0) (hb : a = []) (hc : c = []) (c2 : Contract Tryd.prog 11 [.ptr 0 0 0 0, I e] [(⟨1000, 0, true, [], -1⟩ : Dv).box 1, (⟨1000, 0, true, [], -1⟩ : Dv).map] (.tup []) [some (d2.box 1), some d2.map]) (c3 : Contract Tryd.prog 10 [.ptr 0 0 0 0, .val (.string ⟨#[102]⟩), .sl 1 (b.map bR)] [d2.box 1, d2.map] (I er) [some (d3.box 2), none, some d3.map]) (c4 : Contract Tryd.prog 12 [.ptr 0 0 0 0, .sl 1 ([p, p, p].map iR)] [d3.box 1, d3.map] (.tup []) [some (d4.box 1), some d4.map]) (c5 : Contract Tryd.prog 13 [.ptr 0 0 0 0, .val (.string ⟨#[102]⟩)] [d4.box 1, d4.map] (.tup [.sl 1 (c.map bR), Bo false]) [some (d4.box 1), some d4.map]) : Contract Tryd.prog 4 [.sl 1 (a.map bR), .sl 1 (b.map bR), Bo false, I e, I p] [] (Bo true) [] := by
  exact Contract.cast (by
    first
      | rfl) (by
    first
      | rfl) (whF10_0 d1 d2 d3 d4 a b c e p er h1 h2 h3 h4 he hb hc c2 c3 c4 c5 )

theorem whF11_0 (d1 d2 d3 d4 : Dv) (a b c : List UInt8) (e p er : Int) (h1 : a.length ≤ 200) (h2 : b.length ≤ 200) (h3 : 0 ≤ e) (h4 : e ≤ 6) (he : er ≠ 0) (hb : a ≠ []) (hc : c = []) (c2 : Contract Tryd.prog 11 [.ptr 0 0 0 0, I e] [(⟨1000, 0, true, [], -1⟩ : Dv).box 1, (⟨1000, 0, true, [], -1⟩ : Dv).map] (.tup []) [some (d2.box 1), some d2.map]) (c3 : Contract Tryd.prog 10 [.ptr 0 0 0 0, .val (.string ⟨#[102]⟩), .sl 1 (b.map bR)] [d2.box 1, d2.map] (I er) [some (d3.box 2), none, some d3.map]) (c4 : Contract Tryd.prog 12 [.ptr 0 0 0 0, .sl 1 ([p, p, p].map iR)] [d3.box 1, d3.map] (.tup []) [some (d4.box 1), some d4.map]) (c5 : Contract Tryd.prog 13 [.ptr 0 0 0 0, .val (.string ⟨#[102]⟩)] [d4.box 1, d4.map] (.tup [.sl 1 (c.map bR), Bo false]) [some (d4.box 1), some d4.map]) : Contract Tryd.prog 4 [.sl 1 (a.map bR), .sl 1 (b.map bR), Bo false, I e, I p] [] (Bo true) ([]) :=
  vcP hmix [.reg 1 [(0, [.call [] [] (Bo true) []], none)], .reg 2 [(5, [], some false), (10, [], some false), (14, [], some false), (18, [], some false)], .reg 4 [(0, [.call [] [] (.ptr 0 0 0 0) [some ((⟨1000, 0, true, [], -1⟩ : Dv).box 1), some (⟨1000, 0, true, [], -1⟩ : Dv).map]], none)], .reg 9 [(2, [.call [801001, 801002] [] (.tup []) [some (d2.box 1), some d2.map]], none)], .reg 10 [(2, [.call [801001, 801002] [] (I er) [some (d3.box 2), none, some d3.map]], none)], .reg 11 [(5, [.call [801001, 2003001] [] (.tup []) [some (d4.box 1), some d4.map]], none)], .reg 12 [(1, [.call [801001, 2003001] [] (.tup [.sl 1 (c.map bR), Bo false]) [some (d4.box 1), some d4.map]], none)], .reg 13 [(1, [.call [] [] (I er) []], none), (2, [], some false)], .reg 15 [(5, [.str ⟨c.toArray⟩], none), (7, [.str ⟨a.toArray⟩], none), (8, [], some false)]] [] [
      Contract Tryd.prog (5 : Nat) [] [] (Bo true) [],
      decide (Int.ofNat (List.length (List.map bR a)) > (200 : Int)) = false,
      decide (Int.ofNat (List.length (List.map bR b)) > (200 : Int)) = false,
      decide (e < (0 : Int)) = false,
      decide (e > (6 : Int)) = false,
      Contract Tryd.prog (9 : Nat) [I (1000 : Int)] [] (V.ptr (0 : Nat) (0 : Nat) (0 : Nat) (0 : Nat)) [some (Obj.box [I (1000 : Int), I (0 : Int), V.val (Value.int IntKind.u32 (0 : Int)), V.val (Value.int IntKind.i32 (0 : Int)), V.val (Value.int IntKind.u32 (0 : Int)), V.mref (1 : Nat), I (-1 : Int)]), some (Obj.nest (Nest.mp true (mE [])) [])],
      Contract Tryd.prog (11 : Nat) [V.ptr (0 : Nat) (0 : Nat) (0 : Nat) (0 : Nat), I e] [Obj.box [I (1000 : Int), I (0 : Int), V.val (Value.int IntKind.u32 (0 : Int)), V.val (Value.int IntKind.i32 (0 : Int)), V.val (Value.int IntKind.u32 (0 : Int)), V.mref (1 : Nat), I (-1 : Int)], Obj.nest (Nest.mp true (mE [])) []] (V.tup []) [some (Obj.box [I (Dv.room d2), I (Dv.used d2), V.val (Value.int IntKind.u32 (bif Dv.nl d2 then (0 : Int) else (1 : Int))), V.val (Value.int IntKind.i32 (0 : Int)), V.val (Value.int IntKind.u32 (0 : Int)), V.mref (1 : Nat), I (Dv.fuse d2)]), some (Obj.nest (Nest.mp (Dv.nl d2) (mE (Dv.fs d2))) [])],
      Contract Tryd.prog (10 : Nat) [V.ptr (0 : Nat) (0 : Nat) (0 : Nat) (0 : Nat), Sg { data := { toList := [(102 : UInt8)] } }, V.sl (1 : Nat) (List.map bR b)] [Obj.box [I (Dv.room d2), I (Dv.used d2), V.val (Value.int IntKind.u32 (bif Dv.nl d2 then (0 : Int) else (1 : Int))), V.val (Value.int IntKind.i32 (0 : Int)), V.val (Value.int IntKind.u32 (0 : Int)), V.mref (1 : Nat), I (Dv.fuse d2)], Obj.nest (Nest.mp (Dv.nl d2) (mE (Dv.fs d2))) []] (I er) [some (Obj.box [I (Dv.room d3), I (Dv.used d3), V.val (Value.int IntKind.u32 (bif Dv.nl d3 then (0 : Int) else (1 : Int))), V.val (Value.int IntKind.i32 (0 : Int)), V.val (Value.int IntKind.u32 (0 : Int)), V.mref (2 : Nat), I (Dv.fuse d3)]), none, some (Obj.nest (Nest.mp (Dv.nl d3) (mE (Dv.fs d3))) [])],
      Contract Tryd.prog (12 : Nat) [V.ptr (0 : Nat) (0 : Nat) (0 : Nat) (0 : Nat), V.sl (1 : Nat) [[I p], [I p], [I p]]] [Obj.box [I (Dv.room d3), I (Dv.used d3), V.val (Value.int IntKind.u32 (bif Dv.nl d3 then (0 : Int) else (1 : Int))), V.val (Value.int IntKind.i32 (0 : Int)), V.val (Value.int IntKind.u32 (0 : Int)), V.mref (1 : Nat), I (Dv.fuse d3)], Obj.nest (Nest.mp (Dv.nl d3) (mE (Dv.fs d3))) []] (V.tup []) [some (Obj.box [I (Dv.room d4), I (Dv.used d4), V.val (Value.int IntKind.u32 (bif Dv.nl d4 then (0 : Int) else (1 : Int))), V.val (Value.int IntKind.i32 (0 : Int)), V.val (Value.int IntKind.u32 (0 : Int)), V.mref (1 : Nat), I (Dv.fuse d4)]), some (Obj.nest (Nest.mp (Dv.nl d4) (mE (Dv.fs d4))) [])],
      true = true,
      true = true,
      ∀ (c0 : Inn), List.Mem c0 (List.map (fun x1 => Prod.snd x1) (mE (Dv.fs d4))) → Inn.flat c0,
      Contract Tryd.prog (13 : Nat) [V.ptr (0 : Nat) (0 : Nat) (0 : Nat) (0 : Nat), Sg { data := { toList := [(102 : UInt8)] } }] [Obj.box [I (Dv.room d4), I (Dv.used d4), V.val (Value.int IntKind.u32 (bif Dv.nl d4 then (0 : Int) else (1 : Int))), V.val (Value.int IntKind.i32 (0 : Int)), V.val (Value.int IntKind.u32 (0 : Int)), V.mref (1 : Nat), I (Dv.fuse d4)], Obj.nest (Nest.mp (Dv.nl d4) (mE (Dv.fs d4))) []] (V.tup [V.sl (1 : Nat) (List.map bR c), Bo false]) [some (Obj.box [I (Dv.room d4), I (Dv.used d4), V.val (Value.int IntKind.u32 (bif Dv.nl d4 then (0 : Int) else (1 : Int))), V.val (Value.int IntKind.i32 (0 : Int)), V.val (Value.int IntKind.u32 (0 : Int)), V.mref (1 : Nat), I (Dv.fuse d4)]), some (Obj.nest (Nest.mp (Dv.nl d4) (mE (Dv.fs d4))) [])],
      Contract Tryd.prog (14 : Nat) [I er] [] (I er) [],
      (er == (0 : Int)) = false,
      List.map bR c = strRows { data := { toList := c } },
      List.map bR a = strRows { data := { toList := a } },
      (ByteArray.toList { data := { toList := c } } == ByteArray.toList { data := { toList := a } }) = false] (by kernel_rfl)
    (by
      simp only [allP]
      and_intros <;> first
        | exact cAlive
        | exact cNewP 1000 (by decide)
        | exact c2
        | exact c3
        | exact c4
        | exact c5
        | exact cNum er
        | exact strRows_bR _
        | exact mE_flat _
        | (simp [he]; done)
        | (simp [hb, hc]; done)
        | (simp; omega))

theorem whF11 (d1 d2 d3 d4 : Dv) (a b c : List UInt8) (e p er : Int) (h1 : a.length ≤ 200) (h2 : b.length ≤ 200) (h3 : 0 ≤ e) (h4 : e ≤ 6) (he : er ≠ 0) (hb : a ≠ []) (hc : c = []) (c2 : Contract Tryd.prog 11 [.ptr 0 0 0 0, I e] [(⟨1000, 0, true, [], -1⟩ : Dv).box 1, (⟨1000, 0, true, [], -1⟩ : Dv).map] (.tup []) [some (d2.box 1), some d2.map]) (c3 : Contract Tryd.prog 10 [.ptr 0 0 0 0, .val (.string ⟨#[102]⟩), .sl 1 (b.map bR)] [d2.box 1, d2.map] (I er) [some (d3.box 2), none, some d3.map]) (c4 : Contract Tryd.prog 12 [.ptr 0 0 0 0, .sl 1 ([p, p, p].map iR)] [d3.box 1, d3.map] (.tup []) [some (d4.box 1), some d4.map]) (c5 : Contract Tryd.prog 13 [.ptr 0 0 0 0, .val (.string ⟨#[102]⟩)] [d4.box 1, d4.map] (.tup [.sl 1 (c.map bR), Bo false]) [some (d4.box 1), some d4.map]) : Contract Tryd.prog 4 [.sl 1 (a.map bR), .sl 1 (b.map bR), Bo false, I e, I p] [] (Bo true) [] := by
  exact Contract.cast (by
    first
      | rfl) (by
    first
      | rfl) (whF11_0 d1 d2 d3 d4 a b c e p er h1 h2 h3 h4 he hb hc c2 c3 c4 c5 )

/-- What stands on a new device. -/
theorem put_one {R : Int} {nm : ByteArray} {b : List UInt8} (hn : nm.toList ≠ []) (hb : (b.length : Int) ≤ R) : ((⟨R, 0, true, [], -1⟩ : Dv).put nm b) = (one R b.length nm b b.length (-1), 0) := by
  unfold Dv.put
  rw [if_neg (by simp [look])]
  unfold Dv.putA
  rw [appNew R (nm ++ tmpS) b (tmp_nl nm) hb]
  rw [if_neg (fun h => h rfl)]
  have hs : ((⟨R, b.length, false, [(nm ++ tmpS, ⟨b, 0⟩)], -1⟩ : Dv).sync (nm ++ tmpS)) = (⟨R, b.length, false, [(nm ++ tmpS, ⟨b, b.length⟩)], -1⟩, 0) := by
    unfold Dv.sync
    rw [if_neg (by show ¬ ((-1 : Int) = 0); decide)]
    simp [look, put, Dv.went]
  simp only [hs]
  rw [if_neg (fun h => h rfl)]
  unfold Dv.rename
  rw [if_neg (by show ¬ ((-1 : Int) = 0); decide)]
  have hne := (tmp_ne nm).symm
  have hne2 := tmp_ne nm
  simp [look, hn, hne, hne2, one, Dv.went, del, len]
theorem fuse_ok {d : Dv} {n : Int} (hk : Ok d) (hn : n ≤ 9223372036854775807) : Ok {d with fuse := if (-1 : Int) > n then -1 else n} :=
  ⟨hk.used, hk.uniq, hk.sure, hk.nl, by simp only; split <;> omega, hk.room, hk.names, hk.tot, hk.few⟩
theorem sF_ne' : (⟨#[102]⟩ : ByteArray).toList ≠ [] := ba_ne 102 []
theorem wholeT (D : Dv) (a b : List UInt8) (e p : Int) (hk : Ok D) (ht : tot D.fs ≤ 1000) (hl : D.fs.length ≤ 1) (h1 : a.length ≤ 200) (h2 : b.length ≤ 200) (h3 : 0 ≤ e) (h4 : e ≤ 6) (hf : look D.fs ⟨#[102]⟩ = some ⟨a, a.length⟩)
    (c1 : Contract Tryd.prog 10 [.ptr 0 0 0 0, .val (.string ⟨#[102]⟩), .sl 1 (a.map bR)] [(⟨1000, 0, true, [], -1⟩ : Dv).box 1, (⟨1000, 0, true, [], -1⟩ : Dv).map] (I 0) [some (D.box 2), none, some D.map]) :
    Contract Tryd.prog 4 [.sl 1 (a.map bR), .sl 1 (b.map bR), Bo true, I e, I p] [] (Bo true) [] := by
  have hk2 : Ok {D with fuse := if (-1 : Int) > e then -1 else e} := fuse_ok hk (by omega)
  have c3 := cPut _ ⟨#[102]⟩ b hk2 (by simp only; omega) (by decide) (by simp only; omega)
  have hk3 := put_ok (b := b) (nm := ⟨#[102]⟩) hk2 (by simp only; omega) (by decide) (by simp only; omega)
  rcases put_look (b := b) hk2 sF_ne' with ⟨he, h⟩ | ⟨he, h⟩
  · exact whT00 _ _ _ _ a b b e p _ h1 h2 h3 h4 he rfl c1 (cFuse D e) c3 (cCrash _ [p, p, p] hk3) (readC (crash_sure [p, p, p] h (by simp) rfl) (crash_ok hk3 _))
  · exact whT10 _ _ _ _ a b a e p _ h1 h2 h3 h4 he rfl c1 (cFuse D e) c3 (cCrash _ [p, p, p] hk3) (readC (crash_sure [p, p, p] (h.trans hf) (by simp) rfl) (crash_ok hk3 _))
theorem wholeF (a b : List UInt8) (e p : Int) (h1 : a.length ≤ 200) (h2 : b.length ≤ 200) (h3 : 0 ≤ e) (h4 : e ≤ 6) :
    Contract Tryd.prog 4 [.sl 1 (a.map bR), .sl 1 (b.map bR), Bo false, I e, I p] [] (Bo true) [] := by
  have hk : Ok (⟨1000, 0, true, [], -1⟩ : Dv) := newP_ok (by decide) (by decide)
  have hk2 : Ok {(⟨1000, 0, true, [], -1⟩ : Dv) with fuse := if (-1 : Int) > e then -1 else e} := fuse_ok hk (by omega)
  have c3 := cPut _ ⟨#[102]⟩ b hk2 (by simp only [tot]; omega) (by decide) (by simp)
  have hk3 := put_ok (b := b) (nm := ⟨#[102]⟩) hk2 (by simp only [tot]; omega) (by decide) (by simp)
  rcases put_look (b := b) hk2 sF_ne' with ⟨he, h⟩ | ⟨he, h⟩
  · exact whF00 ⟨0, 0, true, [], 0⟩ _ _ _ a b b e p _ h1 h2 h3 h4 he rfl (cFuse _ e) c3 (cCrash _ [p, p, p] hk3) (readC (crash_sure [p, p, p] h (by simp) rfl) (crash_ok hk3 _))
  · have hr := cRead _ ⟨#[102]⟩ (crash_ok hk3 [p, p, p])
    rw [crash_none [p, p, p] (h.trans rfl)] at hr
    cases a with
    | nil => exact whF10 ⟨0, 0, true, [], 0⟩ _ _ _ [] b [] e p _ h1 h2 h3 h4 he rfl rfl (cFuse _ e) c3 (cCrash _ [p, p, p] hk3) hr
    | cons x a => exact whF11 ⟨0, 0, true, [], 0⟩ _ _ _ (x :: a) b [] e p _ h1 h2 h3 h4 he (List.cons_ne_nil _ _) rfl (cFuse _ e) c3 (cCrash _ [p, p, p] hk3) hr
theorem cShelfWhole (a b : List UInt8) (t : Bool) (e p : Int) : Contract Tryd.prog 4 [.sl 1 (a.map bR), .sl 1 (b.map bR), Bo t, I e, I p] [] (Bo true) [] := by
  by_cases h1 : 200 < a.length
  · exact whX0 a b t e p h1
  by_cases h2 : 200 < b.length
  · exact whX1 a b t e p (by omega) h2
  by_cases h3 : e < 0
  · exact whX2 a b t e p (by omega) (by omega) h3
  by_cases h4 : 6 < e
  · exact whX3 a b t e p (by omega) (by omega) (by omega) h4
  cases t with
  | false => exact wholeF a b e p (by omega) (by omega) (by omega) (by omega)
  | true =>
    have c1 := cPut (⟨1000, 0, true, [], -1⟩ : Dv) ⟨#[102]⟩ a (newP_ok (by decide) (by decide)) (by simp only [tot]; omega) (by decide) (by decide)
    rw [put_one sF_ne' (by omega)] at c1
    refine wholeT _ a b e p (one_ok rfl (by omega) (by omega) (by omega) (by decide) (by decide) ⟨by decide, by decide⟩) ?_ (by simp [one]) (by omega) (by omega) (by omega) (by omega) one_look c1
    simp only [one, tot]
    omega
open Go.ChangeShapes Go.WideShapes Go.ChangeAt Go.RowKit
theorem typed_all {α : Type} {f : α → List V} {rows : List (List V)} (h : ∀ r ∈ rows, ∃ e : α, r = f e) : ∃ es : List α, rows = es.map f := by
  induction rows with
  | nil => exact ⟨[], rfl⟩
  | cons r rows ih =>
    obtain ⟨e, rfl⟩ := h r (by simp)
    obtain ⟨es, rfl⟩ := ih fun r hr => h r (by simp [hr])
    exact ⟨e :: es, rfl⟩
theorem typed_b {r : List V} {B d : Nat} (h : Typed Tryd.prog B (d + 1) 5 r) : ∃ b : UInt8, r = bR b := by
  obtain ⟨n, rfl, hn⟩ := typed_int Tryd.underlying5 h
  simp [Lit.wf, IntKind.min, IntKind.max, IntKind.signed, IntKind.bits] at hn
  refine ⟨UInt8.ofNat n.toNat, ?_⟩
  have : ((UInt8.ofNat n.toNat).toNat : Int) = n := by simp; omega
  simp only [bR, intRow, this]
theorem own : ownKnob Tryd.prog.godebug = none := by kernel_rfl
theorem laidOut : laidOutB Tryd.prog = true := by kernel_rfl
def laidL : List (String × DataW Unit) := [("math/bits.deBruijn32tab", Rows.laid_math_bits_deBruijn32tab), ("math/bits.deBruijn64tab", Rows.laid_math_bits_deBruijn64tab), ("internal/strconv.uint64pow10", Rows.laid_internal_strconv_uint64pow10)]
/-- The door's own heap meets the condition. -/
theorem door_met (os : Os) (args : Array Value) : laidMetH Tryd.prog laidL ((World.doorLaid Tryd.prog 400 os).forCall (fun _ _ => 0) ⟨#[], args, []⟩).memory :=
  laidMetH_of_parts3 (fuel := 8) (laidMet_of_run' 8 (by kernel_rfl) (by kernel_rfl)) (by kernel_rfl) (by kernel_rfl)
theorem shelfWhole_lifted (os : Os) (started : os.Started) (H : Type) (enc : TypeId × Value → H) :
    ReturnsInHanded {} Tryd.checked os 4 .any (fun w args => (Rows.shelfWholeSpec.pre enc Tryd.prog Tryd.f4 [] false w args ∧ laidMetH Tryd.prog laidL w) ∧ sizedMet enc Tryd.prog Tryd.f4 (OpenSpec.ofChange Rows.shelfWholeSpec) false w args)
      (Rows.shelfWholeSpec.post enc Tryd.prog Tryd.f4 false true false false) := by
  refine returnsInHanded_of_change_and (C := Tryd.checked) (X := fun w _ => laidMetH Tryd.prog laidL w) (fun _ _ _ hh h => h.of_heap hh) own started (by kernel_rfl) Tryd.func4
    (ChangeSpec.witness_shaped (enc := enc) (C := Tryd.checked) (os := os) (X := fun w _ => laidMetH Tryd.prog laidL w) false (World.doorLaid Tryd.prog 400 os) #[.slice none 0 0, .slice none 0 0, .bool false, .int .i64 0, .int .i64 0] 8 rfl (World.shaped_of_RefB (by kernel_rfl) (by kernel_rfl)) (by kernel_rfl) (by kernel_rfl) (by kernel_rfl) (door_met os _)) ?_
  intro W base args ds gs before hval hW _ _ _ _
  refine row_of (P := Tryd.prog) (tb := 4) laidOut rfl (by kernel_rfl) (by kernel_rfl) (by kernel_rfl) Tryd.underlying4 (fun ds h => ?_) (fun us h => ?_) W base args ds gs before hval hW
  · match ds, h with
    | [_, _, _, _, _], _ => rfl
  · obtain ⟨u0, _, rfl, h0, u1, _, rfl, h1, u2, _, rfl, h2, u3, _, rfl, h3, u4, _, rfl, h4, rfl⟩ := h
    obtain ⟨rows0, rfl, _, hr0⟩ := arg_slice Tryd.underlying26 h0
    obtain ⟨a, rfl⟩ := typed_all (f := bR) fun r h => typed_b (hr0 r h)
    obtain ⟨rows1, rfl, _, hr1⟩ := arg_slice Tryd.underlying26 h1
    obtain ⟨b, rfl⟩ := typed_all (f := bR) fun r h => typed_b (hr1 r h)
    obtain ⟨t, rfl⟩ := arg_bool Tryd.underlying4 h2
    obtain ⟨e, rfl, he⟩ := arg_int Tryd.underlying3 h3
    obtain ⟨p, rfl, hp⟩ := arg_int Tryd.underlying3 h4
    exact cShelfWhole a b t e p

theorem shelfWhole_said : Rows.ShelfWholeSaid :=
  OpenClaim.holds_of_wide 4 Tryd.f4 rfl rfl rfl rfl rfl rfl rfl ⟨rfl, rfl, rfl, rfl, rfl⟩ rfl rfl rfl rfl rfl (by kernel_rfl) Tryd.func4 (by kernel_rfl)
    (of_decide_eq_true (by kernel_rfl)) (by unfold Func.isWrapper; first | (rw [if_pos (by decide +kernel)]; kernel_rfl) | (rw [if_neg (by decide +kernel)]; exact ⟨rfl, rfl⟩))
    (fun os started H enc _ => shelfWhole_lifted os started H enc)
theorem ShelfWholeCard_proved : Rows.ShelfWholeCardSaid :=
  Claim7.holds_tied_plain_at .later [] [.data, .data, .data] true (true, "186a4899463cb9ec313ce9ba8a947694a5c8bc812a87f014e356d728d7264bdf") false shelfWhole_said (fun _ h => by cases h) (by kernel_rfl) (fun _ h => by cases h) shelfWhole_row_tie rfl ⟨rfl, rfl⟩ (by kernel_rfl) rfl
    (fun f fn hf hfn => by
      obtain rfl : f = 4 := Option.some.inj ((show Tryd.prog.funcNamed "gleaning/gleaninglaw24.ShelfWhole" = some 4 by kernel_rfl).symm.trans hf) |>.symm
      obtain rfl : fn = Tryd.f4 := (Option.some.inj (Tryd.func4.symm.trans hfn)).symm
      exact ⟨by kernel_rfl, fun j t ht => by
        have hm : t ∈ Tryd.f4.params.toList := by simpa using Array.mem_of_getElem? ht
        have hall : (Tryd.f4.params.toList.all fun u => !Tryd.prog.wantsStandIn u) = true := by kernel_rfl
        exact (show Tryd.prog.wantsStandIn t = false by simpa using List.all_eq_true.1 hall t hm)⟩)
    (by kernel_rfl)
#print axioms ShelfWholeCard_proved
end Go.Proofs.YtinfjnnffmlpmaaDoor
