/- merge: one block of two. -/
import Derived.Test.YtfpdlamjlbpmkaaEpA
namespace Go.Proofs.Ytfpdlamjlbpmkaa
open E
set_option maxRecDepth 100000
set_option linter.unusedVariables false
set_option linter.unusedSimpArgs false


def coS (A B R : List Ep) (i : Nat) : SL := ⟨[(6, .own 0), (25, .sl 1 [[.sl 6 (A.map Ep.row)], [.sl 6 (B.map Ep.row)]]), (26, I 2), (27, I (i : Int))], [(0, .arr 6 (R.map Ep.row))], [0]⟩
def maxI (a b : Int) : Int := bif decide (a ≥ b) then a else b
noncomputable def coB : Code := codeAt Try.prog 21 [true, true, true, true, false, true, false, false]

theorem gr0_0   : Contract Try.prog 31 [.nil, I 0] [] (V.own (0 : Nat)) ([some (Obj.arr (6 : Nat) [])]) :=
  vcP hmix [.reg 6 [(0, [.idx 6], none)]] [1201000] [
      ] (by kernel_rfl)
    trivial

theorem gr0   : Contract Try.prog 31 [.nil, I 0] [] (.own 0) [some (.arr 6 [])] := by
  exact Contract.cast (by
    first
      | rfl) (by
    first
      | rfl) (gr0_0   )

theorem grP_0 (n : Nat) (h : 0 < n) (hn : n ≤ 1000000) : Contract Try.prog 31 [.nil, I (n : Int)] [] (V.own (0 : Nat)) ([some (Obj.arr (6 : Nat) [])]) :=
  vcP hmix [.reg 1 [(1, [], some false)], .reg 3 [(5, [.be (I 0)], none), (6, [.be (I ((n : Nat) : Int))], none)], .reg 4 [(1, [], some true)], .reg 5 [(0, [.idx 6, .idx 2, .idx 0], none), (3, [.idx 0], none), (8, [.idx 0], none), (9, [.idx 0], none)]] [1010000] [
      false = false,
      (0 : Int) = (0 : Int),
      IntKind.wrap IntKind.i64 (Int.ofNat n) = Int.ofNat n,
      decide (Int.ofNat n > (0 : Int)) = true,
      (0 : Int) ≤ (0 : Int),
      (0 : Int) ≤ (0 : Int),
      (0 : Nat) ≤ (0 : Nat),
      (0 : Nat) ≤ (0 : Nat),
      (0 : Int) ≤ Int.ofNat n,
      (0 : Nat) < (0 : Nat) + n,
      ((0 : Nat) + n) * (64 : Nat) ≤ (140737488355328 : Nat),
      (0 : Int) ≤ (0 : Int),
      (0 : Int) ≤ (0 : Int),
      (0 : Nat) ≤ List.length (List.replicate n [V.val (Value.int IntKind.u64 (0 : Int)), V.val (Value.int IntKind.u64 (0 : Int)), I (0 : Int), I (0 : Int), Bo false, V.nil]),
      (0 : Nat) ≤ List.length (List.replicate n [V.val (Value.int IntKind.u64 (0 : Int)), V.val (Value.int IntKind.u64 (0 : Int)), I (0 : Int), I (0 : Int), Bo false, V.nil])] (by kernel_rfl)
    (by
      simp only [allP]
      and_intros <;> first
        | omega
        | (simp; omega)
        | exact i64_small (by simp; omega)
        | (simp; done))

theorem grP (n : Nat) (h : 0 < n) (hn : n ≤ 1000000) : Contract Try.prog 31 [.nil, I (n : Int)] [] (.own 0) [some (.arr 6 [])] := by
  exact Contract.cast (by
    first
      | rfl) (by
    first
      | rfl) (grP_0 n h hn )

theorem cGrow (n : Nat) (hn : n ≤ 1000000) : Contract Try.prog 31 [.nil, I (n : Int)] [] (.own 0) [some (.arr 6 [])] := by
  by_cases h : n = 0
  · subst h; exact gr0
  · exact grP n (by omega) hn

theorem coA_0 (A B R : List Ep) (hA : A.length ≤ 1000000) (hB : B.length ≤ 1000000) (hR : R.length ≤ 1000000) : CodeC Try.prog 0 36 coB (coS A B R 0) (Ex.normal) ({ env := [((6 : Nat), V.own (0 : Nat)), ((25 : Nat), V.sl (1 : Nat) [[V.sl (6 : Nat) (List.map Ep.row A)], [V.sl (6 : Nat) (List.map Ep.row B)]]), ((26 : Nat), I (2 : Int)), ((27 : Nat), I (1 : Int))], st := [((0 : Nat), Obj.arr (6 : Nat) (List.map Ep.row (R ++ A)))], ids := [(0 : Nat)] }) :=
  runP hmix [.reg 13 [(2, [.beO ((R ++ A).map Ep.row)], none)]] ⟨[6, 25, 26, 27], [(2603000, 0)], []⟩ [
      (0 : Int) ≤ (0 : Int),
      (0 : Int) < (2 : Int),
      (List.length (List.map Ep.row R) + List.length (List.map Ep.row A)) * (64 : Nat) ≤ (140737488355328 : Nat),
      List.map Ep.row R ++ List.map Ep.row A = List.map Ep.row (R ++ A)] (by kernel_rfl)
    (by
      simp only [allP]
      and_intros <;> first
        | omega
        | (simp; omega)
        | (simp; done))

theorem coA (A B R : List Ep) (hA : A.length ≤ 1000000) (hB : B.length ≤ 1000000) (hR : R.length ≤ 1000000)  : CodeC Try.prog 0 36 coB (coS A B R 0) .normal (coS A B (R ++ A) 1) := by
  exact CodeC.cast (by
    first
      | rfl) (coA_0 A B R hA hB hR )

theorem coB1_0 (A B R : List Ep) (hA : A.length ≤ 1000000) (hB : B.length ≤ 1000000) (hR : R.length ≤ 1000000) : CodeC Try.prog 0 36 coB (coS A B R 1) (Ex.normal) ({ env := [((6 : Nat), V.own (0 : Nat)), ((25 : Nat), V.sl (1 : Nat) [[V.sl (6 : Nat) (List.map Ep.row A)], [V.sl (6 : Nat) (List.map Ep.row B)]]), ((26 : Nat), I (2 : Int)), ((27 : Nat), I (2 : Int))], st := [((0 : Nat), Obj.arr (6 : Nat) (List.map Ep.row (R ++ B)))], ids := [(0 : Nat)] }) :=
  runP hmix [.reg 13 [(2, [.beO ((R ++ B).map Ep.row)], none)]] ⟨[6, 25, 26, 27], [(2603000, 0)], []⟩ [
      (0 : Int) ≤ (1 : Int),
      (1 : Int) < (2 : Int),
      (List.length (List.map Ep.row R) + List.length (List.map Ep.row B)) * (64 : Nat) ≤ (140737488355328 : Nat),
      List.map Ep.row R ++ List.map Ep.row B = List.map Ep.row (R ++ B)] (by kernel_rfl)
    (by
      simp only [allP]
      and_intros <;> first
        | omega
        | (simp; omega)
        | (simp; done))

theorem coB1 (A B R : List Ep) (hA : A.length ≤ 1000000) (hB : B.length ≤ 1000000) (hR : R.length ≤ 1000000)  : CodeC Try.prog 0 36 coB (coS A B R 1) .normal (coS A B (R ++ B) 2) := by
  exact CodeC.cast (by
    first
      | rfl) (coB1_0 A B R hA hB hR )

theorem coE_0 (A B R : List Ep)  : CodeC Try.prog 0 36 coB (coS A B R 2) (Ex.exit (2 : Nat)) ({ env := [((6 : Nat), V.own (0 : Nat)), ((25 : Nat), V.sl (1 : Nat) [[V.sl (6 : Nat) (List.map Ep.row A)], [V.sl (6 : Nat) (List.map Ep.row B)]]), ((26 : Nat), I (2 : Int)), ((27 : Nat), I (2 : Int))], st := [((0 : Nat), Obj.arr (6 : Nat) (List.map Ep.row R))], ids := [(0 : Nat)] }) :=
  runP hmix [] ⟨[6, 25, 26, 27], [(0, 0)], []⟩ [
      ] (by kernel_rfl)
    trivial

theorem coE (A B R : List Ep)   : CodeC Try.prog 0 36 coB (coS A B R 2) (.exit 2) (coS A B R 2) := by
  exact CodeC.cast (by
    first
      | rfl) (coE_0 A B R  )

theorem cConcat_0 (A B : List Ep) (hA : A.length ≤ 250000) (hB : B.length ≤ 250000) : Contract Try.prog 21 [.sl 1 [[.sl 6 (A.map Ep.row)], [.sl 6 (B.map Ep.row)]]] [] (V.sl (6 : Nat) (List.map Ep.row (A ++ B))) ([]) :=
  vcP hmix [.unroll 3, .reg 5 [(2, [.be (I (A.length : Int))], none), (3, [.be (I ((A.length : Nat) : Int))], none)], .reg 6 [(1, [], some false)], .reg 5 [(2, [.be (I (B.length : Int))], none), (3, [.be (I ((A.length + B.length : Nat) : Int))], none)], .reg 6 [(1, [], some false)], .reg 9 [(1, [.idx 0, .call [] [] (.own 0) [some (.arr 6 [])]], none)], .cut ⟨[6, 25, 26, 27], [(1802001, 0)], []⟩ (.exit 2) (coS A B (A ++ B) 2), .reg 15 [(0, [.idx 1], none)]] [] [
      (0 : Int) ≤ (0 : Int),
      (0 : Int) < (2 : Int),
      Int.ofNat (List.length (List.map Ep.row A)) = Int.ofNat (List.length A),
      IntKind.wrap IntKind.i64 (Int.ofNat ((0 : Nat) + List.length A)) = Int.ofNat (List.length A),
      false = false,
      (0 : Int) ≤ (1 : Int),
      (1 : Int) < (2 : Int),
      Int.ofNat (List.length (List.map Ep.row B)) = Int.ofNat (List.length B),
      IntKind.wrap IntKind.i64 (Int.ofNat (List.length A + List.length B)) = Int.ofNat (List.length A + List.length B),
      false = false,
      Contract Try.prog (31 : Nat) [V.nil, I (Int.ofNat (List.length A + List.length B))] [] (V.own (0 : Nat)) [some (Obj.arr (6 : Nat) [])],
      LoopC Try.prog (0 : Nat) (36 : Nat) coB { env := [((6 : Nat), V.own (0 : Nat)), ((25 : Nat), V.sl (1 : Nat) [[V.sl (6 : Nat) (List.map Ep.row A)], [V.sl (6 : Nat) (List.map Ep.row B)]]), ((26 : Nat), I (2 : Int)), ((27 : Nat), I (0 : Int))], st := [((0 : Nat), Obj.arr (6 : Nat) [])], ids := [(0 : Nat)] } (Ex.exit (2 : Nat)) { env := [((6 : Nat), V.own (0 : Nat)), ((25 : Nat), V.sl (1 : Nat) [[V.sl (6 : Nat) (List.map Ep.row A)], [V.sl (6 : Nat) (List.map Ep.row B)]]), ((26 : Nat), I (2 : Int)), ((27 : Nat), I (2 : Int))], st := [((0 : Nat), Obj.arr (6 : Nat) (List.map Ep.row (A ++ B)))], ids := [(0 : Nat)] }] (by kernel_rfl)
    (by
      simp only [allP]
      and_intros <;> first
        | omega
        | (simp; done)
        | exact i64_small (by simp; omega)
        | (rw [i64_small (by simp; omega)]; simp; done)
        | exact cGrow _ (by omega)
        | exact LoopC.next (coA A B [] (by omega) (by omega) (by simp)) (LoopC.next (coB1 A B A (by omega) (by omega) (by omega)) (LoopC.last (coE A B (A ++ B)) (by simp))))

theorem cConcat (A B : List Ep) (hA : A.length ≤ 250000) (hB : B.length ≤ 250000) : Contract Try.prog 21 [.sl 1 [[.sl 6 (A.map Ep.row)], [.sl 6 (B.map Ep.row)]]] [] (.sl 6 ((A ++ B).map Ep.row)) [] := by
  exact Contract.cast (by
    first
      | rfl) (by
    first
      | rfl) (cConcat_0 A B hA hB )

end Go.Proofs.Ytfpdlamjlbpmkaa
