/- TreeTells: of any spans who is whose parent, in which order they stand, how deep, and how many are below each. Without conditions. -/
import Derived.Test.YthhggnnfiohnpaaTrTellsP4
import Derived.Test.YthhggnnfiohnpaaRows
namespace Go.Proofs.Ythhggnnfiohnpaa
open E
set_option maxRecDepth 100000
set_option linter.unusedVariables false
set_option linter.unusedSimpArgs false

theorem ttA_0 (l : List Sp) (h : fewAll l = false) : Contract Try.prog 4 [.sl 10 (l.map Sp.row)] [] (Bo true) ([]) :=
  vcP hmix [.reg 2 [(4, [.call [] [] (Bo (fewAll l)) []], some false)], .tab [(7, FAl)]] [] [
      Contract Try.prog (7 : Nat) [] [] (Bo true) [],
      Contract Try.prog (10 : Nat) [V.sl (10 : Nat) (List.map Sp.row l)] [] (Bo (fewAll l)) [],
      fewAll l = false] (by kernel_rfl)
    (by
      simp only [allP]
      and_intros <;> first
        | omega
        | exact cAlive
        | exact cFewAll l)

theorem ttA (l : List Sp) (h : fewAll l = false) : Contract Try.prog 4 [.sl 10 (l.map Sp.row)] [] (Bo true) [] := by
  exact Contract.cast (by
    first
      | rfl) (by
    first
      | rfl) (ttA_0 l h )

theorem ttB_0 (l : List Sp) (h : fewAll l = true) (hl : l.length ≤ 60) : Contract Try.prog 4 [.sl 10 (l.map Sp.row)] [] (Bo true) ([]) :=
  vcP hmix [.reg 2 [(4, [.call [] [] (Bo (fewAll l)) []], some true)], .reg 4 [(1, [.beO (l.map Sp.row)], none)], .reg 5 [(1, [.call [] [] (.own 0) [some (.arr 1 ((parF l).map bI))]], none), (3, [.call [] [] (.own 0) [some (.arr 1 ((parF l).map bI))]], none), (4, [.call [] [] (Bo true) []], none), (7, [.call [] [] (.own 0) [some (.arr 1 ((ordX l).map Ix.row))]], none), (9, [.call [] [] (.own 0) [some (.arr 1 ((ordX l).map Ix.row))]], none), (10, [.call [] [] (Bo true) []], none), (14, [.call [] [] (.own 0) [some (.arr 1 ((depF l).map bI))]], none), (16, [.call [] [] (.own 0) [some (.arr 1 ((depF l).map bI))]], none), (17, [.call [] [] (Bo true) []], none), (21, [.call [] [] (.own 0) [some (.arr 1 ((sizF l).map bI))]], none), (23, [.call [] [] (.own 0) [some (.arr 1 ((sizF l).map bI))]], none), (24, [.call [] [] (Bo true) []], none)], .tab [(7, FAl)]] [] [
      Contract Try.prog (7 : Nat) [] [] (Bo true) [],
      Contract Try.prog (10 : Nat) [V.sl (10 : Nat) (List.map Sp.row l)] [] (Bo (fewAll l)) [],
      fewAll l = true,
      List.length (List.map Sp.row l) * (112 : Nat) ≤ (140737488355328 : Nat),
      List.map Sp.row l = List.map Sp.row l,
      Contract Try.prog (8 : Nat) [V.sl (10 : Nat) (List.map Sp.row l)] [] (V.own (0 : Nat)) [some (Obj.arr (1 : Nat) (List.map bI (parF l)))],
      true = true,
      FlatRows (List.map bI (parF l)),
      Contract Try.prog (12 : Nat) [V.sl (10 : Nat) (List.map Sp.row l)] [] (V.own (0 : Nat)) [some (Obj.arr (1 : Nat) (List.map bI (parF l)))],
      Contract Try.prog (11 : Nat) [V.sl (1 : Nat) (List.map bI (parF l)), V.sl (1 : Nat) (List.map bI (parF l))] [] (Bo true) [],
      true = true,
      Contract Try.prog (13 : Nat) [V.sl (10 : Nat) (List.map Sp.row l)] [] (V.own (0 : Nat)) [some (Obj.arr (1 : Nat) (List.map Ix.row (ordX l)))],
      true = true,
      FlatRows (List.map Ix.row (ordX l)),
      Contract Try.prog (14 : Nat) [V.sl (10 : Nat) (List.map Sp.row l)] [] (V.own (0 : Nat)) [some (Obj.arr (1 : Nat) (List.map Ix.row (ordX l)))],
      Contract Try.prog (11 : Nat) [V.sl (1 : Nat) (List.map Ix.row (ordX l)), V.sl (1 : Nat) (List.map Ix.row (ordX l))] [] (Bo true) [],
      true = true,
      Contract Try.prog (9 : Nat) [V.sl (10 : Nat) (List.map Sp.row l)] [] (V.own (0 : Nat)) [some (Obj.arr (1 : Nat) (List.map bI (depF l)))],
      true = true,
      FlatRows (List.map bI (depF l)),
      Contract Try.prog (15 : Nat) [V.sl (10 : Nat) (List.map Sp.row l)] [] (V.own (0 : Nat)) [some (Obj.arr (1 : Nat) (List.map bI (depF l)))],
      Contract Try.prog (11 : Nat) [V.sl (1 : Nat) (List.map bI (depF l)), V.sl (1 : Nat) (List.map bI (depF l))] [] (Bo true) [],
      true = true,
      Contract Try.prog (16 : Nat) [V.sl (10 : Nat) (List.map Sp.row l)] [] (V.own (0 : Nat)) [some (Obj.arr (1 : Nat) (List.map bI (sizF l)))],
      true = true,
      FlatRows (List.map bI (sizF l)),
      Contract Try.prog (17 : Nat) [V.sl (10 : Nat) (List.map Sp.row l)] [] (V.own (0 : Nat)) [some (Obj.arr (1 : Nat) (List.map bI (sizF l)))],
      Contract Try.prog (11 : Nat) [V.sl (1 : Nat) (List.map bI (sizF l)), V.sl (1 : Nat) (List.map bI (sizF l))] [] (Bo true) [],
      true = true] (by kernel_rfl)
    (by
      simp only [allP]
      and_intros <;> first
        | omega
        | exact cAlive
        | exact cFewAll l
        | exact cPar l (by omega)
        | exact cRPar' l (by omega)
        | exact cOrder l (by omega)
        | exact cROrder l (by omega)
        | exact cDepths l (by omega)
        | exact cRDepths l (by omega)
        | exact cSizes l (by omega)
        | exact cRSizes l (by omega)
        | exact cSame _ (by rw [parF_len]; omega)
        | exact cSame _ (by rw [depF_len]; omega)
        | exact cSame _ (by rw [sizF_len]; omega)
        | exact cSameX _ (by have := ordP_len l; simp only [ordX, List.length_map]; omega)
        | exact flatI _
        | exact flatX _
        | (simp; omega)
        | (simp; done))

theorem ttB (l : List Sp) (h : fewAll l = true) (hl : l.length ≤ 60) : Contract Try.prog 4 [.sl 10 (l.map Sp.row)] [] (Bo true) [] := by
  exact Contract.cast (by
    first
      | rfl) (by
    first
      | rfl) (ttB_0 l h hl )

theorem cTells (l : List Sp) : Contract Try.prog 4 [.sl 10 (l.map Sp.row)] [] (Bo true) [] := by
  cases h : fewAll l with
  | false => exact ttA l h
  | true => exact ttB l h (fewAll_len h).1

open Go.ChangeShapes Go.WideShapes Go.ChangeAt Go.RowKit
theorem typed_all {α : Type} {f : α → List V} {rows : List (List V)} (h : ∀ r ∈ rows, ∃ e : α, r = f e) : ∃ es : List α, rows = es.map f := by
  induction rows with
  | nil => exact ⟨[], rfl⟩
  | cons r rows ih =>
    obtain ⟨e, rfl⟩ := h r (by simp)
    obtain ⟨es, rfl⟩ := ih fun r hr => h r (by simp [hr])
    exact ⟨e :: es, rfl⟩
theorem typed_at {r : List V} {B d : Nat} (h : Typed Try.prog B (d + 2) 50 r) : ∃ e : At, r = At.row e := by
  obtain ⟨_, _, rfl, h0x0, _, _, rfl, h0x1, rfl⟩ :
    catFields (Typed Try.prog B (d + 1)) [⟨"Key", 9, 0, false, "", "", 0⟩, ⟨"Value", 9, 1, false, "", "", 16⟩] _ := typed_struct Try.underlying50 h
  obtain ⟨vk, rfl, _⟩ := typed_string Try.underlying9 h0x0
  obtain ⟨vw, rfl, _⟩ := typed_string Try.underlying9 h0x1
  exact ⟨At.mk vk vw, rfl⟩
theorem typed_sp {r : List V} {B d : Nat} (h : Typed Try.prog B (d + 4) 29 r) : ∃ e : Sp, r = Sp.row e := by
  obtain ⟨_, _, rfl, h0x0, _, _, rfl, h0x1, _, _, rfl, h0x2, _, _, rfl, h0x3, _, _, rfl, h0x4, _, _, rfl, h0x5, _, _, rfl, h0x6, _, _, rfl, h0x7, _, _, rfl, h0x8, rfl⟩ :
    catFields (Typed Try.prog B (d + 3)) [⟨"Trace", 26, 0, false, "", "", 0⟩, ⟨"Id", 24, 2, false, "", "", 16⟩, ⟨"Parent", 24, 3, false, "", "", 24⟩, ⟨"Service", 9, 4, false, "", "", 32⟩, ⟨"Op", 9, 5, false, "", "", 48⟩, ⟨"Start", 3, 6, false, "", "", 64⟩, ⟨"Dur", 3, 7, false, "", "", 72⟩, ⟨"Err", 4, 8, false, "", "", 80⟩, ⟨"Attrs", 27, 9, false, "", "", 88⟩] _ := typed_struct Try.underlying29 h
  obtain ⟨_, _, rfl, h1x0, _, _, rfl, h1x1, rfl⟩ :
    catFields (Typed Try.prog B (d + 2)) [⟨"Hi", 24, 0, false, "", "", 0⟩, ⟨"Lo", 24, 1, false, "", "", 8⟩] _ := typed_struct Try.underlying26 h0x0
  obtain ⟨vhi, rfl, _⟩ := typed_int Try.underlying24 h1x0
  obtain ⟨vlo, rfl, _⟩ := typed_int Try.underlying24 h1x1
  obtain ⟨vid, rfl, _⟩ := typed_int Try.underlying24 h0x1
  obtain ⟨vpar, rfl, _⟩ := typed_int Try.underlying24 h0x2
  obtain ⟨vsvc, rfl, _⟩ := typed_string Try.underlying9 h0x3
  obtain ⟨vop, rfl, _⟩ := typed_string Try.underlying9 h0x4
  obtain ⟨vst, rfl, _⟩ := typed_int Try.underlying3 h0x5
  obtain ⟨vdu, rfl, _⟩ := typed_int Try.underlying3 h0x6
  obtain ⟨ver, rfl⟩ := typed_bool Try.underlying4 h0x7
  obtain ⟨wat, rfl, _, qat⟩ := typed_slice Try.underlying27 h0x8
  obtain ⟨vat, rfl⟩ := typed_all (f := At.row) fun r h => typed_at (qat r h)
  exact ⟨Sp.mk vhi vlo vid vpar vsvc vop vst vdu ver vat, rfl⟩
theorem own : ownKnob Try.prog.godebug = none := by kernel_rfl
theorem laidOut : laidOutB Try.prog = true := by kernel_rfl
theorem treeTells_lifted (os : Os) (started : os.Started) (H : Type) (enc : TypeId × Value → H) :
    ReturnsInHanded {} Try.checked os 4 .any (Rows.treeTellsSpec.pre6 enc Try.prog Try.f4 Rows.treeTellsRow.domain false) (Rows.treeTellsSpec.post enc Try.prog Try.f4 false true false false) := by
  refine returnsInHanded_of_change (C := Try.checked) own started (by kernel_rfl) Try.func4
    (ChangeSpec.witness6 (enc := enc) (C := Try.checked) false ⟨#[], #[.slice none 0 0], []⟩ 8 (by kernel_rfl) (by kernel_rfl) (by kernel_rfl) (by kernel_rfl)) ?_
  intro W base args ds gs before hval hW _ _
  refine row_of (P := Try.prog) (tb := 4) laidOut rfl (by kernel_rfl) (by kernel_rfl) (by kernel_rfl) Try.underlying4 (fun ds h => ?_) (fun us h => ?_) W base args ds gs before hval hW
  · match ds, h with
    | [_], _ => rfl
  · obtain ⟨u0, _, rfl, h0, rfl⟩ := h
    obtain ⟨rows0, rfl, _, hr0⟩ := arg_slice Try.underlying23 h0
    obtain ⟨l, rfl⟩ := typed_all (f := Sp.row) fun r h => typed_sp (hr0 r h)
    exact cTells l

theorem TreeTells_proved : Rows.TreeTellsSaid :=
  OpenClaim.holds_of_wide 4 Try.f4 rfl rfl rfl rfl rfl rfl rfl ⟨rfl, rfl, rfl, rfl, rfl⟩ rfl rfl rfl rfl rfl (by kernel_rfl) Try.func4 (by kernel_rfl)
    (of_decide_eq_true (by kernel_rfl)) (by unfold Func.isWrapper; first | (rw [if_pos (by decide +kernel)]; kernel_rfl) | (rw [if_neg (by decide +kernel)]; exact ⟨rfl, rfl⟩))
    (fun os started H enc _ => treeTells_lifted os started H enc)
#print axioms TreeTells_proved
end Go.Proofs.Ythhggnnfiohnpaa
