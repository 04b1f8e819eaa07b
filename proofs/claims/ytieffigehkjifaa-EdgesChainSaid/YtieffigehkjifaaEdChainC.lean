/- edges: the chain. -/
import Derived.Test.YtieffigehkjifaaEdChainP4
import Derived.Test.YtieffigehkjifaaRows
namespace Go.Proofs.Ytieffigehkjifaa
open E
set_option maxRecDepth 100000
set_option linter.unusedVariables false
set_option linter.unusedSimpArgs false


def spA : Sp := ⟨0, 0, 1, 0, ⟨#[97]⟩, ⟨#[120]⟩, 0, 0, false, []⟩
def spB : Sp := ⟨0, 0, 2, 1, ⟨#[98]⟩, ⟨#[120]⟩, 0, 0, true, []⟩
def edAB : Ed := Ed.mk ⟨#[97]⟩ ⟨#[98]⟩ 1 1
def FAlive : List V → Option V := fun _ => some (Bo true)
theorem aliveE : addE [] [spA, spB] 9 = [edAB] := by kernel_rfl
theorem aliveE0 : addE [] [] 9 = [] := rfl
theorem cAlive  : Contract Try.prog 6 [] [] (Bo true) [] :=
  vcP hmix [.reg 1 [(3, [.call [] [] (.own 0) [some (.arr 4 [Ed.row edAB])]], none)], .reg 2 [(0, [.call [] [] (.own 0) [some (.arr 4 [])]], none), (11, [.row (Ed.row edAB)], none)]] [] [
      Contract Try.prog (8 : Nat) [V.sl (4 : Nat) [], V.sl (10 : Nat) [[V.val (Value.int IntKind.u64 (0 : Int)), V.val (Value.int IntKind.u64 (0 : Int)), V.val (Value.int IntKind.u64 (1 : Int)), V.val (Value.int IntKind.u64 (0 : Int)), Sg { data := { toList := [(97 : UInt8)] } }, Sg { data := { toList := [(120 : UInt8)] } }, I (0 : Int), I (0 : Int), Bo false, V.sl (2 : Nat) []], [V.val (Value.int IntKind.u64 (0 : Int)), V.val (Value.int IntKind.u64 (0 : Int)), V.val (Value.int IntKind.u64 (2 : Int)), V.val (Value.int IntKind.u64 (1 : Int)), Sg { data := { toList := [(98 : UInt8)] } }, Sg { data := { toList := [(120 : UInt8)] } }, I (0 : Int), I (0 : Int), Bo true, V.sl (2 : Nat) []]], I (9 : Int)] [] (V.own (0 : Nat)) [some (Obj.arr (4 : Nat) [Ed.row { fr := { data := { toList := [(97 : UInt8)] } }, to := { data := { toList := [(98 : UInt8)] } }, cnt := (1 : Int), errs := (1 : Int) }])],
      true = true,
      FlatRows [Ed.row { fr := { data := { toList := [(97 : UInt8)] } }, to := { data := { toList := [(98 : UInt8)] } }, cnt := (1 : Int), errs := (1 : Int) }],
      Contract Try.prog (8 : Nat) [V.sl (4 : Nat) [], V.sl (10 : Nat) [], I (9 : Int)] [] (V.own (0 : Nat)) [some (Obj.arr (4 : Nat) [])],
      (0 : Int) ≤ (0 : Int),
      (0 : Int) < (1 : Int),
      some (Ed.row { fr := { data := { toList := [(97 : UInt8)] } }, to := { data := { toList := [(98 : UInt8)] } }, cnt := (1 : Int), errs := (1 : Int) }) = some (Ed.row { fr := { data := { toList := [(97 : UInt8)] } }, to := { data := { toList := [(98 : UInt8)] } }, cnt := (1 : Int), errs := (1 : Int) })] (by kernel_rfl)
    (by
      simp only [allP]
      and_intros <;> first
        | omega
        | with_reducible assumption
        | (have h := cAdd [] [spA, spB] 9 (by simp) (by intro x hx; simp at hx; rcases hx with rfl | rfl <;> simp [spA, spB]); rw [aliveE] at h; exact h)
        | exact cAdd [] [] 9 (by simp) (by simp)
        | exact flatEd [edAB]
        | (simp; done)
        | decide)

theorem chA (sv : List Int) (er : List Bool) (h : 40 < sv.length) : Contract Try.prog 4 [.sl 1 (sv.map fun n => [I n]), .sl 1 (er.map fun b => [Bo b])] [] (Bo true) [] :=
  vcP hmix [.reg 2 [(5, [], some true)], .tab [(6, FAlive)]] [] [
      Contract Try.prog (6 : Nat) [] [] (Bo true) [],
      decide (Int.ofNat (List.length (List.map (fun n0 => [I n0]) sv)) > (40 : Int)) = true] (by kernel_rfl)
    (by
      simp only [allP]
      and_intros <;> first
        | omega
        | with_reducible assumption
        | exact cAlive
        | (simp; omega)
        | exact hc
        | exact hw
        | exact flatEd _
        | (simp; done)
        | decide)

theorem chB2 (sv : List Int) (er : List Bool) (h : sv.length ≤ 40) (h2 : er.length < sv.length) : Contract Try.prog 4 [.sl 1 (sv.map fun n => [I n]), .sl 1 (er.map fun b => [Bo b])] [] (Bo true) [] :=
  vcP hmix [.reg 2 [(5, [], some false), (12, [], some true)], .tab [(6, FAlive)]] [] [
      Contract Try.prog (6 : Nat) [] [] (Bo true) [],
      decide (Int.ofNat (List.length (List.map (fun n0 => [I n0]) sv)) > (40 : Int)) = false,
      decide (Int.ofNat (List.length (List.map (fun b0 => [Bo b0]) er)) < Int.ofNat (List.length (List.map (fun n0 => [I n0]) sv))) = true] (by kernel_rfl)
    (by
      simp only [allP]
      and_intros <;> first
        | omega
        | with_reducible assumption
        | exact cAlive
        | (simp; omega)
        | exact hc
        | exact hw
        | exact flatEd _
        | (simp; done)
        | decide)

theorem chGoes (sv : List Int) (er : List Bool) (l : List Sp) (n bad : Nat → Int) (w : List Ed) (h : sv.length ≤ 40) (h2 : sv.length ≤ er.length) (hc : LoopC Try.prog 0 136 chB (chS sv er [] (fun _ => 0) (fun _ => 0) 0) (.exit 0) (chS sv er l n bad sv.length)) (hw : LoopC Try.prog 0 136 woB (woS l n bad [] 0) (.exit 2) (woS l n bad w 4)) (ha : addE [] l 1000 = w) (hl : l.length ≤ 40) (ht : ∀ x ∈ l, x.attrs.length ≤ 100) (hk : w.length ≤ 100) : Contract Try.prog 4 [.sl 1 (sv.map fun n => [I n]), .sl 1 (er.map fun b => [Bo b])] [] (Bo true) [] :=
  vcP hmix [.reg 2 [(5, [], some false), (12, [], some false)], .reg 5 [(0, [.idx 10], none)], .cut ⟨[0, 1, 6, 7, 8, 9, 10], [(1001000, 900), (1201000, 901), (1202000, 902)], []⟩ (.exit 0) (chS sv er l n bad sv.length), .reg 17 [(0, [.idx 4], none)], .cut ⟨[6, 7, 8, 9, 13, 14], [(900, 900), (901, 901), (902, 902), (3401000, 903)], []⟩ (.exit 2) (woS l n bad w 4), .reg 26 [(1, [.call [] [] (.own 0) [some (.arr 4 (w.map Ed.row))]], none), (3, [.call [] [] (Bo true) []], none)], .tab [(6, FAlive)]] [] [
      Contract Try.prog (6 : Nat) [] [] (Bo true) [],
      decide (Int.ofNat (List.length (List.map (fun n0 => [I n0]) sv)) > (40 : Int)) = false,
      decide (Int.ofNat (List.length (List.map (fun b0 => [Bo b0]) er)) < Int.ofNat (List.length (List.map (fun n0 => [I n0]) sv))) = false,
      LoopC Try.prog (0 : Nat) (136 : Nat) chB { env := [((0 : Nat), V.sl (1 : Nat) (List.map (fun n0 => [I n0]) sv)), ((1 : Nat), V.sl (1 : Nat) (List.map (fun b0 => [Bo b0]) er)), ((6 : Nat), Sg { data := { toList := [(97 : UInt8), (98 : UInt8), (99 : UInt8), (100 : UInt8)] } }), ((7 : Nat), V.own (900 : Nat)), ((8 : Nat), V.ptr (901 : Nat) (0 : Nat) (0 : Nat) (0 : Nat)), ((9 : Nat), V.ptr (902 : Nat) (0 : Nat) (0 : Nat) (0 : Nat)), ((10 : Nat), I (0 : Int))], st := [((900 : Nat), Obj.arr (10 : Nat) []), ((901 : Nat), Obj.box [I (0 : Int), I (0 : Int), I (0 : Int), I (0 : Int), I (0 : Int), I (0 : Int), I (0 : Int), I (0 : Int), I (0 : Int), I (0 : Int), I (0 : Int), I (0 : Int), I (0 : Int), I (0 : Int), I (0 : Int), I (0 : Int)]), ((902 : Nat), Obj.box [I (0 : Int), I (0 : Int), I (0 : Int), I (0 : Int), I (0 : Int), I (0 : Int), I (0 : Int), I (0 : Int), I (0 : Int), I (0 : Int), I (0 : Int), I (0 : Int), I (0 : Int), I (0 : Int), I (0 : Int), I (0 : Int)])], ids := [(900 : Nat), (901 : Nat), (902 : Nat)] } (Ex.exit (0 : Nat)) { env := [((0 : Nat), V.sl (1 : Nat) (List.map (fun n0 => [I n0]) sv)), ((1 : Nat), V.sl (1 : Nat) (List.map (fun b0 => [Bo b0]) er)), ((6 : Nat), Sg { data := { toList := [(97 : UInt8), (98 : UInt8), (99 : UInt8), (100 : UInt8)] } }), ((7 : Nat), V.own (900 : Nat)), ((8 : Nat), V.ptr (901 : Nat) (0 : Nat) (0 : Nat) (0 : Nat)), ((9 : Nat), V.ptr (902 : Nat) (0 : Nat) (0 : Nat) (0 : Nat)), ((10 : Nat), I (Int.ofNat (List.length sv)))], st := [((900 : Nat), Obj.arr (10 : Nat) (List.map Sp.row l)), ((901 : Nat), Obj.box [I (n (0 : Nat)), I (n (1 : Nat)), I (n (2 : Nat)), I (n (3 : Nat)), I (n (4 : Nat)), I (n (5 : Nat)), I (n (6 : Nat)), I (n (7 : Nat)), I (n (8 : Nat)), I (n (9 : Nat)), I (n (10 : Nat)), I (n (11 : Nat)), I (n (12 : Nat)), I (n (13 : Nat)), I (n (14 : Nat)), I (n (15 : Nat))]), ((902 : Nat), Obj.box [I (bad (0 : Nat)), I (bad (1 : Nat)), I (bad (2 : Nat)), I (bad (3 : Nat)), I (bad (4 : Nat)), I (bad (5 : Nat)), I (bad (6 : Nat)), I (bad (7 : Nat)), I (bad (8 : Nat)), I (bad (9 : Nat)), I (bad (10 : Nat)), I (bad (11 : Nat)), I (bad (12 : Nat)), I (bad (13 : Nat)), I (bad (14 : Nat)), I (bad (15 : Nat))])], ids := [(900 : Nat), (901 : Nat), (902 : Nat)] },
      LoopC Try.prog (0 : Nat) (136 : Nat) woB { env := [((6 : Nat), Sg { data := { toList := [(97 : UInt8), (98 : UInt8), (99 : UInt8), (100 : UInt8)] } }), ((7 : Nat), V.own (900 : Nat)), ((8 : Nat), V.ptr (901 : Nat) (0 : Nat) (0 : Nat) (0 : Nat)), ((9 : Nat), V.ptr (902 : Nat) (0 : Nat) (0 : Nat) (0 : Nat)), ((13 : Nat), V.own (903 : Nat)), ((14 : Nat), I (0 : Int))], st := [((900 : Nat), Obj.arr (10 : Nat) (List.map Sp.row l)), ((901 : Nat), Obj.box [I (n (0 : Nat)), I (n (1 : Nat)), I (n (2 : Nat)), I (n (3 : Nat)), I (n (4 : Nat)), I (n (5 : Nat)), I (n (6 : Nat)), I (n (7 : Nat)), I (n (8 : Nat)), I (n (9 : Nat)), I (n (10 : Nat)), I (n (11 : Nat)), I (n (12 : Nat)), I (n (13 : Nat)), I (n (14 : Nat)), I (n (15 : Nat))]), ((902 : Nat), Obj.box [I (bad (0 : Nat)), I (bad (1 : Nat)), I (bad (2 : Nat)), I (bad (3 : Nat)), I (bad (4 : Nat)), I (bad (5 : Nat)), I (bad (6 : Nat)), I (bad (7 : Nat)), I (bad (8 : Nat)), I (bad (9 : Nat)), I (bad (10 : Nat)), I (bad (11 : Nat)), I (bad (12 : Nat)), I (bad (13 : Nat)), I (bad (14 : Nat)), I (bad (15 : Nat))]), ((903 : Nat), Obj.arr (4 : Nat) [])], ids := [(900 : Nat), (901 : Nat), (902 : Nat), (903 : Nat)] } (Ex.exit (2 : Nat)) { env := [((6 : Nat), Sg { data := { toList := [(97 : UInt8), (98 : UInt8), (99 : UInt8), (100 : UInt8)] } }), ((7 : Nat), V.own (900 : Nat)), ((8 : Nat), V.ptr (901 : Nat) (0 : Nat) (0 : Nat) (0 : Nat)), ((9 : Nat), V.ptr (902 : Nat) (0 : Nat) (0 : Nat) (0 : Nat)), ((13 : Nat), V.own (903 : Nat)), ((14 : Nat), I (4 : Int))], st := [((900 : Nat), Obj.arr (10 : Nat) (List.map Sp.row l)), ((901 : Nat), Obj.box [I (n (0 : Nat)), I (n (1 : Nat)), I (n (2 : Nat)), I (n (3 : Nat)), I (n (4 : Nat)), I (n (5 : Nat)), I (n (6 : Nat)), I (n (7 : Nat)), I (n (8 : Nat)), I (n (9 : Nat)), I (n (10 : Nat)), I (n (11 : Nat)), I (n (12 : Nat)), I (n (13 : Nat)), I (n (14 : Nat)), I (n (15 : Nat))]), ((902 : Nat), Obj.box [I (bad (0 : Nat)), I (bad (1 : Nat)), I (bad (2 : Nat)), I (bad (3 : Nat)), I (bad (4 : Nat)), I (bad (5 : Nat)), I (bad (6 : Nat)), I (bad (7 : Nat)), I (bad (8 : Nat)), I (bad (9 : Nat)), I (bad (10 : Nat)), I (bad (11 : Nat)), I (bad (12 : Nat)), I (bad (13 : Nat)), I (bad (14 : Nat)), I (bad (15 : Nat))]), ((903 : Nat), Obj.arr (4 : Nat) (List.map Ed.row w))], ids := [(900 : Nat), (901 : Nat), (902 : Nat), (903 : Nat)] },
      Contract Try.prog (8 : Nat) [V.sl (4 : Nat) [], V.sl (10 : Nat) (List.map Sp.row l), I (1000 : Int)] [] (V.own (0 : Nat)) [some (Obj.arr (4 : Nat) (List.map Ed.row w))],
      true = true,
      FlatRows (List.map Ed.row w),
      Contract Try.prog (9 : Nat) [V.sl (4 : Nat) (List.map Ed.row w), V.sl (4 : Nat) (List.map Ed.row w)] [] (Bo true) [],
      true = true] (by kernel_rfl)
    (by
      simp only [allP]
      and_intros <;> first
        | omega
        | with_reducible assumption
        | exact cAlive
        | (simp; omega)
        | exact hc
        | exact hw
        | exact flatEd _
        | (have h := cAdd [] l 1000 (by simp; omega) (fun x hx => Nat.le_trans (ht x hx) (by omega)); rw [ha] at h; exact h)
        | exact cSame _ (by omega)
        | (simp; done)
        | decide)

theorem cChain (sv : List Int) (er : List Bool) : Contract Try.prog 4 [.sl 1 (sv.map fun n => [I n]), .sl 1 (er.map fun b => [Bo b])] [] (Bo true) [] := by
  by_cases h : 40 < sv.length
  · exact chA sv er h
  · by_cases h2 : er.length < sv.length
    · exact chB2 sv er (by omega) h2
    · have hs : sv.length ≤ 40 := by omega
      exact chGoes sv er (spL sv er sv.length) (cN sv sv.length) (cB sv er sv.length) _ hs (by omega) (chLoop sv er hs (by omega) sv.length 0 (by omega)) (woLoop _ _ _) (chLaw sv er hs) (by rw [spL_len]; omega)
        (fun x hx => by
          obtain ⟨j, _, rfl⟩ := List.mem_map.1 hx
          simp [chSp])
        (Nat.le_trans (List.length_filterMap_le _ _) (by simp))

open Go.ChangeShapes Go.WideShapes Go.ChangeAt Go.RowKit
theorem typed_all {α : Type} {f : α → List V} {rows : List (List V)} (h : ∀ r ∈ rows, ∃ e : α, r = f e) : ∃ es : List α, rows = es.map f := by
  induction rows with
  | nil => exact ⟨[], rfl⟩
  | cons r rows ih =>
    obtain ⟨e, rfl⟩ := h r (by simp)
    obtain ⟨es, rfl⟩ := ih fun r hr => h r (by simp [hr])
    exact ⟨e :: es, rfl⟩
theorem typed_i {r : List V} {B d : Nat} (h : Typed Try.prog B (d + 1) 3 r) : ∃ e : Int, r = [I e] := by
  obtain ⟨v, rfl, _⟩ := typed_int Try.underlying3 h
  exact ⟨v, rfl⟩
theorem typed_b {r : List V} {B d : Nat} (h : Typed Try.prog B (d + 1) 4 r) : ∃ e : Bool, r = [Bo e] := by
  obtain ⟨v, rfl⟩ := typed_bool Try.underlying4 h
  exact ⟨v, rfl⟩
theorem own : ownKnob Try.prog.godebug = none := by kernel_rfl
theorem laidOut : laidOutB Try.prog = true := by kernel_rfl
theorem edgesChain_lifted (os : Os) (started : os.Started) (H : Type) (enc : TypeId × Value → H) :
    ReturnsInHanded {} Try.checked os 4 .any (Rows.edgesChainSpec.pre6 enc Try.prog Try.f4 Rows.edgesChainRow.domain false) (Rows.edgesChainSpec.post enc Try.prog Try.f4 false true false false) := by
  refine returnsInHanded_of_change (C := Try.checked) own started (by kernel_rfl) Try.func4
    (ChangeSpec.witness6 (enc := enc) (C := Try.checked) false ⟨#[], #[.slice none 0 0, .slice none 0 0], []⟩ 8 (by kernel_rfl) (by kernel_rfl) (by kernel_rfl) (by kernel_rfl)) ?_
  intro W base args ds gs before hval hW _ _
  refine row_of (P := Try.prog) (tb := 4) laidOut rfl (by kernel_rfl) (by kernel_rfl) (by kernel_rfl) Try.underlying4 (fun ds h => ?_) (fun us h => ?_) W base args ds gs before hval hW
  · match ds, h with
    | [_, _], _ => rfl
  · obtain ⟨u0, _, rfl, h0, u1, _, rfl, h1, rfl⟩ := h
    obtain ⟨rows0, rfl, _, hr0⟩ := arg_slice Try.underlying30 h0
    obtain ⟨sv, rfl⟩ := typed_all (f := fun n => [I n]) fun r h => typed_i (hr0 r h)
    obtain ⟨rows1, rfl, _, hr1⟩ := arg_slice Try.underlying31 h1
    obtain ⟨er, rfl⟩ := typed_all (f := fun b => [Bo b]) fun r h => typed_b (hr1 r h)
    exact cChain sv er

theorem EdgesChain_proved : Rows.EdgesChainSaid :=
  OpenClaim.holds_of_wide 4 Try.f4 rfl rfl rfl rfl rfl rfl rfl ⟨rfl, rfl, rfl, rfl, rfl⟩ rfl rfl rfl rfl rfl (by kernel_rfl) Try.func4 (by kernel_rfl)
    (of_decide_eq_true (by kernel_rfl)) (by unfold Func.isWrapper; first | (rw [if_pos (by decide +kernel)]; kernel_rfl) | (rw [if_neg (by decide +kernel)]; exact ⟨rfl, rfl⟩))
    (fun os started H enc _ => edgesChain_lifted os started H enc)
#print axioms EdgesChain_proved
end Go.Proofs.Ytieffigehkjifaa
