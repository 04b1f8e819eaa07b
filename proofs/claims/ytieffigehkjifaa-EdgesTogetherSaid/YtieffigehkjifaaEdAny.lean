/- edges: in whichever order batches come. -/
import Derived.Test.YtieffigehkjifaaEdF
import Derived.Test.YtieffigehkjifaaRows
namespace Go.Proofs.Ytieffigehkjifaa
open E
set_option maxRecDepth 100000
set_option linter.unusedVariables false
set_option linter.unusedSimpArgs false


def spA : Sp := ⟨0, 0, 1, 0, ⟨#[97]⟩, ⟨#[120]⟩, 0, 0, false, []⟩
def spB : Sp := ⟨0, 0, 2, 1, ⟨#[98]⟩, ⟨#[120]⟩, 0, 0, true, []⟩
def edAB : Ed := Ed.mk ⟨#[97]⟩ ⟨#[98]⟩ 1 1
def FAlive : List V → Option V := fun _ => some (Bo true)
def FSame : List V → Option V := fun _ => some (Bo true)
theorem aliveE : addE [] [spA, spB] 9 = [edAB] := by kernel_rfl
theorem aliveE0 : addE [] [] 9 = [] := rfl
theorem cAlive  : Contract Try.prog 6 [] [] (Bo true) [] :=
  vcP hmix [.reg 1 [(3, [.call [] [] (.own 0) [some (.arr 4 [Ed.row edAB])]], none)], .reg 2 [(0, [.call [] [] (.own 0) [some (.arr 4 [])]], none), (11, [.row (Ed.row edAB)], none)]] [] [
      Contract Try.prog (8 : Nat) [V.sl (4 : Nat) [], V.sl (10 : Nat) [[V.val (Value.int IntKind.u64 (0 : Int)), V.val (Value.int IntKind.u64 (0 : Int)), V.val (Value.int IntKind.u64 (1 : Int)), V.val (Value.int IntKind.u64 (0 : Int)), Sg { data := { toList := [(97 : UInt8)] } }, Sg { data := { toList := [(120 : UInt8)] } }, I (0 : Int), I (0 : Int), Bo false, V.sl (2 : Nat) []], [V.val (Value.int IntKind.u64 (0 : Int)), V.val (Value.int IntKind.u64 (0 : Int)), V.val (Value.int IntKind.u64 (2 : Int)), V.val (Value.int IntKind.u64 (1 : Int)), Sg { data := { toList := [(98 : UInt8)] } }, Sg { data := { toList := [(120 : UInt8)] } }, I (0 : Int), I (0 : Int), Bo true, V.sl (2 : Nat) []]], I (9 : Int)] [] (V.own (0 : Nat)) [some (Obj.arr (4 : Nat) [Ed.row { fr := { data := { toList := [(97 : UInt8)] } }, to := { data := { toList := [(98 : UInt8)] } }, cnt := (1 : Int), errs := (1 : Int) }])],
      true = true,
      FlatRows [Ed.row { fr := { data := { toList := [(97 : UInt8)] } }, to := { data := { toList := [(98 : UInt8)] } }, cnt := (1 : Int), errs := (1 : Int) }],
      Contract Try.prog (8 : Nat) [V.sl (4 : Nat) [], V.sl (10 : Nat) [], I (9 : Int)] [] (V.own (0 : Nat)) [some (Obj.arr (4 : Nat) [])],
      (0 : Int) ≤ (0 : Int),
      (0 : Int) < (1 : Int),
      some (Ed.row { fr := { data := { toList := [(97 : UInt8)] } }, to := { data := { toList := [(98 : UInt8)] } }, cnt := (1 : Int), errs := (1 : Int) }) = some (Ed.row { fr := { data := { toList := [(97 : UInt8)] } }, to := { data := { toList := [(98 : UInt8)] } }, cnt := (1 : Int), errs := (1 : Int) })] (by kernel_rfl)
    (by
      simp only [allP]
      and_intros <;> first
        | omega
        | with_reducible assumption
        | (have h := cAdd [] [spA, spB] 9 (by simp) (by intro x hx; simp at hx; rcases hx with rfl | rfl <;> simp [spA, spB]); rw [aliveE] at h; exact h)
        | exact cAdd [] [] 9 (by simp) (by simp)
        | exact flatEd [edAB]
        | (simp; done)
        | decide)

theorem anyA (a b c : List Sp) (m : Int) (h1 : fewAll a = false) : Contract Try.prog 3 [.sl 10 (a.map Sp.row), .sl 10 (b.map Sp.row), .sl 10 (c.map Sp.row), I m] [] (Bo true) [] :=
  vcP hmix [.reg 2 [(4, [.call [] [] (Bo (fewAll a)) []], some false)], .tab [(6, FAlive)]] [] [
      Contract Try.prog (6 : Nat) [] [] (Bo true) [],
      Contract Try.prog (7 : Nat) [V.sl (10 : Nat) (List.map Sp.row a)] [] (Bo (fewAll a)) [],
      fewAll a = false] (by kernel_rfl)
    (by
      simp only [allP]
      and_intros <;> first
        | omega
        | with_reducible assumption
        | exact cAlive
        | exact cFewAll _
        | (simp; done)
        | decide)

theorem anyB (a b c : List Sp) (m : Int) (h1 : fewAll a = true) (h2 : fewAll b = false) : Contract Try.prog 3 [.sl 10 (a.map Sp.row), .sl 10 (b.map Sp.row), .sl 10 (c.map Sp.row), I m] [] (Bo true) [] :=
  vcP hmix [.reg 2 [(4, [.call [] [] (Bo (fewAll a)) []], some true), (9, [.call [] [] (Bo (fewAll b)) []], some false)], .tab [(6, FAlive)]] [] [
      Contract Try.prog (6 : Nat) [] [] (Bo true) [],
      Contract Try.prog (7 : Nat) [V.sl (10 : Nat) (List.map Sp.row a)] [] (Bo (fewAll a)) [],
      fewAll a = true,
      Contract Try.prog (7 : Nat) [V.sl (10 : Nat) (List.map Sp.row b)] [] (Bo (fewAll b)) [],
      fewAll b = false] (by kernel_rfl)
    (by
      simp only [allP]
      and_intros <;> first
        | omega
        | with_reducible assumption
        | exact cAlive
        | exact cFewAll _
        | (simp; done)
        | decide)

theorem anyC (a b c : List Sp) (m : Int) (h1 : fewAll a = true) (h2 : fewAll b = true) (h3 : fewAll c = false) : Contract Try.prog 3 [.sl 10 (a.map Sp.row), .sl 10 (b.map Sp.row), .sl 10 (c.map Sp.row), I m] [] (Bo true) [] :=
  vcP hmix [.reg 2 [(4, [.call [] [] (Bo (fewAll a)) []], some true), (9, [.call [] [] (Bo (fewAll b)) []], some true), (14, [.call [] [] (Bo (fewAll c)) []], some false)], .tab [(6, FAlive)]] [] [
      Contract Try.prog (6 : Nat) [] [] (Bo true) [],
      Contract Try.prog (7 : Nat) [V.sl (10 : Nat) (List.map Sp.row a)] [] (Bo (fewAll a)) [],
      fewAll a = true,
      Contract Try.prog (7 : Nat) [V.sl (10 : Nat) (List.map Sp.row b)] [] (Bo (fewAll b)) [],
      fewAll b = true,
      Contract Try.prog (7 : Nat) [V.sl (10 : Nat) (List.map Sp.row c)] [] (Bo (fewAll c)) [],
      fewAll c = false] (by kernel_rfl)
    (by
      simp only [allP]
      and_intros <;> first
        | omega
        | with_reducible assumption
        | exact cAlive
        | exact cFewAll _
        | (simp; done)
        | decide)

theorem anyGo (a b c : List Sp) (m : Int) (hm : inI m) (h1 : fewAll a = true) (h2 : fewAll b = true) (h3 : fewAll c = true) (la : a.length ≤ 60) (lb : b.length ≤ 60) (lc : c.length ≤ 60) (aa : ∀ x ∈ a, x.attrs.length ≤ 1000000000) (ab : ∀ x ∈ b, x.attrs.length ≤ 1000000000) (ac : ∀ x ∈ c, x.attrs.length ≤ 1000000000) (hx : SortedE (addE (addE (addE [] a m) b m) c m)) (hl : (addE (addE (addE [] a m) b m) c m).length ≤ 1000000) (h12 : (addE (addE [] a m) b m).length ≤ 120) (h11 : (addE [] a m).length ≤ 60) (h22 : (addE (addE [] c m) a m).length ≤ 120) (h21 : (addE [] c m).length ≤ 60) : Contract Try.prog 3 [.sl 10 (a.map Sp.row), .sl 10 (b.map Sp.row), .sl 10 (c.map Sp.row), I m] [] (Bo true) [] :=
  vcP hmix [.reg 2 [(4, [.call [] [] (Bo (fewAll a)) []], some true), (9, [.call [] [] (Bo (fewAll b)) []], some true), (14, [.call [] [] (Bo (fewAll c)) []], some true)], .reg 4 [(2, [.call [] [] (.own 0) [some (.arr 4 ((addE [] a m).map Ed.row))]], none), (5, [.call [] [] (.own 0) [some (.arr 4 ((addE (addE [] a m) b m).map Ed.row))]], none), (8, [.call [] [] (.own 0) [some (.arr 4 ((addE (addE (addE [] a m) b m) c m).map Ed.row))]], none), (9, [.idx 1], none)], .reg 5 [(2, [.call [] [] (.own 0) [some (.arr 4 ((addE [] c m).map Ed.row))]], none), (5, [.call [] [] (.own 0) [some (.arr 4 ((addE (addE [] c m) a m).map Ed.row))]], none), (8, [.call [] [] (.own 0) [some (.arr 4 ((addE (addE (addE [] a m) b m) c m).map Ed.row))]], none), (9, [.idx 1], none)], .reg 6 [(2, [.call [] [] (Bo true) []], none), (5, [.call [] [] (Bo true) []], none)], .tab [(6, FAlive)]] [] [
      Contract Try.prog (6 : Nat) [] [] (Bo true) [],
      Contract Try.prog (7 : Nat) [V.sl (10 : Nat) (List.map Sp.row a)] [] (Bo (fewAll a)) [],
      fewAll a = true,
      Contract Try.prog (7 : Nat) [V.sl (10 : Nat) (List.map Sp.row b)] [] (Bo (fewAll b)) [],
      fewAll b = true,
      Contract Try.prog (7 : Nat) [V.sl (10 : Nat) (List.map Sp.row c)] [] (Bo (fewAll c)) [],
      fewAll c = true,
      Contract Try.prog (8 : Nat) [V.sl (4 : Nat) [], V.sl (10 : Nat) (List.map Sp.row a), I m] [] (V.own (0 : Nat)) [some (Obj.arr (4 : Nat) (List.map Ed.row (addE [] a m)))],
      Contract Try.prog (8 : Nat) [V.sl (4 : Nat) (List.map Ed.row (addE [] a m)), V.sl (10 : Nat) (List.map Sp.row b), I m] [] (V.own (0 : Nat)) [some (Obj.arr (4 : Nat) (List.map Ed.row (addE (addE [] a m) b m)))],
      true = true,
      FlatRows (List.map Ed.row (addE (addE [] a m) b m)),
      Contract Try.prog (8 : Nat) [V.sl (4 : Nat) (List.map Ed.row (addE (addE [] a m) b m)), V.sl (10 : Nat) (List.map Sp.row c), I m] [] (V.own (0 : Nat)) [some (Obj.arr (4 : Nat) (List.map Ed.row (addE (addE (addE [] a m) b m) c m)))],
      true = true,
      FlatRows (List.map Ed.row (addE (addE (addE [] a m) b m) c m)),
      Contract Try.prog (8 : Nat) [V.sl (4 : Nat) [], V.sl (10 : Nat) (List.map Sp.row c), I m] [] (V.own (0 : Nat)) [some (Obj.arr (4 : Nat) (List.map Ed.row (addE [] c m)))],
      Contract Try.prog (8 : Nat) [V.sl (4 : Nat) (List.map Ed.row (addE [] c m)), V.sl (10 : Nat) (List.map Sp.row a), I m] [] (V.own (0 : Nat)) [some (Obj.arr (4 : Nat) (List.map Ed.row (addE (addE [] c m) a m)))],
      true = true,
      FlatRows (List.map Ed.row (addE (addE [] c m) a m)),
      Contract Try.prog (8 : Nat) [V.sl (4 : Nat) (List.map Ed.row (addE (addE [] c m) a m)), V.sl (10 : Nat) (List.map Sp.row b), I m] [] (V.own (0 : Nat)) [some (Obj.arr (4 : Nat) (List.map Ed.row (addE (addE (addE [] a m) b m) c m)))],
      true = true,
      FlatRows (List.map Ed.row (addE (addE (addE [] a m) b m) c m)),
      Contract Try.prog (9 : Nat) [V.sl (4 : Nat) (List.map Ed.row (addE (addE (addE [] a m) b m) c m)), V.sl (4 : Nat) (List.map Ed.row (addE (addE (addE [] a m) b m) c m))] [] (Bo true) [],
      Contract Try.prog (10 : Nat) [V.sl (4 : Nat) (List.map Ed.row (addE (addE (addE [] a m) b m) c m))] [] (Bo true) []] (by kernel_rfl)
    (by
      simp only [allP]
      and_intros <;> first
        | omega
        | with_reducible assumption
        | exact cAlive
        | exact cFewAll _
        | exact cAdd [] a m (by simp; omega) aa
        | exact cAdd [] c m (by simp; omega) ac
        | exact cAdd _ b m (by omega) ab
        | exact cAdd _ c m (by omega) ac
        | exact cAdd _ a m (by omega) aa
        | exact flatEd _
        | exact cSame _ (by omega)
        | exact cOrdered _ (by omega) hx.next
        | (rw [← edges_any hm]; exact cAdd _ b m (by omega) ab)
        | (simp; done)
        | decide)

open Go.ChangeShapes Go.WideShapes Go.ChangeAt Go.RowKit
theorem cAny (a b c : List Sp) (m : Int) (hm : inI m) : Contract Try.prog 3 [.sl 10 (a.map Sp.row), .sl 10 (b.map Sp.row), .sl 10 (c.map Sp.row), I m] [] (Bo true) [] := by
  cases h1 : fewAll a with
  | false => exact anyA a b c m h1
  | true =>
    cases h2 : fewAll b with
    | false => exact anyB a b c m h1 h2
    | true =>
      cases h3 : fewAll c with
      | false => exact anyC a b c m h1 h2 h3
      | true =>
        obtain ⟨la, aa⟩ := fewAll_len h1
        obtain ⟨lb, ab⟩ := fewAll_len h2
        obtain ⟨lc, ac⟩ := fewAll_len h3
        have k1 := addE_len [] a m
        have k2 := addE_len (addE [] a m) b m
        have k3 := addE_len (addE (addE [] a m) b m) c m
        have j1 := addE_len [] c m
        have j2 := addE_len (addE [] c m) a m
        simp only [List.length_nil] at k1 j1
        exact anyGo a b c m hm h1 h2 h3 la lb lc (fun x hx => by have := aa x hx; omega) (fun x hx => by have := ab x hx; omega) (fun x hx => by have := ac x hx; omega)
          (sorted_addE (sorted_addE (sorted_addE sorted_nil a m) b m) c m) (by omega) (by omega) (by omega) (by omega) (by omega)

theorem typed_all {α : Type} {f : α → List V} {rows : List (List V)} (h : ∀ r ∈ rows, ∃ e : α, r = f e) : ∃ es : List α, rows = es.map f := by
  induction rows with
  | nil => exact ⟨[], rfl⟩
  | cons r rows ih =>
    obtain ⟨e, rfl⟩ := h r (by simp)
    obtain ⟨es, rfl⟩ := ih fun r hr => h r (by simp [hr])
    exact ⟨e :: es, rfl⟩
theorem inI_of {n : Int} (h : (Lit.int .i64 n).wf = true) : inI n := by
  simp [Lit.wf, IntKind.min, IntKind.max, IntKind.signed, IntKind.bits] at h
  unfold inI
  omega
theorem typed_at {r : List V} {d : Nat} (h : Typed Try.prog (d + 2) 50 r) : ∃ e : At, r = At.row e := by
  obtain ⟨_, _, rfl, h0x0, _, _, rfl, h0x1, rfl⟩ :
    catFields (Typed Try.prog (d + 1)) [⟨"Key", 9, 0, false, "", "", 0⟩, ⟨"Value", 9, 1, false, "", "", 16⟩] _ := typed_struct Try.underlying50 h
  obtain ⟨vk, rfl, _⟩ := typed_string Try.underlying9 h0x0
  obtain ⟨vw, rfl, _⟩ := typed_string Try.underlying9 h0x1
  exact ⟨At.mk vk vw, rfl⟩
theorem typed_sp {r : List V} {d : Nat} (h : Typed Try.prog (d + 4) 39 r) : ∃ e : Sp, r = Sp.row e := by
  obtain ⟨_, _, rfl, h0x0, _, _, rfl, h0x1, _, _, rfl, h0x2, _, _, rfl, h0x3, _, _, rfl, h0x4, _, _, rfl, h0x5, _, _, rfl, h0x6, _, _, rfl, h0x7, _, _, rfl, h0x8, rfl⟩ :
    catFields (Typed Try.prog (d + 3)) [⟨"Trace", 36, 0, false, "", "", 0⟩, ⟨"Id", 34, 2, false, "", "", 16⟩, ⟨"Parent", 34, 3, false, "", "", 24⟩, ⟨"Service", 9, 4, false, "", "", 32⟩, ⟨"Op", 9, 5, false, "", "", 48⟩, ⟨"Start", 3, 6, false, "", "", 64⟩, ⟨"Dur", 3, 7, false, "", "", 72⟩, ⟨"Err", 4, 8, false, "", "", 80⟩, ⟨"Attrs", 37, 9, false, "", "", 88⟩] _ := typed_struct Try.underlying39 h
  obtain ⟨_, _, rfl, h1x0, _, _, rfl, h1x1, rfl⟩ :
    catFields (Typed Try.prog (d + 2)) [⟨"Hi", 34, 0, false, "", "", 0⟩, ⟨"Lo", 34, 1, false, "", "", 8⟩] _ := typed_struct Try.underlying36 h0x0
  obtain ⟨vhi, rfl, _⟩ := typed_int Try.underlying34 h1x0
  obtain ⟨vlo, rfl, _⟩ := typed_int Try.underlying34 h1x1
  obtain ⟨vid, rfl, _⟩ := typed_int Try.underlying34 h0x1
  obtain ⟨vpar, rfl, _⟩ := typed_int Try.underlying34 h0x2
  obtain ⟨vsvc, rfl, _⟩ := typed_string Try.underlying9 h0x3
  obtain ⟨vop, rfl, _⟩ := typed_string Try.underlying9 h0x4
  obtain ⟨vst, rfl, _⟩ := typed_int Try.underlying3 h0x5
  obtain ⟨vdu, rfl, _⟩ := typed_int Try.underlying3 h0x6
  obtain ⟨ver, rfl⟩ := typed_bool Try.underlying4 h0x7
  obtain ⟨wat, rfl, _, qat⟩ := typed_slice Try.underlying37 h0x8
  obtain ⟨vat, rfl⟩ := typed_all (f := At.row) fun r h => typed_at (qat r h)
  exact ⟨Sp.mk vhi vlo vid vpar vsvc vop vst vdu ver vat, rfl⟩
theorem own : ownKnob Try.prog.godebug = none := by kernel_rfl
theorem laidOut : laidOutB Try.prog = true := by kernel_rfl
theorem edgesAny_lifted (os : Os) (started : os.Started) (H : Type) (enc : TypeId × Value → H) :
    ReturnsInHanded {} Try.checked os 3 .any (Rows.edgesAnySpec.pre6 enc Try.prog Try.f3 Rows.edgesAnyRow.domain false) (Rows.edgesAnySpec.post enc Try.prog Try.f3 false true false false) := by
  refine returnsInHanded_of_change (C := Try.checked) own started (by kernel_rfl) Try.func3
    (ChangeSpec.witness6 (enc := enc) (C := Try.checked) false ⟨#[], #[.slice none 0 0, .slice none 0 0, .slice none 0 0, .int .i64 0], []⟩ 8 (by kernel_rfl) (by kernel_rfl) (by kernel_rfl) (by kernel_rfl)) ?_
  intro W base args ds gs before hval hW _ _
  refine row_of (P := Try.prog) (tb := 4) laidOut rfl (by kernel_rfl) (by kernel_rfl) (by kernel_rfl) Try.underlying4 (fun ds h => ?_) (fun us h => ?_) W base args ds gs before hval hW
  · match ds, h with
    | [_, _, _, _], _ => rfl
  · obtain ⟨u0, _, rfl, h0, u1, _, rfl, h1, u2, _, rfl, h2, u3, _, rfl, h3, rfl⟩ := h
    obtain ⟨rows0, rfl, _, hr0⟩ := arg_slice Try.underlying22 h0
    obtain ⟨a, rfl⟩ := typed_all (f := Sp.row) fun r h => typed_sp (hr0 r h)
    obtain ⟨rows1, rfl, _, hr1⟩ := arg_slice Try.underlying22 h1
    obtain ⟨b, rfl⟩ := typed_all (f := Sp.row) fun r h => typed_sp (hr1 r h)
    obtain ⟨rows2, rfl, _, hr2⟩ := arg_slice Try.underlying22 h2
    obtain ⟨c, rfl⟩ := typed_all (f := Sp.row) fun r h => typed_sp (hr2 r h)
    obtain ⟨m, rfl, hm⟩ := arg_int Try.underlying3 h3
    exact cAny a b c m (inI_of hm)

theorem EdgesAny_proved : Rows.EdgesAnySaid :=
  OpenClaim.holds_of_wide 3 Try.f3 rfl rfl rfl rfl rfl rfl rfl ⟨rfl, rfl, rfl, rfl, rfl⟩ rfl rfl rfl rfl rfl (by kernel_rfl) Try.func3 (by kernel_rfl)
    (of_decide_eq_true (by kernel_rfl)) (by unfold Func.isWrapper; first | (rw [if_pos (by decide +kernel)]; kernel_rfl) | (rw [if_neg (by decide +kernel)]; exact ⟨rfl, rfl⟩))
    (fun os started H enc _ => edgesAny_lifted os started H enc)
#print axioms EdgesAny_proved
end Go.Proofs.Ytieffigehkjifaa
