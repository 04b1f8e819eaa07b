/- RollupTells: what any rows are with a span more, which are behind, and which are found. -/
import Derived.Test.YtigakemkanobaaaRwV
import Derived.Test.YtigakemkanobaaaRows
namespace Go.Proofs.Ytigakemkanobaaa
open E
set_option maxRecDepth 100000
set_option linter.unusedVariables false
set_option linter.unusedSimpArgs false

open Go.ChangeShapes Go.WideShapes Go.ChangeAt Go.RowKit
theorem typed_all {α : Type} {f : α → List V} {rows : List (List V)} (h : ∀ r ∈ rows, ∃ e : α, r = f e) : ∃ es : List α, rows = es.map f := by
  induction rows with
  | nil => exact ⟨[], rfl⟩
  | cons r rows ih =>
    obtain ⟨e, rfl⟩ := h r (by simp)
    obtain ⟨es, rfl⟩ := ih fun r hr => h r (by simp [hr])
    exact ⟨e :: es, rfl⟩
theorem inI_of {n : Int} (h : (Lit.int .i64 n).wf = true) : inI n := by
  simp [Lit.wf, IntKind.min, IntKind.max, IntKind.signed, IntKind.bits] at h
  unfold inI
  omega
theorem typed_at {r : List V} {d : Nat} (h : Typed Try.prog (d + 2) 60 r) : ∃ e : At, r = At.row e := by
  obtain ⟨_, _, rfl, h0x0, _, _, rfl, h0x1, rfl⟩ :
    catFields (Typed Try.prog (d + 1)) [⟨"Key", 9, 0, false, "", "", 0⟩, ⟨"Value", 9, 1, false, "", "", 16⟩] _ := typed_struct Try.underlying60 h
  obtain ⟨vk, rfl, _⟩ := typed_string Try.underlying9 h0x0
  obtain ⟨vw, rfl, _⟩ := typed_string Try.underlying9 h0x1
  exact ⟨At.mk vk vw, rfl⟩
theorem typed_sp {r : List V} {d : Nat} (h : Typed Try.prog (d + 4) 32 r) : ∃ e : Sp, r = Sp.row e := by
  obtain ⟨_, _, rfl, h0x0, _, _, rfl, h0x1, _, _, rfl, h0x2, _, _, rfl, h0x3, _, _, rfl, h0x4, _, _, rfl, h0x5, _, _, rfl, h0x6, _, _, rfl, h0x7, _, _, rfl, h0x8, rfl⟩ :
    catFields (Typed Try.prog (d + 3)) [⟨"Trace", 29, 0, false, "", "", 0⟩, ⟨"Id", 27, 2, false, "", "", 16⟩, ⟨"Parent", 27, 3, false, "", "", 24⟩, ⟨"Service", 9, 4, false, "", "", 32⟩, ⟨"Op", 9, 5, false, "", "", 48⟩, ⟨"Start", 3, 6, false, "", "", 64⟩, ⟨"Dur", 3, 7, false, "", "", 72⟩, ⟨"Err", 4, 8, false, "", "", 80⟩, ⟨"Attrs", 30, 9, false, "", "", 88⟩] _ := typed_struct Try.underlying32 h
  obtain ⟨_, _, rfl, h1x0, _, _, rfl, h1x1, rfl⟩ :
    catFields (Typed Try.prog (d + 2)) [⟨"Hi", 27, 0, false, "", "", 0⟩, ⟨"Lo", 27, 1, false, "", "", 8⟩] _ := typed_struct Try.underlying29 h0x0
  obtain ⟨vhi, rfl, _⟩ := typed_int Try.underlying27 h1x0
  obtain ⟨vlo, rfl, _⟩ := typed_int Try.underlying27 h1x1
  obtain ⟨vid, rfl, _⟩ := typed_int Try.underlying27 h0x1
  obtain ⟨vpar, rfl, _⟩ := typed_int Try.underlying27 h0x2
  obtain ⟨vsvc, rfl, _⟩ := typed_string Try.underlying9 h0x3
  obtain ⟨vop, rfl, _⟩ := typed_string Try.underlying9 h0x4
  obtain ⟨vst, rfl, _⟩ := typed_int Try.underlying3 h0x5
  obtain ⟨vdu, rfl, _⟩ := typed_int Try.underlying3 h0x6
  obtain ⟨ver, rfl⟩ := typed_bool Try.underlying4 h0x7
  obtain ⟨wat, rfl, _, qat⟩ := typed_slice Try.underlying30 h0x8
  obtain ⟨vat, rfl⟩ := typed_all (f := At.row) fun r h => typed_at (qat r h)
  exact ⟨Sp.mk vhi vlo vid vpar vsvc vop vst vdu ver vat, rfl⟩
theorem typed_rw {r : List V} {d : Nat} (h : Typed Try.prog (d + 4) 42 r) : ∃ e : Rw, r = Rw.row e := by
  obtain ⟨_, _, rfl, g0, _, _, rfl, g1, _, _, rfl, g2, _, _, rfl, g3, _, _, rfl, g4, rfl⟩ :
    catFields (Typed Try.prog (d + 3)) [⟨"Level", 3, 0, false, "", "", 0⟩, ⟨"Window", 3, 1, false, "", "", 8⟩, ⟨"Service", 9, 2, false, "", "", 16⟩, ⟨"Op", 9, 3, false, "", "", 32⟩, ⟨"Counter", 40, 4, false, "", "", 48⟩] _ := typed_struct Try.underlying42 h
  obtain ⟨lv, rfl, _⟩ := typed_int Try.underlying3 g0
  obtain ⟨wi, rfl, _⟩ := typed_int Try.underlying3 g1
  obtain ⟨sv, rfl, _⟩ := typed_string Try.underlying9 g2
  obtain ⟨oo, rfl, _⟩ := typed_string Try.underlying9 g3
  obtain ⟨_, _, rfl, k0, _, _, rfl, k1, _, _, rfl, k2, rfl⟩ :
    catFields (Typed Try.prog (d + 2)) [⟨"Count", 3, 0, false, "", "", 0⟩, ⟨"Errs", 3, 1, false, "", "", 8⟩, ⟨"By", 38, 2, false, "", "", 16⟩] _ := typed_struct Try.underlying40 g4
  obtain ⟨c0, rfl, _⟩ := typed_int Try.underlying3 k0
  obtain ⟨c1, rfl, _⟩ := typed_int Try.underlying3 k1
  obtain ⟨_, _, rfl, b0, _, _, rfl, b1, _, _, rfl, b2, _, _, rfl, b3, _, _, rfl, b4, _, _, rfl, b5, _, _, rfl, b6, _, _, rfl, b7, rfl⟩ : catN (Typed Try.prog (d + 1) 3) 8 _ := typed_array Try.underlying38 k2
  obtain ⟨c2, rfl, _⟩ := typed_int Try.underlying3 b0
  obtain ⟨c3, rfl, _⟩ := typed_int Try.underlying3 b1
  obtain ⟨c4, rfl, _⟩ := typed_int Try.underlying3 b2
  obtain ⟨c5, rfl, _⟩ := typed_int Try.underlying3 b3
  obtain ⟨c6, rfl, _⟩ := typed_int Try.underlying3 b4
  obtain ⟨c7, rfl, _⟩ := typed_int Try.underlying3 b5
  obtain ⟨c8, rfl, _⟩ := typed_int Try.underlying3 b6
  obtain ⟨c9, rfl, _⟩ := typed_int Try.underlying3 b7
  exact ⟨⟨lv, wi, sv, oo, fun | 0 => c0 | 1 => c1 | 2 => c2 | 3 => c3 | 4 => c4 | 5 => c5 | 6 => c6 | 7 => c7 | 8 => c8 | _ => c9⟩, rfl⟩
theorem typed_h {r : List V} {d : Nat} (h : Typed Try.prog (d + 2) 50 r) : ∃ hz : Nat → Int, r = h3 hz ∧ ∀ k, inI (hz k) := by
  obtain ⟨_, _, rfl, h0, _, _, rfl, h1, _, _, rfl, h2, rfl⟩ : catN (Typed Try.prog (d + 1) 3) 3 r := typed_array Try.underlying50 h
  obtain ⟨a, rfl, ha⟩ := typed_int Try.underlying3 h0
  obtain ⟨b, rfl, hb⟩ := typed_int Try.underlying3 h1
  obtain ⟨c, rfl, hc⟩ := typed_int Try.underlying3 h2
  refine ⟨fun | 0 => a | 1 => b | _ => c, rfl, fun k => ?_⟩
  match k with
  | 0 => exact inI_of ha
  | 1 => exact inI_of hb
  | _ + 2 => exact inI_of hc
theorem own : ownKnob Try.prog.godebug = none := by kernel_rfl
theorem laidOut : laidOutB Try.prog = true := by kernel_rfl
theorem rollupTells_lifted (os : Os) (started : os.Started) (H : Type) (enc : TypeId × Value → H) :
    ReturnsInHanded {} Try.checked os 6 .any (Rows.rollupTellsSpec.pre6 enc Try.prog Try.f6 Rows.rollupTellsRow.domain false) (Rows.rollupTellsSpec.post enc Try.prog Try.f6 false true false false) := by
  refine returnsInHanded_of_change (C := Try.checked) own started (by kernel_rfl) Try.func6
    (ChangeSpec.witness6 (enc := enc) (C := Try.checked) false ⟨#[], #[.slice none 0 0, .agg #[.int .u64 0, .int .u64 0, .int .u64 0, .int .u64 0, .string ByteArray.empty, .string ByteArray.empty, .int .i64 0, .int .i64 0, .bool false, .slice none 0 0], .int .i64 0, .int .i64 0, .agg #[.int .i64 0, .int .i64 0, .int .i64 0], .string ByteArray.empty, .string ByteArray.empty, .int .i64 0], []⟩ 8 (by kernel_rfl) (by kernel_rfl) (by kernel_rfl) (by kernel_rfl)) ?_
  intro W base args ds gs before hval hW _ _
  refine row_of (P := Try.prog) (tb := 4) laidOut rfl (by kernel_rfl) (by kernel_rfl) (by kernel_rfl) Try.underlying4 (fun ds h => ?_) (fun us h => ?_) W base args ds gs before hval hW
  · match ds, h with
    | [_, _, _, _, _, _, _, _], _ => rfl
  · obtain ⟨u0, _, rfl, h0, u1, _, rfl, h1, u2, _, rfl, h2, u3, _, rfl, h3, u4, _, rfl, h4, u5, _, rfl, h5, u6, _, rfl, h6, u7, _, rfl, h7, rfl⟩ := h
    obtain ⟨rows0, rfl, _, hr0⟩ := arg_slice Try.underlying33 h0
    obtain ⟨l, rfl⟩ := typed_all (f := Rw.row) fun r h => typed_rw (hr0 r h)
    obtain ⟨cs1, rfl, hcs1⟩ := arg_struct Try.underlying32 h1
    obtain ⟨s, rfl⟩ := typed_sp hcs1
    obtain ⟨m, rfl, hm⟩ := arg_int Try.underlying3 h2
    obtain ⟨sec, rfl, hsec⟩ := arg_int Try.underlying3 h3
    obtain ⟨cs4, rfl, hcs4⟩ := arg_array Try.underlying50 h4
    obtain ⟨hz, rfl, hhz⟩ := typed_h hcs4
    obtain ⟨svc, rfl, hsvc⟩ := arg_string Try.underlying9 h5
    obtain ⟨op, rfl, hop⟩ := arg_string Try.underlying9 h6
    obtain ⟨lev, rfl, hlev⟩ := arg_int Try.underlying3 h7
    exact cTells l s m sec hz svc op lev (inI_of hm) (inI_of hsec) hhz

theorem RollupTells_proved : Rows.RollupTellsSaid :=
  OpenClaim.holds_of_wide 6 Try.f6 rfl rfl rfl rfl rfl rfl rfl ⟨rfl, rfl, rfl, rfl, rfl⟩ rfl rfl rfl rfl rfl (by kernel_rfl) Try.func6 (by kernel_rfl)
    (of_decide_eq_true (by kernel_rfl)) (by unfold Func.isWrapper; first | (rw [if_pos (by decide +kernel)]; kernel_rfl) | (rw [if_neg (by decide +kernel)]; exact ⟨rfl, rfl⟩))
    (fun os started H enc _ => rollupTells_lifted os started H enc)
#print axioms RollupTells_proved
end Go.Proofs.Ytigakemkanobaaa
