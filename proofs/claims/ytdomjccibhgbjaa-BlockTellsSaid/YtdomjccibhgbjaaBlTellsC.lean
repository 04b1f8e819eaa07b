/- BlockTells: what any block is made of, which may be, how any is written, which any bytes are, and which episodes it has of a trace. -/
import Derived.Test.YtdomjccibhgbjaaBlTellsP5
import Derived.Test.YtdomjccibhgbjaaRows
namespace Go.Proofs.Ytdomjccibhgbjaa
open E
set_option maxRecDepth 100000
set_option linter.unusedVariables false
set_option linter.unusedSimpArgs false

open Go.ChangeShapes Go.WideShapes Go.ChangeAt Go.RowKit
theorem typed_all {α : Type} {f : α → List V} {rows : List (List V)} (h : ∀ r ∈ rows, ∃ e : α, r = f e) : ∃ es : List α, rows = es.map f := by
  induction rows with
  | nil => exact ⟨[], rfl⟩
  | cons r rows ih =>
    obtain ⟨e, rfl⟩ := h r (by simp)
    obtain ⟨es, rfl⟩ := ih fun r hr => h r (by simp [hr])
    exact ⟨e :: es, rfl⟩
theorem typed_at {r : List V} {B d : Nat} (h : Typed Try.prog B (d + 2) 119 r) : ∃ e : At, r = At.row e := by
  obtain ⟨_, _, rfl, h0x0, _, _, rfl, h0x1, rfl⟩ :
    catFields (Typed Try.prog B (d + 1)) [⟨"Key", 9, 0, false, "", "", 0⟩, ⟨"Value", 9, 1, false, "", "", 16⟩] _ := typed_struct Try.underlying119 h
  obtain ⟨vk, rfl, _⟩ := typed_string Try.underlying9 h0x0
  obtain ⟨vw, rfl, _⟩ := typed_string Try.underlying9 h0x1
  exact ⟨At.mk vk vw, rfl⟩
theorem typed_sp {r : List V} {B d : Nat} (h : Typed Try.prog B (d + 4) 61 r) : ∃ e : Sp, r = Sp.row e := by
  obtain ⟨_, _, rfl, h0x0, _, _, rfl, h0x1, _, _, rfl, h0x2, _, _, rfl, h0x3, _, _, rfl, h0x4, _, _, rfl, h0x5, _, _, rfl, h0x6, _, _, rfl, h0x7, _, _, rfl, h0x8, rfl⟩ :
    catFields (Typed Try.prog B (d + 3)) [⟨"Trace", 41, 0, false, "", "", 0⟩, ⟨"Id", 39, 2, false, "", "", 16⟩, ⟨"Parent", 39, 3, false, "", "", 24⟩, ⟨"Service", 9, 4, false, "", "", 32⟩, ⟨"Op", 9, 5, false, "", "", 48⟩, ⟨"Start", 3, 6, false, "", "", 64⟩, ⟨"Dur", 3, 7, false, "", "", 72⟩, ⟨"Err", 4, 8, false, "", "", 80⟩, ⟨"Attrs", 59, 9, false, "", "", 88⟩] _ := typed_struct Try.underlying61 h
  obtain ⟨_, _, rfl, h1x0, _, _, rfl, h1x1, rfl⟩ :
    catFields (Typed Try.prog B (d + 2)) [⟨"Hi", 39, 0, false, "", "", 0⟩, ⟨"Lo", 39, 1, false, "", "", 8⟩] _ := typed_struct Try.underlying41 h0x0
  obtain ⟨vhi, rfl, _⟩ := typed_int Try.underlying39 h1x0
  obtain ⟨vlo, rfl, _⟩ := typed_int Try.underlying39 h1x1
  obtain ⟨vid, rfl, _⟩ := typed_int Try.underlying39 h0x1
  obtain ⟨vpar, rfl, _⟩ := typed_int Try.underlying39 h0x2
  obtain ⟨vsvc, rfl, _⟩ := typed_string Try.underlying9 h0x3
  obtain ⟨vop, rfl, _⟩ := typed_string Try.underlying9 h0x4
  obtain ⟨vst, rfl, _⟩ := typed_int Try.underlying3 h0x5
  obtain ⟨vdu, rfl, _⟩ := typed_int Try.underlying3 h0x6
  obtain ⟨ver, rfl⟩ := typed_bool Try.underlying4 h0x7
  obtain ⟨wat, rfl, _, qat⟩ := typed_slice Try.underlying59 h0x8
  obtain ⟨vat, rfl⟩ := typed_all (f := At.row) fun r h => typed_at (qat r h)
  exact ⟨Sp.mk vhi vlo vid vpar vsvc vop vst vdu ver vat, rfl⟩
theorem typed_ep {r : List V} {B d : Nat} (h : Typed Try.prog B (d + 6) 44 r) : ∃ e : Ep, r = Ep.row e := by
  obtain ⟨_, _, rfl, h0x0, _, _, rfl, h0x1, _, _, rfl, h0x2, _, _, rfl, h0x3, _, _, rfl, h0x4, rfl⟩ :
    catFields (Typed Try.prog B (d + 5)) [⟨"Trace", 41, 0, false, "", "", 0⟩, ⟨"First", 3, 2, false, "", "", 16⟩, ⟨"Last", 3, 3, false, "", "", 24⟩, ⟨"Sure", 4, 4, false, "", "", 32⟩, ⟨"Spans", 42, 5, false, "", "", 40⟩] _ := typed_struct Try.underlying44 h
  obtain ⟨_, _, rfl, h1x0, _, _, rfl, h1x1, rfl⟩ :
    catFields (Typed Try.prog B (d + 4)) [⟨"Hi", 39, 0, false, "", "", 0⟩, ⟨"Lo", 39, 1, false, "", "", 8⟩] _ := typed_struct Try.underlying41 h0x0
  obtain ⟨vhi, rfl, _⟩ := typed_int Try.underlying39 h1x0
  obtain ⟨vlo, rfl, _⟩ := typed_int Try.underlying39 h1x1
  obtain ⟨vfi, rfl, _⟩ := typed_int Try.underlying3 h0x1
  obtain ⟨vla, rfl, _⟩ := typed_int Try.underlying3 h0x2
  obtain ⟨vsu, rfl⟩ := typed_bool Try.underlying4 h0x3
  obtain ⟨wsp, rfl, _, qsp⟩ := typed_slice Try.underlying42 h0x4
  obtain ⟨vsp, rfl⟩ := typed_all (f := Sp.row) fun r h => typed_sp (qsp r h)
  exact ⟨Ep.mk vhi vlo vfi vla vsu vsp, rfl⟩
theorem typed_bk {r : List V} {B d : Nat} (h : Typed Try.prog B (d + 8) 24 r) : ∃ e : Bk, r = Bk.row e := by
  obtain ⟨_, _, rfl, h0x0, _, _, rfl, h0x1, _, _, rfl, h0x2, _, _, rfl, h0x3, rfl⟩ :
    catFields (Typed Try.prog B (d + 7)) [⟨"Number", 3, 0, false, "", "", 0⟩, ⟨"Born", 3, 1, false, "", "", 8⟩, ⟨"Tier", 3, 2, false, "", "", 16⟩, ⟨"Episodes", 22, 3, false, "", "", 24⟩] _ := typed_struct Try.underlying24 h
  obtain ⟨vnu, rfl, _⟩ := typed_int Try.underlying3 h0x0
  obtain ⟨vbo, rfl, _⟩ := typed_int Try.underlying3 h0x1
  obtain ⟨vti, rfl, _⟩ := typed_int Try.underlying3 h0x2
  obtain ⟨wep, rfl, _, qep⟩ := typed_slice Try.underlying22 h0x3
  obtain ⟨vep, rfl⟩ := typed_all (f := Ep.row) fun r h => typed_ep (qep r h)
  exact ⟨Bk.mk vnu vbo vti vep, rfl⟩
theorem u_bnd {n : Int} {B : Nat} (h : (U n).bnd B) : isU n := by
  simp [U, V.bnd, Lit.wf, IntKind.min, IntKind.max, IntKind.signed, IntKind.bits] at h
  unfold isU
  omega
theorem sp_wf {s : Sp} {B : Nat} (h : bndL B s.row) : wfS s := by
  simp only [Sp.row, bndL] at h
  exact ⟨u_bnd h.1, u_bnd h.2.1, u_bnd h.2.2.1, u_bnd h.2.2.2.1⟩
theorem ep_wf {e : Ep} {B : Nat} (h : bndL B e.row) : wfE e := by
  simp only [Ep.row, bndL] at h
  refine ⟨u_bnd h.1, u_bnd h.2.1, fun s hs => ?_⟩
  have k := h.2.2.2.2.2.1
  simp only [V.bnd] at k
  exact sp_wf (bndRs_mem k.2 _ (List.mem_map_of_mem hs))
theorem eps_wf {l : List Ep} {n B : Nat} (h : (V.sl n (l.map Ep.row)).bnd B) : l.length ≤ B ∧ wfL l := by
  simp only [V.bnd, List.length_map] at h
  exact ⟨h.1, fun e he => ep_wf (bndRs_mem h.2 _ (List.mem_map_of_mem he))⟩
theorem typed_u8 {r : List V} {B d : Nat} (h : Typed Try.prog B (d + 1) 5 r) : ∃ b : UInt8, r = bR b := by
  obtain ⟨v, rfl, hw⟩ := typed_int Try.underlying5 h
  simp [Lit.wf, IntKind.min, IntKind.max, IntKind.signed, IntKind.bits] at hw
  refine ⟨UInt8.ofNat v.toNat, ?_⟩
  unfold bR intRow
  rw [UInt8.toNat_ofNat', Nat.mod_eq_of_lt (by omega)]
  have : ((v.toNat : Nat) : Int) = v := by omega
  rw [this]
theorem bk_wf {b : Bk} {B : Nat} (h : (Bk.v b).bnd B) : wfL b.eps := by
  simp only [Bk.v, Bk.row, V.bnd, bndL] at h
  have k := h.2.2.2.1
  exact fun e he => ep_wf (bndRs_mem k.2 _ (List.mem_map_of_mem he))
theorem own : ownKnob Try.prog.godebug = none := by kernel_rfl
theorem laidOut : laidOutB Try.prog = true := by kernel_rfl
theorem blockTells_lifted (os : Os) (started : os.Started) (H : Type) (enc : TypeId × Value → H) :
    ReturnsInHanded {} Try.checked os 7 .any (Rows.blockTellsSpec.pre6 enc Try.prog Try.f7 Rows.blockTellsRow.domain false) (Rows.blockTellsSpec.post enc Try.prog Try.f7 false true false false) := by
  refine returnsInHanded_of_change (C := Try.checked) own started (by kernel_rfl) Try.func7
    (ChangeSpec.witness6 (enc := enc) (C := Try.checked) false ⟨#[], #[.int .i64 0, .int .i64 0, .int .i64 0, .slice none 0 0, .agg #[.int .i64 0, .int .i64 0, .int .i64 0, .slice none 0 0], .slice none 0 0, .agg #[.int .u64 0, .int .u64 0]], []⟩ 8 (by kernel_rfl) (by kernel_rfl) (by kernel_rfl) (by kernel_rfl)) ?_
  intro W base args ds gs before hval hW _ _
  refine row_of (P := Try.prog) (tb := 4) laidOut rfl (by kernel_rfl) (by kernel_rfl) (by kernel_rfl) Try.underlying4 (fun ds h => ?_) (fun us h => ?_) W base args ds gs before hval hW
  · match ds, h with
    | [_, _, _, _, _, _, _], _ => rfl
  · obtain ⟨u0, _, rfl, h0, u1, _, rfl, h1, u2, _, rfl, h2, u3, _, rfl, h3, u4, _, rfl, h4, u5, _, rfl, h5, u6, _, rfl, h6, rfl⟩ := h
    obtain ⟨n, rfl, hn⟩ := arg_int Try.underlying3 h0
    obtain ⟨bo, rfl, hbo⟩ := arg_int Try.underlying3 h1
    obtain ⟨ti, rfl, hti⟩ := arg_int Try.underlying3 h2
    obtain ⟨rows3, rfl, _, hr3⟩ := arg_slice Try.underlying22 h3
    obtain ⟨l, rfl⟩ := typed_all (f := Ep.row) fun r h => typed_ep (hr3 r h)
    have b4 := arg_bnd h4
    obtain ⟨cs4, rfl, hc4⟩ := arg_struct Try.underlying24 h4
    obtain ⟨c, rfl⟩ := typed_bk hc4
    obtain ⟨rows5, rfl, _, hr5⟩ := arg_slice Try.underlying26 h5
    obtain ⟨b, rfl⟩ := typed_all (f := bR) fun r h => typed_u8 (hr5 r h)
    obtain ⟨cs6, rfl, hc6⟩ := arg_struct Try.underlying41 h6
    obtain ⟨_, _, rfl, hx6, _, _, rfl, hy6, rfl⟩ :
      catFields (Typed Try.prog _ 13) [⟨"Hi", 39, 0, false, "", "", 0⟩, ⟨"Lo", 39, 1, false, "", "", 8⟩] _ := typed_struct Try.underlying41 hc6
    obtain ⟨h, rfl, _⟩ := typed_int Try.underlying39 hx6
    obtain ⟨o, rfl, _⟩ := typed_int Try.underlying39 hy6
    exact cTells n bo ti l c b h o (bk_wf b4)

theorem BlockTells_proved : Rows.BlockTellsSaid :=
  OpenClaim.holds_of_wide 7 Try.f7 rfl rfl rfl rfl rfl rfl rfl ⟨rfl, rfl, rfl, rfl, rfl⟩ rfl rfl rfl rfl rfl (by kernel_rfl) Try.func7 (by kernel_rfl)
    (of_decide_eq_true (by kernel_rfl)) (by unfold Func.isWrapper; first | (rw [if_pos (by decide +kernel)]; kernel_rfl) | (rw [if_neg (by decide +kernel)]; exact ⟨rfl, rfl⟩))
    (fun os started H enc _ => blockTells_lifted os started H enc)
#print axioms BlockTells_proved
end Go.Proofs.Ytdomjccibhgbjaa
