/- BlockTorn: no block of which a bit was turned is one, and no beginning but one that is a block all the same. -/
import Derived.Test.YtdomjccibhgbjaaBlTornP5
import Derived.JoinedCond
import Derived.Test.YtdomjccibhgbjaaRows
namespace Go.Proofs.Ytdomjccibhgbjaa
open E
set_option maxRecDepth 100000
set_option linter.unusedVariables false
set_option linter.unusedSimpArgs false

open Go.ChangeShapes Go.WideShapes Go.ChangeAt Go.RowKit
theorem typed_all {α : Type} {f : α → List V} {rows : List (List V)} (h : ∀ r ∈ rows, ∃ e : α, r = f e) : ∃ es : List α, rows = es.map f := by
  induction rows with
  | nil => exact ⟨[], rfl⟩
  | cons r rows ih =>
    obtain ⟨e, rfl⟩ := h r (by simp)
    obtain ⟨es, rfl⟩ := ih fun r hr => h r (by simp [hr])
    exact ⟨e :: es, rfl⟩
theorem typed_at {r : List V} {B d : Nat} (h : Typed Try.prog B (d + 2) 119 r) : ∃ e : At, r = At.row e := by
  obtain ⟨_, _, rfl, h0x0, _, _, rfl, h0x1, rfl⟩ :
    catFields (Typed Try.prog B (d + 1)) [⟨"Key", 9, 0, false, "", "", 0⟩, ⟨"Value", 9, 1, false, "", "", 16⟩] _ := typed_struct Try.underlying119 h
  obtain ⟨vk, rfl, _⟩ := typed_string Try.underlying9 h0x0
  obtain ⟨vw, rfl, _⟩ := typed_string Try.underlying9 h0x1
  exact ⟨At.mk vk vw, rfl⟩
theorem typed_sp {r : List V} {B d : Nat} (h : Typed Try.prog B (d + 4) 61 r) : ∃ e : Sp, r = Sp.row e := by
  obtain ⟨_, _, rfl, h0x0, _, _, rfl, h0x1, _, _, rfl, h0x2, _, _, rfl, h0x3, _, _, rfl, h0x4, _, _, rfl, h0x5, _, _, rfl, h0x6, _, _, rfl, h0x7, _, _, rfl, h0x8, rfl⟩ :
    catFields (Typed Try.prog B (d + 3)) [⟨"Trace", 41, 0, false, "", "", 0⟩, ⟨"Id", 39, 2, false, "", "", 16⟩, ⟨"Parent", 39, 3, false, "", "", 24⟩, ⟨"Service", 9, 4, false, "", "", 32⟩, ⟨"Op", 9, 5, false, "", "", 48⟩, ⟨"Start", 3, 6, false, "", "", 64⟩, ⟨"Dur", 3, 7, false, "", "", 72⟩, ⟨"Err", 4, 8, false, "", "", 80⟩, ⟨"Attrs", 59, 9, false, "", "", 88⟩] _ := typed_struct Try.underlying61 h
  obtain ⟨_, _, rfl, h1x0, _, _, rfl, h1x1, rfl⟩ :
    catFields (Typed Try.prog B (d + 2)) [⟨"Hi", 39, 0, false, "", "", 0⟩, ⟨"Lo", 39, 1, false, "", "", 8⟩] _ := typed_struct Try.underlying41 h0x0
  obtain ⟨vhi, rfl, _⟩ := typed_int Try.underlying39 h1x0
  obtain ⟨vlo, rfl, _⟩ := typed_int Try.underlying39 h1x1
  obtain ⟨vid, rfl, _⟩ := typed_int Try.underlying39 h0x1
  obtain ⟨vpar, rfl, _⟩ := typed_int Try.underlying39 h0x2
  obtain ⟨vsvc, rfl, _⟩ := typed_string Try.underlying9 h0x3
  obtain ⟨vop, rfl, _⟩ := typed_string Try.underlying9 h0x4
  obtain ⟨vst, rfl, _⟩ := typed_int Try.underlying3 h0x5
  obtain ⟨vdu, rfl, _⟩ := typed_int Try.underlying3 h0x6
  obtain ⟨ver, rfl⟩ := typed_bool Try.underlying4 h0x7
  obtain ⟨wat, rfl, _, qat⟩ := typed_slice Try.underlying59 h0x8
  obtain ⟨vat, rfl⟩ := typed_all (f := At.row) fun r h => typed_at (qat r h)
  exact ⟨Sp.mk vhi vlo vid vpar vsvc vop vst vdu ver vat, rfl⟩
theorem typed_ep {r : List V} {B d : Nat} (h : Typed Try.prog B (d + 6) 44 r) : ∃ e : Ep, r = Ep.row e := by
  obtain ⟨_, _, rfl, h0x0, _, _, rfl, h0x1, _, _, rfl, h0x2, _, _, rfl, h0x3, _, _, rfl, h0x4, rfl⟩ :
    catFields (Typed Try.prog B (d + 5)) [⟨"Trace", 41, 0, false, "", "", 0⟩, ⟨"First", 3, 2, false, "", "", 16⟩, ⟨"Last", 3, 3, false, "", "", 24⟩, ⟨"Sure", 4, 4, false, "", "", 32⟩, ⟨"Spans", 42, 5, false, "", "", 40⟩] _ := typed_struct Try.underlying44 h
  obtain ⟨_, _, rfl, h1x0, _, _, rfl, h1x1, rfl⟩ :
    catFields (Typed Try.prog B (d + 4)) [⟨"Hi", 39, 0, false, "", "", 0⟩, ⟨"Lo", 39, 1, false, "", "", 8⟩] _ := typed_struct Try.underlying41 h0x0
  obtain ⟨vhi, rfl, _⟩ := typed_int Try.underlying39 h1x0
  obtain ⟨vlo, rfl, _⟩ := typed_int Try.underlying39 h1x1
  obtain ⟨vfi, rfl, _⟩ := typed_int Try.underlying3 h0x1
  obtain ⟨vla, rfl, _⟩ := typed_int Try.underlying3 h0x2
  obtain ⟨vsu, rfl⟩ := typed_bool Try.underlying4 h0x3
  obtain ⟨wsp, rfl, _, qsp⟩ := typed_slice Try.underlying42 h0x4
  obtain ⟨vsp, rfl⟩ := typed_all (f := Sp.row) fun r h => typed_sp (qsp r h)
  exact ⟨Ep.mk vhi vlo vfi vla vsu vsp, rfl⟩
theorem typed_bk {r : List V} {B d : Nat} (h : Typed Try.prog B (d + 8) 24 r) : ∃ e : Bk, r = Bk.row e := by
  obtain ⟨_, _, rfl, h0x0, _, _, rfl, h0x1, _, _, rfl, h0x2, _, _, rfl, h0x3, rfl⟩ :
    catFields (Typed Try.prog B (d + 7)) [⟨"Number", 3, 0, false, "", "", 0⟩, ⟨"Born", 3, 1, false, "", "", 8⟩, ⟨"Tier", 3, 2, false, "", "", 16⟩, ⟨"Episodes", 22, 3, false, "", "", 24⟩] _ := typed_struct Try.underlying24 h
  obtain ⟨vnu, rfl, _⟩ := typed_int Try.underlying3 h0x0
  obtain ⟨vbo, rfl, _⟩ := typed_int Try.underlying3 h0x1
  obtain ⟨vti, rfl, _⟩ := typed_int Try.underlying3 h0x2
  obtain ⟨wep, rfl, _, qep⟩ := typed_slice Try.underlying22 h0x3
  obtain ⟨vep, rfl⟩ := typed_all (f := Ep.row) fun r h => typed_ep (qep r h)
  exact ⟨Bk.mk vnu vbo vti vep, rfl⟩
theorem u_bnd {n : Int} {B : Nat} (h : (U n).bnd B) : isU n := by
  simp [U, V.bnd, Lit.wf, IntKind.min, IntKind.max, IntKind.signed, IntKind.bits] at h
  unfold isU
  omega
theorem sp_wf {s : Sp} {B : Nat} (h : bndL B s.row) : wfS s := by
  simp only [Sp.row, bndL] at h
  exact ⟨u_bnd h.1, u_bnd h.2.1, u_bnd h.2.2.1, u_bnd h.2.2.2.1⟩
theorem ep_wf {e : Ep} {B : Nat} (h : bndL B e.row) : wfE e := by
  simp only [Ep.row, bndL] at h
  refine ⟨u_bnd h.1, u_bnd h.2.1, fun s hs => ?_⟩
  have k := h.2.2.2.2.2.1
  simp only [V.bnd] at k
  exact sp_wf (bndRs_mem k.2 _ (List.mem_map_of_mem hs))
theorem eps_wf {l : List Ep} {n B : Nat} (h : (V.sl n (l.map Ep.row)).bnd B) : l.length ≤ B ∧ wfL l := by
  simp only [V.bnd, List.length_map] at h
  exact ⟨h.1, fun e he => ep_wf (bndRs_mem h.2 _ (List.mem_map_of_mem he))⟩
theorem typed_u8 {r : List V} {B d : Nat} (h : Typed Try.prog B (d + 1) 5 r) : ∃ b : UInt8, r = bR b := by
  obtain ⟨v, rfl, hw⟩ := typed_int Try.underlying5 h
  simp [Lit.wf, IntKind.min, IntKind.max, IntKind.signed, IntKind.bits] at hw
  refine ⟨UInt8.ofNat v.toNat, ?_⟩
  unfold bR intRow
  rw [UInt8.toNat_ofNat', Nat.mod_eq_of_lt (by omega)]
  have : ((v.toNat : Nat) : Int) = v := by omega
  rw [this]
theorem bk_wf {b : Bk} {B : Nat} (h : (Bk.v b).bnd B) : wfL b.eps := by
  simp only [Bk.v, Bk.row, V.bnd, bndL] at h
  have k := h.2.2.2.1
  exact fun e he => ep_wf (bndRs_mem k.2 _ (List.mem_map_of_mem he))
theorem own : ownKnob Try.prog.godebug = none := by kernel_rfl
theorem laidOut : laidOutB Try.prog = true := by kernel_rfl
mutual
theorem ub {H : Type} : ∀ d : DataW H, Rows.uptoBulk d = bulk d
  | .lit l => by cases l <;> simp [Rows.uptoBulk, bulk]
  | .nil => by simp [Rows.uptoBulk, bulk]
  | .ptr d => by simp [Rows.uptoBulk, bulk, ub d]
  | .slice l r => by simp [Rows.uptoBulk, bulk, ubA l, ubA r]
  | .agg l => by simp [Rows.uptoBulk, bulk, ubA l]
  | .iface _ d => by simp [Rows.uptoBulk, bulk, ub d]
  | .map l => by simp [Rows.uptoBulk, bulk, ubE l]
  | .held _ => by simp [Rows.uptoBulk, bulk]
theorem ubA {H : Type} : ∀ l : List (DataW H), Rows.uptoBulkAll l = bulkAll l
  | [] => by simp [Rows.uptoBulkAll, bulkAll]
  | d :: l => by simp [Rows.uptoBulkAll, bulkAll, ub d, ubA l]
theorem ubE {H : Type} : ∀ l : List (Lit × DataW H), Rows.uptoBulkEntries l = bulkEntries l
  | [] => by simp [Rows.uptoBulkEntries, bulkEntries]
  | x :: l => by simp [Rows.uptoBulkEntries, bulkEntries, ubX x, ubE l]
theorem ubX {H : Type} : ∀ x : Lit × DataW H, Rows.uptoBulkEntry x = bulkEntry x
  | (l, d) => by cases l <;> simp [Rows.uptoBulkEntry, bulkEntry, ub d]
end
theorem small {H : Type} {l : List (DataW H)} (h : Rows.uptoSmall H l = true) : bulkAll l ≤ 1048576 := by
  rw [← ubA]
  exact of_decide_eq_true h
theorem spans_bnd {b : Bk} {B : Nat} (h : (Bk.v b).bnd B) : ∀ e ∈ b.eps, e.spans.length ≤ B := by
  simp only [Bk.v, Bk.row, V.bnd, bndL] at h
  intro e he
  have k := bndRs_mem h.2.2.2.1.2 _ (List.mem_map_of_mem he)
  simp only [Ep.row, bndL, V.bnd, List.length_map] at k
  exact k.2.2.2.2.2.1.1
set_option maxRecDepth 100000 in
theorem blockTorn_lifted (os : Os) (started : os.Started) (H : Type) (enc : TypeId × Value → H) (F : Stop.Interp) :
    ReturnsInHanded {} Try.checked os 3 .any ((Rows.OpenSpec.upto Rows.blockTornSpec).pre6 enc Try.prog Try.f3 Rows.blockTornUptoRow.domain false) (((Rows.OpenSpec.upto Rows.blockTornSpec).at F).post enc Try.prog Try.f3 false true false false) := by
  refine returnsInHanded_of_cond (C := Try.checked) (s := Rows.OpenSpec.upto Rows.blockTornSpec) (k := Rows.uptoSmall) rfl own started (by kernel_rfl) Try.func3
    (OpenSpec.witness (enc := enc) (C := Try.checked) (s := Rows.OpenSpec.upto Rows.blockTornSpec) (k := Rows.uptoSmall) rfl false ⟨#[], #[.agg #[.int .i64 0, .int .i64 0, .int .i64 0, .slice none 0 0], .int .i64 0, .int .i64 0], []⟩ 8 (by kernel_rfl) (by kernel_rfl) (by kernel_rfl) (by kernel_rfl)
      (x := ([.agg [.lit (.int .i64 0), .lit (.int .i64 0), .lit (.int .i64 0), .nil], .lit (.int .i64 0), .lit (.int .i64 0)], [], [])) (by kernel_rfl) rfl (by kernel_rfl)) ?_
  intro W base args ds gs before hval hW _ hk _
  refine row_upto2 (P := Try.prog) (tb := 4) (s := Rows.blockTornSpec) laidOut rfl (by kernel_rfl) (by kernel_rfl) (by kernel_rfl) Try.underlying4 (fun ds h => ?_) (fun us h hsz => ?_) W base args ds gs before hval hW (small hk)
  · match ds, h with
    | [_, _, _], _ => rfl
  · obtain ⟨u0, _, rfl, h0, u1, _, rfl, h1, u2, _, rfl, h2, rfl⟩ := h
    have b0 := arg_bnd h0
    have b1 := arg_bnd h1
    have b2 := arg_bnd h2
    obtain ⟨cs0, rfl, hc0⟩ := arg_struct Try.underlying24 h0
    obtain ⟨b, rfl⟩ := typed_bk hc0
    obtain ⟨cut, rfl, hcut⟩ := arg_int Try.underlying3 h1
    obtain ⟨bit, rfl, hbit⟩ := arg_int Try.underlying3 h2
    exact cTorn b cut bit (spans_bnd b0) (bk_wf b0) (by simp only [szL] at hsz; show (V.agg b.row).sz ≤ 1048576; omega)

theorem BlockTorn_proved : Rows.BlockTornUptoSaid :=
  OpenClaim.holds_of_cond 3 Try.f3 rfl rfl rfl rfl rfl rfl rfl ⟨rfl, rfl, rfl, rfl, rfl⟩ rfl rfl rfl rfl rfl (by kernel_rfl) Try.func3 (by kernel_rfl)
    (of_decide_eq_true (by kernel_rfl)) (by unfold Func.isWrapper; first | (rw [if_pos (by decide +kernel)]; kernel_rfl) | (rw [if_neg (by decide +kernel)]; exact ⟨rfl, rfl⟩))
    (fun os started H enc _ F => blockTorn_lifted os started H enc F)
#print axioms BlockTorn_proved
end Go.Proofs.Ytdomjccibhgbjaa
