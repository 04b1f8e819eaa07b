/- MergeKeeps: two blocks together have of each trace the episodes of the one, and of the other behind, and are no older than the younger. -/
import Derived.Test.YtfpdlamjlbpmkaaMgKeepsP4
import Derived.JoinedCond
import Derived.Test.YtfpdlamjlbpmkaaRows
namespace Go.Proofs.Ytfpdlamjlbpmkaa
open E
set_option maxRecDepth 100000
set_option linter.unusedVariables false
set_option linter.unusedSimpArgs false

open Go.ChangeShapes Go.WideShapes Go.ChangeAt Go.RowKit
theorem typed_all {α : Type} {f : α → List V} {rows : List (List V)} (h : ∀ r ∈ rows, ∃ e : α, r = f e) : ∃ es : List α, rows = es.map f := by
  induction rows with
  | nil => exact ⟨[], rfl⟩
  | cons r rows ih =>
    obtain ⟨e, rfl⟩ := h r (by simp)
    obtain ⟨es, rfl⟩ := ih fun r hr => h r (by simp [hr])
    exact ⟨e :: es, rfl⟩
theorem typed_at {r : List V} {B d : Nat} (h : Typed Try.prog B (d + 2) 70 r) : ∃ e : At, r = At.row e := by
  obtain ⟨_, _, rfl, h0x0, _, _, rfl, h0x1, rfl⟩ :
    catFields (Typed Try.prog B (d + 1)) [⟨"Key", 9, 0, false, "", "", 0⟩, ⟨"Value", 9, 1, false, "", "", 16⟩] _ := typed_struct Try.underlying70 h
  obtain ⟨vk, rfl, _⟩ := typed_string Try.underlying9 h0x0
  obtain ⟨vw, rfl, _⟩ := typed_string Try.underlying9 h0x1
  exact ⟨At.mk vk vw, rfl⟩
theorem typed_sp {r : List V} {B d : Nat} (h : Typed Try.prog B (d + 4) 62 r) : ∃ e : Sp, r = Sp.row e := by
  obtain ⟨_, _, rfl, h0x0, _, _, rfl, h0x1, _, _, rfl, h0x2, _, _, rfl, h0x3, _, _, rfl, h0x4, _, _, rfl, h0x5, _, _, rfl, h0x6, _, _, rfl, h0x7, _, _, rfl, h0x8, rfl⟩ :
    catFields (Typed Try.prog B (d + 3)) [⟨"Trace", 35, 0, false, "", "", 0⟩, ⟨"Id", 33, 2, false, "", "", 16⟩, ⟨"Parent", 33, 3, false, "", "", 24⟩, ⟨"Service", 9, 4, false, "", "", 32⟩, ⟨"Op", 9, 5, false, "", "", 48⟩, ⟨"Start", 3, 6, false, "", "", 64⟩, ⟨"Dur", 3, 7, false, "", "", 72⟩, ⟨"Err", 4, 8, false, "", "", 80⟩, ⟨"Attrs", 60, 9, false, "", "", 88⟩] _ := typed_struct Try.underlying62 h
  obtain ⟨_, _, rfl, h1x0, _, _, rfl, h1x1, rfl⟩ :
    catFields (Typed Try.prog B (d + 2)) [⟨"Hi", 33, 0, false, "", "", 0⟩, ⟨"Lo", 33, 1, false, "", "", 8⟩] _ := typed_struct Try.underlying35 h0x0
  obtain ⟨vhi, rfl, _⟩ := typed_int Try.underlying33 h1x0
  obtain ⟨vlo, rfl, _⟩ := typed_int Try.underlying33 h1x1
  obtain ⟨vid, rfl, _⟩ := typed_int Try.underlying33 h0x1
  obtain ⟨vpar, rfl, _⟩ := typed_int Try.underlying33 h0x2
  obtain ⟨vsvc, rfl, _⟩ := typed_string Try.underlying9 h0x3
  obtain ⟨vop, rfl, _⟩ := typed_string Try.underlying9 h0x4
  obtain ⟨vst, rfl, _⟩ := typed_int Try.underlying3 h0x5
  obtain ⟨vdu, rfl, _⟩ := typed_int Try.underlying3 h0x6
  obtain ⟨ver, rfl⟩ := typed_bool Try.underlying4 h0x7
  obtain ⟨wat, rfl, _, qat⟩ := typed_slice Try.underlying60 h0x8
  obtain ⟨vat, rfl⟩ := typed_all (f := At.row) fun r h => typed_at (qat r h)
  exact ⟨Sp.mk vhi vlo vid vpar vsvc vop vst vdu ver vat, rfl⟩
theorem typed_ep {r : List V} {B d : Nat} (h : Typed Try.prog B (d + 6) 49 r) : ∃ e : Ep, r = Ep.row e := by
  obtain ⟨_, _, rfl, h0x0, _, _, rfl, h0x1, _, _, rfl, h0x2, _, _, rfl, h0x3, _, _, rfl, h0x4, rfl⟩ :
    catFields (Typed Try.prog B (d + 5)) [⟨"Trace", 35, 0, false, "", "", 0⟩, ⟨"First", 3, 2, false, "", "", 16⟩, ⟨"Last", 3, 3, false, "", "", 24⟩, ⟨"Sure", 4, 4, false, "", "", 32⟩, ⟨"Spans", 47, 5, false, "", "", 40⟩] _ := typed_struct Try.underlying49 h
  obtain ⟨_, _, rfl, h1x0, _, _, rfl, h1x1, rfl⟩ :
    catFields (Typed Try.prog B (d + 4)) [⟨"Hi", 33, 0, false, "", "", 0⟩, ⟨"Lo", 33, 1, false, "", "", 8⟩] _ := typed_struct Try.underlying35 h0x0
  obtain ⟨vhi, rfl, _⟩ := typed_int Try.underlying33 h1x0
  obtain ⟨vlo, rfl, _⟩ := typed_int Try.underlying33 h1x1
  obtain ⟨vfi, rfl, _⟩ := typed_int Try.underlying3 h0x1
  obtain ⟨vla, rfl, _⟩ := typed_int Try.underlying3 h0x2
  obtain ⟨vsu, rfl⟩ := typed_bool Try.underlying4 h0x3
  obtain ⟨wsp, rfl, _, qsp⟩ := typed_slice Try.underlying47 h0x4
  obtain ⟨vsp, rfl⟩ := typed_all (f := Sp.row) fun r h => typed_sp (qsp r h)
  exact ⟨Ep.mk vhi vlo vfi vla vsu vsp, rfl⟩
theorem typed_bk {r : List V} {B d : Nat} (h : Typed Try.prog B (d + 8) 25 r) : ∃ e : Bk, r = Bk.row e := by
  obtain ⟨_, _, rfl, h0x0, _, _, rfl, h0x1, _, _, rfl, h0x2, _, _, rfl, h0x3, rfl⟩ :
    catFields (Typed Try.prog B (d + 7)) [⟨"Number", 3, 0, false, "", "", 0⟩, ⟨"Born", 3, 1, false, "", "", 8⟩, ⟨"Tier", 3, 2, false, "", "", 16⟩, ⟨"Episodes", 23, 3, false, "", "", 24⟩] _ := typed_struct Try.underlying25 h
  obtain ⟨vnu, rfl, _⟩ := typed_int Try.underlying3 h0x0
  obtain ⟨vbo, rfl, _⟩ := typed_int Try.underlying3 h0x1
  obtain ⟨vti, rfl, _⟩ := typed_int Try.underlying3 h0x2
  obtain ⟨wep, rfl, _, qep⟩ := typed_slice Try.underlying23 h0x3
  obtain ⟨vep, rfl⟩ := typed_all (f := Ep.row) fun r h => typed_ep (qep r h)
  exact ⟨Bk.mk vnu vbo vti vep, rfl⟩
theorem bk_bnd {b : Bk} {B : Nat} (h : bndL B (Bk.row b)) : b.eps.length ≤ B := by
  simp [Bk.row, bndL, V.bnd, I] at h
  exact h.1
theorem bks_bnd {l : List Bk} {n B : Nat} (h : (V.sl n (l.map Bk.row)).bnd B) : ∀ b ∈ l, b.eps.length ≤ B := by
  simp only [V.bnd] at h
  intro b hb
  exact bk_bnd (bndRs_mem h.2 _ (List.mem_map_of_mem hb))
theorem own : ownKnob Try.prog.godebug = none := by kernel_rfl
theorem laidOut : laidOutB Try.prog = true := by kernel_rfl
mutual
theorem ub {H : Type} : ∀ d : DataW H, Rows.uptoBulk d = bulk d
  | .lit l => by cases l <;> simp [Rows.uptoBulk, bulk]
  | .nil => by simp [Rows.uptoBulk, bulk]
  | .ptr d => by simp [Rows.uptoBulk, bulk, ub d]
  | .slice l r => by simp [Rows.uptoBulk, bulk, ubA l, ubA r]
  | .agg l => by simp [Rows.uptoBulk, bulk, ubA l]
  | .iface _ d => by simp [Rows.uptoBulk, bulk, ub d]
  | .map l => by simp [Rows.uptoBulk, bulk, ubE l]
  | .held _ => by simp [Rows.uptoBulk, bulk]
theorem ubA {H : Type} : ∀ l : List (DataW H), Rows.uptoBulkAll l = bulkAll l
  | [] => by simp [Rows.uptoBulkAll, bulkAll]
  | d :: l => by simp [Rows.uptoBulkAll, bulkAll, ub d, ubA l]
theorem ubE {H : Type} : ∀ l : List (Lit × DataW H), Rows.uptoBulkEntries l = bulkEntries l
  | [] => by simp [Rows.uptoBulkEntries, bulkEntries]
  | x :: l => by simp [Rows.uptoBulkEntries, bulkEntries, ubX x, ubE l]
theorem ubX {H : Type} : ∀ x : Lit × DataW H, Rows.uptoBulkEntry x = bulkEntry x
  | (l, d) => by cases l <;> simp [Rows.uptoBulkEntry, bulkEntry, ub d]
end
theorem small {H : Type} {l : List (DataW H)} (h : Rows.uptoSmall H l = true) : bulkAll l ≤ 1048576 := by
  rw [← ubA]
  exact of_decide_eq_true h
set_option maxRecDepth 100000 in
theorem mergeKeeps_lifted (os : Os) (started : os.Started) (H : Type) (enc : TypeId × Value → H) (F : Stop.Interp) :
    ReturnsInHanded {} Try.checked os 4 .any ((Rows.OpenSpec.upto Rows.mergeKeepsSpec).pre6 enc Try.prog Try.f4 Rows.mergeKeepsUptoRow.domain false) (((Rows.OpenSpec.upto Rows.mergeKeepsSpec).at F).post enc Try.prog Try.f4 false true false false) := by
  refine returnsInHanded_of_cond (C := Try.checked) (s := Rows.OpenSpec.upto Rows.mergeKeepsSpec) (k := Rows.uptoSmall) rfl own started (by kernel_rfl) Try.func4
    (OpenSpec.witness (enc := enc) (C := Try.checked) (s := Rows.OpenSpec.upto Rows.mergeKeepsSpec) (k := Rows.uptoSmall) rfl false ⟨#[], #[.agg #[.int .i64 0, .int .i64 0, .int .i64 0, .slice none 0 0], .agg #[.int .i64 0, .int .i64 0, .int .i64 0, .slice none 0 0], .int .i64 0, .agg #[.int .u64 0, .int .u64 0]], []⟩ 8 (by kernel_rfl) (by kernel_rfl) (by kernel_rfl) (by kernel_rfl)
      (x := ([.agg [.lit (.int .i64 0), .lit (.int .i64 0), .lit (.int .i64 0), .nil], .agg [.lit (.int .i64 0), .lit (.int .i64 0), .lit (.int .i64 0), .nil], .lit (.int .i64 0), .agg [.lit (.int .u64 0), .lit (.int .u64 0)]], [], [])) (by kernel_rfl) rfl (by kernel_rfl)) ?_
  intro W base args ds gs before hval hW _ hk _
  refine row_upto (P := Try.prog) (tb := 4) (s := Rows.mergeKeepsSpec) laidOut rfl (by kernel_rfl) (by kernel_rfl) (by kernel_rfl) Try.underlying4 (fun ds h => ?_) (fun us h => ?_) W base args ds gs before hval hW (small hk)
  · match ds, h with
    | [_, _, _, _], _ => rfl
  · obtain ⟨u0, _, rfl, h0, u1, _, rfl, h1, u2, _, rfl, h2, u3, _, rfl, h3, rfl⟩ := h
    have b0 := arg_bnd h0
    have b1 := arg_bnd h1
    have b2 := arg_bnd h2
    have b3 := arg_bnd h3
    obtain ⟨cs0, rfl, hc0⟩ := arg_struct Try.underlying25 h0
    obtain ⟨a, rfl⟩ := typed_bk hc0
    obtain ⟨cs1, rfl, hc1⟩ := arg_struct Try.underlying25 h1
    obtain ⟨b, rfl⟩ := typed_bk hc1
    obtain ⟨n, rfl, hn⟩ := arg_int Try.underlying3 h2
    obtain ⟨cs3, rfl, hc3⟩ := arg_struct Try.underlying35 h3
    obtain ⟨_, _, rfl, hx3, _, _, rfl, hy3, rfl⟩ :
      catFields (Typed Try.prog _ 13) [⟨"Hi", 33, 0, false, "", "", 0⟩, ⟨"Lo", 33, 1, false, "", "", 8⟩] _ := typed_struct Try.underlying35 hc3
    obtain ⟨h, rfl, _⟩ := typed_int Try.underlying33 hx3
    obtain ⟨o, rfl, _⟩ := typed_int Try.underlying33 hy3
    exact cKeeps a b n h o (bk_bnd b0) (bk_bnd b1)

theorem MergeKeeps_proved : Rows.MergeKeepsUptoSaid :=
  OpenClaim.holds_of_cond 4 Try.f4 rfl rfl rfl rfl rfl rfl rfl ⟨rfl, rfl, rfl, rfl, rfl⟩ rfl rfl rfl rfl rfl (by kernel_rfl) Try.func4 (by kernel_rfl)
    (of_decide_eq_true (by kernel_rfl)) (by unfold Func.isWrapper; first | (rw [if_pos (by decide +kernel)]; kernel_rfl) | (rw [if_neg (by decide +kernel)]; exact ⟨rfl, rfl⟩))
    (fun os started H enc _ F => mergeKeeps_lifted os started H enc F)
#print axioms MergeKeeps_proved
end Go.Proofs.Ytfpdlamjlbpmkaa
