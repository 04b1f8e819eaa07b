/- RollupSums: each window's row is the sum of those of the windows that it is made of. -/
import Derived.Test.YtigakemkanobaaaRwS
import Derived.Test.YtigakemkanobaaaRows
namespace Go.Proofs.Ytigakemkanobaaa
open E
set_option maxRecDepth 100000
set_option linter.unusedVariables false
set_option linter.unusedSimpArgs false

open Go.ChangeShapes Go.WideShapes Go.ChangeAt Go.RowKit
theorem cSums (l : List Sp) (m : Int) (hm : inI m) : Contract Try.prog 4 [.sl 10 (l.map Sp.row), I m] [] (Bo true) [] := by
  cases h1 : fewAll l with
  | false => exact sumsA l m h1
  | true =>
    obtain ⟨hs, ha⟩ := fewAll_len h1
    have hr := rowsR_len l m
    refine sumsB l m h1 hs (fun x hx => by have := ha x hx; omega) ?_
    have := LoopC.fold (P := Try.prog) (k := 0) (n := 118) (c := uoB) (rowsR l m) (fun (u : Unit) _ => u) (fun _ _ => True) (fun _ i => uoS l m (rowsR l m) i) (e := .exit 0) (by simp)
      (fun i u r hx hi _ => ⟨?_, trivial⟩) (fun u _ => uoE l m _ _ (Nat.le_refl _)) () trivial
    · exact this
    · rcases tf (decide (r.lev = 0)) with h0 | h0
      · exact uo0 l m _ i r hi hx (by omega) h0
      · have hr0 : r.lev ≠ 0 := by simpa using h0
        have hin := LoopC.fold (P := Try.prog) (k := 0) (n := 118) (c := uiB) (rowsR l m) (stU r m) (fun _ _ => True) (fun f k => uiS l m (rowsR l m) i f k) (e := .exit 2) (by simp)
          (fun k f q hq hk _ => ⟨?_, trivial⟩) (fun f _ => uiE l m _ i f _ (Nat.le_refl _)) (fun _ => 0) trivial
        · exact uo1 l m _ i r _ hi hx (by omega) h0 (fun k => rows_sum hm (List.mem_of_getElem? hx) hr0 k) hin
        · obtain ⟨hv, hg⟩ := row_good hm (List.mem_of_getElem? hq)
          rcases hv with h | h | h
          · have hc : Contract Try.prog 13 [I q.lev, I q.win] [] (.tup [I (q.lev + 1), I (upW q.lev q.win), Bo true]) [] := by
              rw [h] at hg ⊢; exact cUp0 q.win hg
            exact uiT l m _ i f k r q _ _ hk hq hi hx (by omega) hc (by rw [h]; rfl) rfl rfl
          · have hc : Contract Try.prog 13 [I q.lev, I q.win] [] (.tup [I (q.lev + 1), I (upW q.lev q.win), Bo true]) [] := by
              rw [h] at hg ⊢; exact cUp1 q.win hg
            exact uiT l m _ i f k r q _ _ hk hq hi hx (by omega) hc (by rw [h]; rfl) rfl rfl
          · have hc : Contract Try.prog 13 [I q.lev, I q.win] [] (.tup [I 0, I 0, Bo false]) [] := by
              rw [h] at hg ⊢; exact cUp2 q.win hg
            exact uiF l m _ i f k r q 0 0 hk hq hi hx (by omega) hc (by rw [h]; rfl)

theorem typed_all {α : Type} {f : α → List V} {rows : List (List V)} (h : ∀ r ∈ rows, ∃ e : α, r = f e) : ∃ es : List α, rows = es.map f := by
  induction rows with
  | nil => exact ⟨[], rfl⟩
  | cons r rows ih =>
    obtain ⟨e, rfl⟩ := h r (by simp)
    obtain ⟨es, rfl⟩ := ih fun r hr => h r (by simp [hr])
    exact ⟨e :: es, rfl⟩
theorem inI_of {n : Int} (h : (Lit.int .i64 n).wf = true) : inI n := by
  simp [Lit.wf, IntKind.min, IntKind.max, IntKind.signed, IntKind.bits] at h
  unfold inI
  omega
theorem typed_at {r : List V} {d : Nat} (h : Typed Try.prog (d + 2) 60 r) : ∃ e : At, r = At.row e := by
  obtain ⟨_, _, rfl, h0x0, _, _, rfl, h0x1, rfl⟩ :
    catFields (Typed Try.prog (d + 1)) [⟨"Key", 9, 0, false, "", "", 0⟩, ⟨"Value", 9, 1, false, "", "", 16⟩] _ := typed_struct Try.underlying60 h
  obtain ⟨vk, rfl, _⟩ := typed_string Try.underlying9 h0x0
  obtain ⟨vw, rfl, _⟩ := typed_string Try.underlying9 h0x1
  exact ⟨At.mk vk vw, rfl⟩
theorem typed_sp {r : List V} {d : Nat} (h : Typed Try.prog (d + 4) 32 r) : ∃ e : Sp, r = Sp.row e := by
  obtain ⟨_, _, rfl, h0x0, _, _, rfl, h0x1, _, _, rfl, h0x2, _, _, rfl, h0x3, _, _, rfl, h0x4, _, _, rfl, h0x5, _, _, rfl, h0x6, _, _, rfl, h0x7, _, _, rfl, h0x8, rfl⟩ :
    catFields (Typed Try.prog (d + 3)) [⟨"Trace", 29, 0, false, "", "", 0⟩, ⟨"Id", 27, 2, false, "", "", 16⟩, ⟨"Parent", 27, 3, false, "", "", 24⟩, ⟨"Service", 9, 4, false, "", "", 32⟩, ⟨"Op", 9, 5, false, "", "", 48⟩, ⟨"Start", 3, 6, false, "", "", 64⟩, ⟨"Dur", 3, 7, false, "", "", 72⟩, ⟨"Err", 4, 8, false, "", "", 80⟩, ⟨"Attrs", 30, 9, false, "", "", 88⟩] _ := typed_struct Try.underlying32 h
  obtain ⟨_, _, rfl, h1x0, _, _, rfl, h1x1, rfl⟩ :
    catFields (Typed Try.prog (d + 2)) [⟨"Hi", 27, 0, false, "", "", 0⟩, ⟨"Lo", 27, 1, false, "", "", 8⟩] _ := typed_struct Try.underlying29 h0x0
  obtain ⟨vhi, rfl, _⟩ := typed_int Try.underlying27 h1x0
  obtain ⟨vlo, rfl, _⟩ := typed_int Try.underlying27 h1x1
  obtain ⟨vid, rfl, _⟩ := typed_int Try.underlying27 h0x1
  obtain ⟨vpar, rfl, _⟩ := typed_int Try.underlying27 h0x2
  obtain ⟨vsvc, rfl, _⟩ := typed_string Try.underlying9 h0x3
  obtain ⟨vop, rfl, _⟩ := typed_string Try.underlying9 h0x4
  obtain ⟨vst, rfl, _⟩ := typed_int Try.underlying3 h0x5
  obtain ⟨vdu, rfl, _⟩ := typed_int Try.underlying3 h0x6
  obtain ⟨ver, rfl⟩ := typed_bool Try.underlying4 h0x7
  obtain ⟨wat, rfl, _, qat⟩ := typed_slice Try.underlying30 h0x8
  obtain ⟨vat, rfl⟩ := typed_all (f := At.row) fun r h => typed_at (qat r h)
  exact ⟨Sp.mk vhi vlo vid vpar vsvc vop vst vdu ver vat, rfl⟩
theorem own : ownKnob Try.prog.godebug = none := by kernel_rfl
theorem laidOut : laidOutB Try.prog = true := by kernel_rfl
theorem rollupSums_lifted (os : Os) (started : os.Started) (H : Type) (enc : TypeId × Value → H) :
    ReturnsInHanded {} Try.checked os 4 .any (Rows.rollupSumsSpec.pre6 enc Try.prog Try.f4 Rows.rollupSumsRow.domain false) (Rows.rollupSumsSpec.post enc Try.prog Try.f4 false true false false) := by
  refine returnsInHanded_of_change (C := Try.checked) own started (by kernel_rfl) Try.func4
    (ChangeSpec.witness6 (enc := enc) (C := Try.checked) false ⟨#[], #[.slice none 0 0, .int .i64 0], []⟩ 8 (by kernel_rfl) (by kernel_rfl) (by kernel_rfl) (by kernel_rfl)) ?_
  intro W base args ds gs before hval hW _ _
  refine row_of (P := Try.prog) (tb := 4) laidOut rfl (by kernel_rfl) (by kernel_rfl) (by kernel_rfl) Try.underlying4 (fun ds h => ?_) (fun us h => ?_) W base args ds gs before hval hW
  · match ds, h with
    | [_, _], _ => rfl
  · obtain ⟨u0, _, rfl, h0, u1, _, rfl, h1, rfl⟩ := h
    obtain ⟨rows0, rfl, _, hr0⟩ := arg_slice Try.underlying22 h0
    obtain ⟨l, rfl⟩ := typed_all (f := Sp.row) fun r h => typed_sp (hr0 r h)
    obtain ⟨m, rfl, hm⟩ := arg_int Try.underlying3 h1
    exact cSums l m (inI_of hm)

theorem RollupSums_proved : Rows.RollupSumsSaid :=
  OpenClaim.holds_of_wide 4 Try.f4 rfl rfl rfl rfl rfl rfl rfl ⟨rfl, rfl, rfl, rfl, rfl⟩ rfl rfl rfl rfl rfl (by kernel_rfl) Try.func4 (by kernel_rfl)
    (of_decide_eq_true (by kernel_rfl)) (by unfold Func.isWrapper; first | (rw [if_pos (by decide +kernel)]; kernel_rfl) | (rw [if_neg (by decide +kernel)]; exact ⟨rfl, rfl⟩))
    (fun os started H enc _ => rollupSums_lifted os started H enc)
#print axioms RollupSums_proved
end Go.Proofs.Ytigakemkanobaaa
