/- RollupExpires: just those rows go whose window is over so long, later more go, and none comes back. -/
import Derived.Test.YtigakemkanobaaaRwU
import Derived.Test.YtigakemkanobaaaRows
namespace Go.Proofs.Ytigakemkanobaaa
open E
set_option maxRecDepth 100000
set_option linter.unusedVariables false
set_option linter.unusedSimpArgs false

open Go.ChangeShapes Go.WideShapes Go.ChangeAt Go.RowKit
theorem lessC_small {a b : Int} (ha : 0 ≤ a ∧ a ≤ 1099511627776) (hb : 0 ≤ b ∧ b ≤ 1099511627776) : lessC a b = a - b := by
  unfold lessC
  rw [← Int.sub_eq_add_neg, i64_small (by omega)]
  have h1 : (decide (b > 0) && decide (a - b > a)) = false := by simp; omega
  have h2 : (decide (b < 0) && decide (a - b < a)) = false := by simp; omega
  rw [h1, h2]; rfl
theorem gone_small {sec : Int} {hz : Nat → Int} {r : Rw} {v : Nat} (hv : r.lev = (v : Int)) (hg : goodW r.lev r.win = true) (h0 : 0 ≤ sec ∧ sec ≤ 1099511627776) (h1 : 0 ≤ hz v ∧ hz v ≤ 1099511627776) : goneB sec hz r = decide ((r.win + 1) * lenW r.lev ≤ sec - hz v) := by
  unfold goneB
  rw [hg]
  have : r.lev.toNat = v := by omega
  rw [this, lessC_small h0 h1]; rfl
theorem filter_at {α : Type} (p : α → Bool) : ∀ (l : List α) (i : Nat) (x : α), l[i]? = some x → p x = true → (l.filter p)[((l.take i).filter p).length]? = some x
  | [], i, x, h, _ => by simp at h
  | y :: l, 0, x, h, hp => by
    simp at h; subst h
    simp [List.filter_cons, hp]
  | y :: l, i + 1, x, h, hp => by
    have ih := filter_at p l i x (by simpa using h) hp
    rw [List.take_succ_cons]
    cases hy : p y <;> simp [List.filter_cons, hy, ih]
theorem cExpires (l : List Sp) (sec later : Int) (hz : Nat → Int) : Contract Try.prog 7 [.sl 10 (l.map Sp.row), I sec, I later, .agg (h3 hz)] [] (Bo true) [] := by
  cases h1 : fewAll l with
  | false => exact exsA l sec later hz h1
  | true =>
  by_cases h2 : sec < 0
  · exact exsB l sec later hz h1 h2
  by_cases h3 : sec > later
  · exact exsC l sec later hz h1 (by omega) h3
  by_cases h4 : later > 1099511627776
  · exact exsD l sec later hz h1 (by omega) (by omega) h4
  by_cases g0 : hz 0 < 0 ∨ hz 0 > 1099511627776
  · exact exsH0 l sec later hz h1 (by omega) (by omega) (by omega) g0
  by_cases g1 : hz 1 < 0 ∨ hz 1 > 1099511627776
  · exact exsH1 l sec later hz h1 (by omega) (by omega) (by omega) (by omega) g1
  by_cases g2 : hz 2 < 0 ∨ hz 2 > 1099511627776
  · exact exsH2 l sec later hz h1 (by omega) (by omega) (by omega) (by omega) (by omega) g2
  obtain ⟨hs, hat⟩ := fewAll_len h1
  have hm : inI 1000 := by unfold inI; omega
  have hr := rowsR_len l 1000
  have hsec : 0 ≤ sec ∧ sec ≤ 1099511627776 := by omega
  have hlat : 0 ≤ later ∧ later ≤ 1099511627776 := by omega
  have hgv : ∀ r ∈ rowsR l 1000, ∃ v : Nat, v < 3 ∧ r.lev = (v : Int) ∧ goodW r.lev r.win = true ∧ 0 ≤ hz v ∧ hz v ≤ 1099511627776 := by
    intro r hr
    obtain ⟨hv, hg⟩ := row_good hm hr
    rcases hv with h | h | h
    · exact ⟨0, by omega, h, hg, by omega⟩
    · exact ⟨1, by omega, h, hg, by omega⟩
    · exact ⟨2, by omega, h, hg, by omega⟩
  have hmono : ∀ r ∈ rowsR l 1000, goneB sec hz r = true → goneB later hz r = true := by
    intro r hr h
    obtain ⟨v, _, hv, hg, g1, g2⟩ := hgv r hr
    rw [gone_small hv hg hsec ⟨g1, g2⟩] at h
    rw [gone_small hv hg hlat ⟨g1, g2⟩]
    simp only [decide_eq_true_eq] at h ⊢
    omega
  have e1 : ((rowsR l 1000).filter (fun y => !goneB sec hz y)).filter (fun y => !goneB later hz y) = ((rowsR l 1000).filter (fun y => !goneB later hz y)) := by
    rw [List.filter_filter]
    refine List.filter_congr fun r hr => ?_
    cases h : goneB sec hz r with
    | false => simp
    | true => rw [hmono r hr h]; rfl
  have e2 : ((rowsR l 1000).filter (fun y => !goneB sec hz y)).filter (fun y => !goneB sec hz y) = ((rowsR l 1000).filter (fun y => !goneB sec hz y)) := by
    rw [List.filter_filter]
    refine List.filter_congr fun r hr => ?_
    simp
  have la := List.length_filter_le (fun y => !goneB sec hz y) (rowsR l 1000)
  have lb := List.length_filter_le (fun y => !goneB later hz y) (rowsR l 1000)
  refine exsO l sec later hz h1 (by omega) (by omega) (by omega) (by omega) (by omega) (by omega) hs (fun x hx => by have := hat x hx; omega) (by omega) (by omega) (by omega) e1 e2 ?_
  have hfold := LoopC.fold (P := Try.prog) (k := 0) (n := 132) (c := exB) (rowsR l 1000) (fun (k : Nat) r => bif goneB sec hz r then k else k + 1) (fun i k => k = (((rowsR l 1000).take i).filter (fun y => !goneB sec hz y)).length) (fun k i => exS sec later hz (rowsR l 1000) ((rowsR l 1000).filter (fun y => !goneB sec hz y)) k i) (e := .exit 2) (by simp)
    (fun i k r hy hi hk => by
      have hmem := List.mem_of_getElem? hy
      obtain ⟨v, hv3, hv, hg, g1, g2⟩ := hgv r hmem
      have hgs := gone_small hv hg hsec ⟨g1, g2⟩
      have ht : (rowsR l 1000).take (i + 1) = (rowsR l 1000).take i ++ [r] := by
        rw [List.take_add_one, hy]; rfl
      rw [ht, List.filter_append, List.length_append]
      cases hb : goneB sec hz r with
      | true =>
        rw [hb] at hgs
        have hd := hgs.symm
        refine ⟨?_, by simp [hb, hk]⟩
        have : v = 0 ∨ v = 1 ∨ v = 2 := by omega
        rcases this with rfl | rfl | rfl
        · exact exG0 sec later hz _ _ k i r hi hy (by omega) hg hv hsec ⟨g1, g2⟩ hd
        · exact exG1 sec later hz _ _ k i r hi hy (by omega) hg hv hsec ⟨g1, g2⟩ hd
        · exact exG2 sec later hz _ _ k i r hi hy (by omega) hg hv hsec ⟨g1, g2⟩ hd
      | false =>
        rw [hb] at hgs
        have hd := hgs.symm
        have hkr := filter_at (fun y => !goneB sec hz y) (rowsR l 1000) i r hy (by simp [hb])
        rw [← hk] at hkr
        refine ⟨?_, by simp [hb, hk]⟩
        have : v = 0 ∨ v = 1 ∨ v = 2 := by omega
        rcases this with rfl | rfl | rfl
        · exact exK0 sec later hz _ _ k i r hi hy (by omega) hg hv hsec ⟨g1, g2⟩ hd hkr (by omega)
        · exact exK1 sec later hz _ _ k i r hi hy (by omega) hg hv hsec ⟨g1, g2⟩ hd hkr (by omega)
        · exact exK2 sec later hz _ _ k i r hi hy (by omega) hg hv hsec ⟨g1, g2⟩ hd hkr (by omega))
    (fun k _ => exE sec later hz _ _ k _ (Nat.le_refl _)) 0 (by simp)
  have hlen : ∀ (x : List Rw) (k : Nat), x.foldl (fun (k : Nat) r => bif goneB sec hz r then k else k + 1) k = k + (x.filter (fun y => !goneB sec hz y)).length := by
    intro x
    induction x with
    | nil => intro k; simp
    | cons r x ih =>
      intro k
      rw [List.foldl_cons, ih]
      cases h : goneB sec hz r <;> simp [List.filter_cons, h]; omega
  rw [hlen, Nat.zero_add] at hfold
  exact hfold

theorem typed_h {r : List V} {d : Nat} (h : Typed Try.prog (d + 2) 50 r) : ∃ hz : Nat → Int, r = h3 hz := by
  obtain ⟨_, _, rfl, h0, _, _, rfl, h1, _, _, rfl, h2, rfl⟩ : catN (Typed Try.prog (d + 1) 3) 3 r := typed_array Try.underlying50 h
  obtain ⟨a, rfl, _⟩ := typed_int Try.underlying3 h0
  obtain ⟨b, rfl, _⟩ := typed_int Try.underlying3 h1
  obtain ⟨c, rfl, _⟩ := typed_int Try.underlying3 h2
  exact ⟨fun | 0 => a | 1 => b | _ => c, rfl⟩
theorem typed_all {α : Type} {f : α → List V} {rows : List (List V)} (h : ∀ r ∈ rows, ∃ e : α, r = f e) : ∃ es : List α, rows = es.map f := by
  induction rows with
  | nil => exact ⟨[], rfl⟩
  | cons r rows ih =>
    obtain ⟨e, rfl⟩ := h r (by simp)
    obtain ⟨es, rfl⟩ := ih fun r hr => h r (by simp [hr])
    exact ⟨e :: es, rfl⟩
theorem inI_of {n : Int} (h : (Lit.int .i64 n).wf = true) : inI n := by
  simp [Lit.wf, IntKind.min, IntKind.max, IntKind.signed, IntKind.bits] at h
  unfold inI
  omega
theorem typed_at {r : List V} {d : Nat} (h : Typed Try.prog (d + 2) 60 r) : ∃ e : At, r = At.row e := by
  obtain ⟨_, _, rfl, h0x0, _, _, rfl, h0x1, rfl⟩ :
    catFields (Typed Try.prog (d + 1)) [⟨"Key", 9, 0, false, "", "", 0⟩, ⟨"Value", 9, 1, false, "", "", 16⟩] _ := typed_struct Try.underlying60 h
  obtain ⟨vk, rfl, _⟩ := typed_string Try.underlying9 h0x0
  obtain ⟨vw, rfl, _⟩ := typed_string Try.underlying9 h0x1
  exact ⟨At.mk vk vw, rfl⟩
theorem typed_sp {r : List V} {d : Nat} (h : Typed Try.prog (d + 4) 32 r) : ∃ e : Sp, r = Sp.row e := by
  obtain ⟨_, _, rfl, h0x0, _, _, rfl, h0x1, _, _, rfl, h0x2, _, _, rfl, h0x3, _, _, rfl, h0x4, _, _, rfl, h0x5, _, _, rfl, h0x6, _, _, rfl, h0x7, _, _, rfl, h0x8, rfl⟩ :
    catFields (Typed Try.prog (d + 3)) [⟨"Trace", 29, 0, false, "", "", 0⟩, ⟨"Id", 27, 2, false, "", "", 16⟩, ⟨"Parent", 27, 3, false, "", "", 24⟩, ⟨"Service", 9, 4, false, "", "", 32⟩, ⟨"Op", 9, 5, false, "", "", 48⟩, ⟨"Start", 3, 6, false, "", "", 64⟩, ⟨"Dur", 3, 7, false, "", "", 72⟩, ⟨"Err", 4, 8, false, "", "", 80⟩, ⟨"Attrs", 30, 9, false, "", "", 88⟩] _ := typed_struct Try.underlying32 h
  obtain ⟨_, _, rfl, h1x0, _, _, rfl, h1x1, rfl⟩ :
    catFields (Typed Try.prog (d + 2)) [⟨"Hi", 27, 0, false, "", "", 0⟩, ⟨"Lo", 27, 1, false, "", "", 8⟩] _ := typed_struct Try.underlying29 h0x0
  obtain ⟨vhi, rfl, _⟩ := typed_int Try.underlying27 h1x0
  obtain ⟨vlo, rfl, _⟩ := typed_int Try.underlying27 h1x1
  obtain ⟨vid, rfl, _⟩ := typed_int Try.underlying27 h0x1
  obtain ⟨vpar, rfl, _⟩ := typed_int Try.underlying27 h0x2
  obtain ⟨vsvc, rfl, _⟩ := typed_string Try.underlying9 h0x3
  obtain ⟨vop, rfl, _⟩ := typed_string Try.underlying9 h0x4
  obtain ⟨vst, rfl, _⟩ := typed_int Try.underlying3 h0x5
  obtain ⟨vdu, rfl, _⟩ := typed_int Try.underlying3 h0x6
  obtain ⟨ver, rfl⟩ := typed_bool Try.underlying4 h0x7
  obtain ⟨wat, rfl, _, qat⟩ := typed_slice Try.underlying30 h0x8
  obtain ⟨vat, rfl⟩ := typed_all (f := At.row) fun r h => typed_at (qat r h)
  exact ⟨Sp.mk vhi vlo vid vpar vsvc vop vst vdu ver vat, rfl⟩
theorem own : ownKnob Try.prog.godebug = none := by kernel_rfl
theorem laidOut : laidOutB Try.prog = true := by kernel_rfl
theorem rollupExpires_lifted (os : Os) (started : os.Started) (H : Type) (enc : TypeId × Value → H) :
    ReturnsInHanded {} Try.checked os 7 .any (Rows.rollupExpiresSpec.pre6 enc Try.prog Try.f7 Rows.rollupExpiresRow.domain false) (Rows.rollupExpiresSpec.post enc Try.prog Try.f7 false true false false) := by
  refine returnsInHanded_of_change (C := Try.checked) own started (by kernel_rfl) Try.func7
    (ChangeSpec.witness6 (enc := enc) (C := Try.checked) false ⟨#[], #[.slice none 0 0, .int .i64 0, .int .i64 0, .agg #[.int .i64 0, .int .i64 0, .int .i64 0]], []⟩ 8 (by kernel_rfl) (by kernel_rfl) (by kernel_rfl) (by kernel_rfl)) ?_
  intro W base args ds gs before hval hW _ _
  refine row_of (P := Try.prog) (tb := 4) laidOut rfl (by kernel_rfl) (by kernel_rfl) (by kernel_rfl) Try.underlying4 (fun ds h => ?_) (fun us h => ?_) W base args ds gs before hval hW
  · match ds, h with
    | [_, _, _, _], _ => rfl
  · obtain ⟨u0, _, rfl, h0, u1, _, rfl, h1, u2, _, rfl, h2, u3, _, rfl, h3, rfl⟩ := h
    obtain ⟨rows0, rfl, _, hr0⟩ := arg_slice Try.underlying22 h0
    obtain ⟨l, rfl⟩ := typed_all (f := Sp.row) fun r h => typed_sp (hr0 r h)
    obtain ⟨sec, rfl, hsec⟩ := arg_int Try.underlying3 h1
    obtain ⟨later, rfl, hlater⟩ := arg_int Try.underlying3 h2
    obtain ⟨cs3, rfl, hcs3⟩ := arg_array Try.underlying50 h3
    obtain ⟨hz, rfl⟩ := typed_h hcs3
    exact cExpires l sec later hz

theorem RollupExpires_proved : Rows.RollupExpiresSaid :=
  OpenClaim.holds_of_wide 7 Try.f7 rfl rfl rfl rfl rfl rfl rfl ⟨rfl, rfl, rfl, rfl, rfl⟩ rfl rfl rfl rfl rfl (by kernel_rfl) Try.func7 (by kernel_rfl)
    (of_decide_eq_true (by kernel_rfl)) (by unfold Func.isWrapper; first | (rw [if_pos (by decide +kernel)]; kernel_rfl) | (rw [if_neg (by decide +kernel)]; exact ⟨rfl, rfl⟩))
    (fun os started H enc _ => rollupExpires_lifted os started H enc)
#print axioms RollupExpires_proved
end Go.Proofs.Ytigakemkanobaaa
