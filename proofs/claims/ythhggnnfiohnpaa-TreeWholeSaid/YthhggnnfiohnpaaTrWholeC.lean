/- TreeWhole: each span stands once in the order, behind its parent and one deeper, what is below it stands right behind it, and those without parent have all spans below them. Without conditions. -/
import Derived.Test.YthhggnnfiohnpaaTrWholeP4
import Derived.Test.YthhggnnfiohnpaaRows
namespace Go.Proofs.Ythhggnnfiohnpaa
open E
set_option maxRecDepth 100000
set_option linter.unusedVariables false
set_option linter.unusedSimpArgs false

def setB {l : List Sp} (H : List Bool) (ps : List (Ix l)) : List Bool := ps.foldl (fun H x => H.set x.n true) H
theorem setB_len {l : List Sp} : ∀ (ps : List (Ix l)) (H : List Bool), (setB H ps).length = H.length
  | [], H => rfl
  | q :: ps, H => by
    show (setB (H.set q.n true) ps).length = _
    rw [setB_len ps, List.length_set]
theorem setB_not {l : List Sp} : ∀ (ps : List (Ix l)) (H : List Bool) (x : Ix l), x ∉ ps → (setB H ps)[x.n]? = H[x.n]?
  | [], H, x, _ => rfl
  | q :: ps, H, x, h => by
    rw [List.mem_cons, not_or] at h
    show (setB (H.set q.n true) ps)[x.n]? = _
    rw [setB_not ps _ x h.2, List.getElem?_set, if_neg (fun e => h.1 (Ix.ext e.symm))]
theorem tw1L (l : List Sp) (hs : l.length ≤ 60) : ∃ H, LoopC Try.prog 0 218 tw1B (tw1S l (List.replicate l.length 0) (List.replicate l.length false) 0) (.exit 0) (tw1S l (atF l) H l.length) := by
  refine ⟨setB (List.replicate l.length false) (ordX l), ?_⟩
  have key : ∀ m i, i + m = l.length → LoopC Try.prog 0 218 tw1B (tw1S l (setAll (List.replicate l.length 0) ((atP l).take i)) (setB (List.replicate l.length false) ((ordX l).take i)) i) (.exit 0) (tw1S l (atF l) (setB (List.replicate l.length false) (ordX l)) l.length) := by
    intro m
    induction m with
    | zero =>
      intro i h
      have : i = l.length := by omega
      subst this
      rw [List.take_of_length_le (by rw [atP_len]; exact Nat.le_refl _), List.take_of_length_le (by rw [ordX_len]; exact Nat.le_refl _)]
      exact LoopC.last (tw1E l _ _ _ (Nat.le_refl _)) (by simp)
    | succ m ih =>
      intro i h
      have hi : i < l.length := by omega
      have hx : (ordX l)[i]? = some ((ordX l)[i]'(by rw [ordX_len]; exact hi)) := List.getElem?_eq_getElem _
      generalize (ordX l)[i]'(by rw [ordX_len]; exact hi) = x at hx
      have hnot : x ∉ (ordX l).take i := by
        intro hm
        obtain ⟨a, ha⟩ := List.getElem?_of_mem hm
        have hai : a < i := by have := (List.getElem?_eq_some_iff.1 ha).1; simp at this; omega
        rw [List.getElem?_take, if_pos hai] at ha
        have h1 := (List.getElem?_eq_some_iff.1 ha)
        have h2 := (List.getElem?_eq_some_iff.1 hx)
        obtain ⟨u1, u2⟩ := h1
        obtain ⟨v1, v2⟩ := h2
        exact (List.pairwise_iff_getElem.1 (ordX_nodup l)) a i u1 v1 hai (by rw [u2, v2])
      have hH : (setB (List.replicate l.length false) ((ordX l).take i))[x.n]? = some false := by
        rw [setB_not _ _ x hnot]; simp [x.lt]
      have hA := List.getElem?_eq_getElem (show x.n < (setAll (List.replicate l.length 0) ((atP l).take i)).length by rw [setAll_len]; simpa using x.lt)
      have hr := tw1G l _ _ x _ i hx hi hs hH hA
      have e1 : (setAll (List.replicate l.length 0) ((atP l).take i)).set x.n (i : Int) = setAll (List.replicate l.length 0) ((atP l).take (i + 1)) := by
        rw [List.take_add_one, atP_at l i x hx, setAll_app]; rfl
      have e2 : (setB (List.replicate l.length false) ((ordX l).take i)).set x.n true = setB (List.replicate l.length false) ((ordX l).take (i + 1)) := by
        rw [List.take_add_one, hx]; unfold setB; rw [List.foldl_append]; rfl
      rw [e1, e2] at hr
      exact LoopC.next hr (ih (i + 1) (by omega))
  exact key l.length 0 (by omega)
theorem tw2L (l : List Sp) (hs : l.length ≤ 60) : LoopC Try.prog 0 218 tw2B (tw2S l (atF l) 0 0) (.exit 2) (tw2S l (atF l) (l.length : Int) l.length) := by
  have key : ∀ m i, i + m = l.length → LoopC Try.prog 0 218 tw2B (tw2S l (atF l) ((allF l i : Nat) : Int) i) (.exit 2) (tw2S l (atF l) (l.length : Int) l.length) := by
    intro m
    induction m with
    | zero =>
      intro i h
      have : i = l.length := by omega
      subst this
      rw [allF_end]
      exact LoopC.last (tw2E l _ _ _ (Nat.le_refl _)) (by simp)
    | succ m ih =>
      intro i h
      have hi : i < l.length := by omega
      have ih' := ih (i + 1) (by omega)
      have hle := allF_le l m (i + 1) (by omega)
      have hv := List.getElem?_eq_getElem (show i < (parF l).length by rw [parF_len]; exact hi)
      rcases parF_inR l i _ hv with h1 | ⟨j, hj, h1⟩
      · rw [h1] at hv
        obtain ⟨s, q1, q2, q3⟩ := allF_root l i hi hv
        rw [q3] at ih' hle
        exact LoopC.next (tw2R l (atF l) (allF l i) s i hi hs hv q1 q2 (by omega)) ih'
      · rw [h1] at hv
        rw [parF_len] at hj
        rw [allF_kid l i j hi hj hv] at ih'
        have hy := List.getElem?_eq_getElem hi
        obtain ⟨x, hx, he⟩ := named_id l i j _ hi hy hv
        obtain ⟨a, b, sx, sz, p1, p2, p3, p4, p5, p6, p7, t, p8, p9⟩ := kid_block l ⟨j, hj⟩ ⟨i, hi⟩ hv
        have ha := atF_at l a _ p1
        have hb := atF_at l b _ p2
        have hal : a < l.length := by rw [← ordX_len l]; exact (List.getElem?_eq_some_iff.1 p1).1
        obtain ⟨t0, ht0, hd0⟩ := acyc l j hj
        have hdep : (depF l)[j]? = some (t0 : Int) := by
          obtain ⟨t1, _, k2, k3⟩ := ordP_mem l ⟨j, hj⟩
          have := hd0.uniq k2
          subst this
          exact setAll_at _ _ ⟨j, hj⟩ _ (by simp) (ordP_nodup l) k3
        simp only [Ix.n] at p3 p4 p8 p9 ha hb
        have ht : t < l.length := by
          rw [hdep] at p8
          simp only [Option.some.injEq] at p8
          omega
        have hsx : sx ≤ l.length := by
          have hsz := sizF_at l ⟨j, hj⟩ t0 (l.length - t0) (by omega) hd0
          simp only [Ix.n] at hsz
          rw [hsz] at p3
          have hnd := pr_nodup (parF_inR l) (parF_len l) (l.length - t0) t0 [(⟨j, hj⟩ : Ix l)] (List.nodup_cons.2 ⟨by simp, List.nodup_nil⟩) (fun z hz => by simp only [List.mem_singleton] at hz; subst hz; exact hd0)
          have hle := nodup_le _ hnd
          rw [List.length_map, pr_len0] at hle
          simp only [Option.some.injEq] at p3
          omega
        exact LoopC.next (tw2K l (atF l) _ x _ i j b a sz sx t hi hj hs hv hx hy he hb ha p4 p3 p8 p9 p5 p6 p7 (by omega) (by omega)) ih'
  have h0 : allF l 0 = 0 := by
    unfold allF
    have : kidR l (parF l) l.length 0 = [] := by simp [kidR]
    rw [this]
    cases l.length <;> rfl
  have := key l.length 0 (by omega)
  rw [h0] at this
  exact this
theorem cWhole (l : List Sp) : Contract Try.prog 5 [.sl 10 (l.map Sp.row)] [] (Bo true) [] := by
  cases h : fewAll l with
  | false => exact twA l h
  | true =>
    have hl := (fewAll_len h).1
    obtain ⟨H, hH⟩ := tw1L l hl
    exact twB l H h hl hH (tw2L l hl)

open Go.ChangeShapes Go.WideShapes Go.ChangeAt Go.RowKit
theorem typed_all {α : Type} {f : α → List V} {rows : List (List V)} (h : ∀ r ∈ rows, ∃ e : α, r = f e) : ∃ es : List α, rows = es.map f := by
  induction rows with
  | nil => exact ⟨[], rfl⟩
  | cons r rows ih =>
    obtain ⟨e, rfl⟩ := h r (by simp)
    obtain ⟨es, rfl⟩ := ih fun r hr => h r (by simp [hr])
    exact ⟨e :: es, rfl⟩
theorem typed_at {r : List V} {B d : Nat} (h : Typed Try.prog B (d + 2) 50 r) : ∃ e : At, r = At.row e := by
  obtain ⟨_, _, rfl, h0x0, _, _, rfl, h0x1, rfl⟩ :
    catFields (Typed Try.prog B (d + 1)) [⟨"Key", 9, 0, false, "", "", 0⟩, ⟨"Value", 9, 1, false, "", "", 16⟩] _ := typed_struct Try.underlying50 h
  obtain ⟨vk, rfl, _⟩ := typed_string Try.underlying9 h0x0
  obtain ⟨vw, rfl, _⟩ := typed_string Try.underlying9 h0x1
  exact ⟨At.mk vk vw, rfl⟩
theorem typed_sp {r : List V} {B d : Nat} (h : Typed Try.prog B (d + 4) 29 r) : ∃ e : Sp, r = Sp.row e := by
  obtain ⟨_, _, rfl, h0x0, _, _, rfl, h0x1, _, _, rfl, h0x2, _, _, rfl, h0x3, _, _, rfl, h0x4, _, _, rfl, h0x5, _, _, rfl, h0x6, _, _, rfl, h0x7, _, _, rfl, h0x8, rfl⟩ :
    catFields (Typed Try.prog B (d + 3)) [⟨"Trace", 26, 0, false, "", "", 0⟩, ⟨"Id", 24, 2, false, "", "", 16⟩, ⟨"Parent", 24, 3, false, "", "", 24⟩, ⟨"Service", 9, 4, false, "", "", 32⟩, ⟨"Op", 9, 5, false, "", "", 48⟩, ⟨"Start", 3, 6, false, "", "", 64⟩, ⟨"Dur", 3, 7, false, "", "", 72⟩, ⟨"Err", 4, 8, false, "", "", 80⟩, ⟨"Attrs", 27, 9, false, "", "", 88⟩] _ := typed_struct Try.underlying29 h
  obtain ⟨_, _, rfl, h1x0, _, _, rfl, h1x1, rfl⟩ :
    catFields (Typed Try.prog B (d + 2)) [⟨"Hi", 24, 0, false, "", "", 0⟩, ⟨"Lo", 24, 1, false, "", "", 8⟩] _ := typed_struct Try.underlying26 h0x0
  obtain ⟨vhi, rfl, _⟩ := typed_int Try.underlying24 h1x0
  obtain ⟨vlo, rfl, _⟩ := typed_int Try.underlying24 h1x1
  obtain ⟨vid, rfl, _⟩ := typed_int Try.underlying24 h0x1
  obtain ⟨vpar, rfl, _⟩ := typed_int Try.underlying24 h0x2
  obtain ⟨vsvc, rfl, _⟩ := typed_string Try.underlying9 h0x3
  obtain ⟨vop, rfl, _⟩ := typed_string Try.underlying9 h0x4
  obtain ⟨vst, rfl, _⟩ := typed_int Try.underlying3 h0x5
  obtain ⟨vdu, rfl, _⟩ := typed_int Try.underlying3 h0x6
  obtain ⟨ver, rfl⟩ := typed_bool Try.underlying4 h0x7
  obtain ⟨wat, rfl, _, qat⟩ := typed_slice Try.underlying27 h0x8
  obtain ⟨vat, rfl⟩ := typed_all (f := At.row) fun r h => typed_at (qat r h)
  exact ⟨Sp.mk vhi vlo vid vpar vsvc vop vst vdu ver vat, rfl⟩
theorem own : ownKnob Try.prog.godebug = none := by kernel_rfl
theorem laidOut : laidOutB Try.prog = true := by kernel_rfl
theorem treeWhole_lifted (os : Os) (started : os.Started) (H : Type) (enc : TypeId × Value → H) :
    ReturnsInHanded {} Try.checked os 5 .any (Rows.treeWholeSpec.pre6 enc Try.prog Try.f5 Rows.treeWholeRow.domain false) (Rows.treeWholeSpec.post enc Try.prog Try.f5 false true false false) := by
  refine returnsInHanded_of_change (C := Try.checked) own started (by kernel_rfl) Try.func5
    (ChangeSpec.witness6 (enc := enc) (C := Try.checked) false ⟨#[], #[.slice none 0 0], []⟩ 8 (by kernel_rfl) (by kernel_rfl) (by kernel_rfl) (by kernel_rfl)) ?_
  intro W base args ds gs before hval hW _ _
  refine row_of (P := Try.prog) (tb := 4) laidOut rfl (by kernel_rfl) (by kernel_rfl) (by kernel_rfl) Try.underlying4 (fun ds h => ?_) (fun us h => ?_) W base args ds gs before hval hW
  · match ds, h with
    | [_], _ => rfl
  · obtain ⟨u0, _, rfl, h0, rfl⟩ := h
    obtain ⟨rows0, rfl, _, hr0⟩ := arg_slice Try.underlying23 h0
    obtain ⟨l, rfl⟩ := typed_all (f := Sp.row) fun r h => typed_sp (hr0 r h)
    exact cWhole l

theorem TreeWhole_proved : Rows.TreeWholeSaid :=
  OpenClaim.holds_of_wide 5 Try.f5 rfl rfl rfl rfl rfl rfl rfl ⟨rfl, rfl, rfl, rfl, rfl⟩ rfl rfl rfl rfl rfl (by kernel_rfl) Try.func5 (by kernel_rfl)
    (of_decide_eq_true (by kernel_rfl)) (by unfold Func.isWrapper; first | (rw [if_pos (by decide +kernel)]; kernel_rfl) | (rw [if_neg (by decide +kernel)]; exact ⟨rfl, rfl⟩))
    (fun os started H enc _ => treeWhole_lifted os started H enc)
#print axioms TreeWhole_proved
end Go.Proofs.Ythhggnnfiohnpaa
