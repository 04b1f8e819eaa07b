/- TreeRing: of spans that call one another round and round the first has no parent, and the others stand below it. Without conditions. -/
import Derived.Test.YthhggnnfiohnpaaTrRingP4
import Derived.Test.YthhggnnfiohnpaaRows
namespace Go.Proofs.Ythhggnnfiohnpaa
open E
set_option maxRecDepth 100000
set_option linter.unusedVariables false
set_option linter.unusedSimpArgs false

theorem ring1_succ (n i : Nat) : ring1 n (i + 1) = ring1 n i ++ [mkS i ((i + 1) % n)] := by unfold ring1; rw [List.range_succ, List.map_append]; rfl
theorem ring2_succ (n i : Nat) : ring2 n (i + 1) = ring2 n i ++ [mkS (100 + i) (n - 1)] := by unfold ring2; rw [List.range_succ, List.map_append, List.append_assoc]; rfl
theorem ring1_len (n i : Nat) : (ring1 n i).length = i := by simp [ring1]
theorem ring2_len (n i : Nat) : (ring2 n i).length = n + i := by simp [ring2, ring1_len]
theorem tr1L (n t : Nat) (h1 : 1 ≤ n) (hn : n ≤ 20) : LoopC Try.prog 0 141 tr1B (tr1S n t [] 0) (.exit 0) (tr1S n t (ring1 n n) n) := by
  have key : ∀ m i, i + m = n → LoopC Try.prog 0 141 tr1B (tr1S n t (ring1 n i) i) (.exit 0) (tr1S n t (ring1 n n) n) := by
    intro m
    induction m with
    | zero =>
      intro i h
      have : i = n := by omega
      subst this
      exact LoopC.last (tr1E _ _ _ _ (Nat.le_refl _)) (by simp)
    | succ m ih =>
      intro i h
      have hr := tr1G n t i (ring1 n i) h1 hn (by omega) (by rw [ring1_len]; omega)
      rw [← ring1_succ] at hr
      exact LoopC.next hr (ih (i + 1) (by omega))
  exact key n 0 (by omega)
theorem tr2L (n t : Nat) (h1 : 1 ≤ n) (hn : n ≤ 20) (ht : t ≤ 10) : LoopC Try.prog 0 141 tr2B (tr2S n t (ring1 n n) 0) (.exit 2) (tr2S n t (ring2 n t) t) := by
  have key : ∀ m i, i + m = t → LoopC Try.prog 0 141 tr2B (tr2S n t (ring2 n i) i) (.exit 2) (tr2S n t (ring2 n t) t) := by
    intro m
    induction m with
    | zero =>
      intro i h
      have : i = t := by omega
      subst this
      exact LoopC.last (tr2E _ _ _ _ (Nat.le_refl _)) (by simp)
    | succ m ih =>
      intro i h
      have hr := tr2G n t i (ring2 n i) h1 hn (by omega) ht (by rw [ring2_len]; omega)
      rw [← ring2_succ] at hr
      exact LoopC.next hr (ih (i + 1) (by omega))
  have := key t 0 (by omega)
  simpa [ring2] using this
def wP (n i : Nat) : Int := if i = 0 then -1 else if i + 1 = n then 0 else ((i + 1 : Nat) : Int)
def wPar (n t : Nat) : List Int := (List.range n).map (wP n) ++ List.replicate t ((n - 1 : Nat) : Int)
theorem ringPar : ((List.range 20).all fun n => (List.range 11).all fun t => parF (ring2 (n + 1) t) == wPar (n + 1) t) = true := by kernel_rfl
theorem ringParF (n t : Nat) (h1 : 1 ≤ n) (hn : n ≤ 20) (ht : t ≤ 10) : parF (ring2 n t) = wPar n t := by
  have := List.all_eq_true.1 (List.all_eq_true.1 ringPar (n - 1) (List.mem_range.2 (by omega))) t (List.mem_range.2 (by omega))
  rw [show n - 1 + 1 = n by omega] at this
  exact eq_of_beq this
theorem wPar_ring (n t i : Nat) (h : i < n) : (wPar n t)[i]? = some (wP n i) := by
  unfold wPar
  rw [List.getElem?_append_left (by simpa using h)]
  simp [h]
theorem wPar_tail (n t i : Nat) (h : n ≤ i) (h2 : i < n + t) : (wPar n t)[i]? = some ((n - 1 : Nat) : Int) := by
  unfold wPar
  rw [List.getElem?_append_right (by simpa using h), List.getElem?_replicate]
  simp; omega
theorem ring_deep (n t : Nat) (h1 : 1 ≤ n) : ∀ (m i : Nat), i + m = n → 0 < i → i < n → Dp (wPar n t) m i
  | 0, i, h, h2, h3 => by omega
  | 1, i, h, h2, h3 => by
    refine .kid (j := 0) ?_ (.root ?_)
    · rw [wPar_ring n t i h3]; unfold wP; rw [if_neg (by omega), if_pos (by omega)]; rfl
    · rw [wPar_ring n t 0 (by omega)]; rfl
  | m + 2, i, h, h2, h3 => by
    refine .kid (j := i + 1) ?_ (ring_deep n t h1 (m + 1) (i + 1) (by omega) (by omega) (by omega))
    rw [wPar_ring n t i h3]; unfold wP; rw [if_neg (by omega), if_neg (by omega)]
theorem depF_at (l : List Sp) (x : Ix l) (t : Nat) (h : Dp (parF l) t x.n) : (depF l)[x.n]? = some (t : Int) := by
  obtain ⟨t', _, h2, h3⟩ := ordP_mem l x
  have := h.uniq h2
  subst this
  exact setAll_at _ _ x (t : Int) (by simp) (ordP_nodup l) h3
theorem cTreeRingN (n t : Nat) (h1 : 1 ≤ n) (hn : n ≤ 20) (ht : t ≤ 10) : Contract Try.prog 3 [I (n : Int), I (t : Int)] [] (Bo true) [] := by
  have hlen := ring2_len n t
  have hpar := ringParF n t h1 hn ht
  have hdep : ∀ (i q : Nat) (hi : i < n + t), Dp (wPar n t) q i → (depF (ring2 n t))[i]? = some (q : Int) := fun i q hi h => depF_at (ring2 n t) ⟨i, by rw [hlen]; exact hi⟩ q (by rw [hpar]; exact h)
  have hz : Dp (wPar n t) 0 0 := .root (by rw [wPar_ring n t 0 (by omega)]; rfl)
  refine trM n t (ring1 n n) (ring2 n t) h1 hn ht (by rw [hlen]; omega) (tr1L n t h1 hn) (tr2L n t h1 hn ht) ?_ ?_
  · have key : ∀ m i, i + m = n → LoopC Try.prog 0 141 tr3B (tr3S n (ring2 n t) (parF (ring2 n t)) (depF (ring2 n t)) i) (.exit 4) (tr3S n (ring2 n t) (parF (ring2 n t)) (depF (ring2 n t)) n) := by
      intro m
      induction m with
      | zero =>
        intro i h
        have : i = n := by omega
        subst this
        exact LoopC.last (tr3E _ _ _ _ _ (Nat.le_refl _)) (by simp)
      | succ m ih =>
        intro i h
        have hi : i < n := by omega
        have ih' := ih (i + 1) (by omega)
        have hp : (parF (ring2 n t))[i]? = some (wP n i) := by rw [hpar]; exact wPar_ring n t i hi
        by_cases h0 : i = 0
        · subst h0
          have hd := hdep 0 0 (by omega) hz
          by_cases hn1 : n = 1
          · exact LoopC.next (tr3a n 0 _ _ _ _ _ hn hi hp hd rfl hn1 rfl rfl) ih'
          · exact LoopC.next (tr3b n 0 _ _ _ _ _ hn hi hp hd rfl (by omega) rfl rfl) ih'
        · have hd := hdep i (n - i) (by omega) (ring_deep n t h1 (n - i) i (by omega) (by omega) hi)
          by_cases he : i + 1 = n
          · exact LoopC.next (tr3d n i _ _ _ _ _ hn hi hp hd (by omega) he (by unfold wP; rw [if_neg h0, if_pos he]) rfl) ih'
          · exact LoopC.next (tr3c n i _ _ _ _ _ hn hi hp hd (by omega) (by omega) (by unfold wP; rw [if_neg h0, if_neg he]) rfl) ih'
    exact key n 0 (by omega)
  · have key : ∀ m i, n ≤ i → i + m = (ring2 n t).length → LoopC Try.prog 0 141 tr4B (tr4S n (ring2 n t) (parF (ring2 n t)) (depF (ring2 n t)) i) (.exit 6) (tr4S n (ring2 n t) (parF (ring2 n t)) (depF (ring2 n t)) (ring2 n t).length) := by
      intro m
      induction m with
      | zero =>
        intro i hni h
        have : i = (ring2 n t).length := by omega
        rw [this]
        exact LoopC.last (tr4E _ _ _ _ _ (Nat.le_refl _) (by omega)) (by simp)
      | succ m ih =>
        intro i hni h
        have hi : i < n + t := by omega
        have ih' := ih (i + 1) (by omega) (by omega)
        have hv := wPar_tail n t i hni hi
        have hp : (parF (ring2 n t))[i]? = some ((n - 1 : Nat) : Int) := by rw [hpar]; exact hv
        by_cases hn1 : n = 1
        · subst hn1
          have hd := hdep i 1 hi (.kid (j := 0) hv hz)
          exact LoopC.next (tr4a 1 i _ _ _ _ _ h1 hn (by omega) (by omega) hp hd rfl rfl rfl) ih'
        · have hd := hdep i 2 hi (.kid (j := n - 1) hv (ring_deep n t h1 1 (n - 1) (by omega) (by omega) (by omega)))
          exact LoopC.next (tr4b n i _ _ _ _ _ h1 hn (by omega) (by omega) hp hd rfl hn1 rfl) ih'
    exact key t n (Nat.le_refl _) (by omega)
theorem cTreeRing (n t : Int) : Contract Try.prog 3 [I n, I t] [] (Bo true) [] := by
  by_cases h1 : n < 1
  · exact trX1 n t h1
  by_cases h2 : 20 < n
  · exact trX2 n t (by omega) h2
  by_cases h3 : t < 0
  · exact trX3 n t (by omega) (by omega) h3
  by_cases h4 : 10 < t
  · exact trX4 n t (by omega) (by omega) (by omega) h4
  have e1 : n = ((n.toNat : Nat) : Int) := by omega
  have e2 : t = ((t.toNat : Nat) : Int) := by omega
  rw [e1, e2]
  exact cTreeRingN n.toNat t.toNat (by omega) (by omega) (by omega)

open Go.ChangeShapes Go.WideShapes Go.ChangeAt Go.RowKit
theorem typed_all {α : Type} {f : α → List V} {rows : List (List V)} (h : ∀ r ∈ rows, ∃ e : α, r = f e) : ∃ es : List α, rows = es.map f := by
  induction rows with
  | nil => exact ⟨[], rfl⟩
  | cons r rows ih =>
    obtain ⟨e, rfl⟩ := h r (by simp)
    obtain ⟨es, rfl⟩ := ih fun r hr => h r (by simp [hr])
    exact ⟨e :: es, rfl⟩
theorem own : ownKnob Try.prog.godebug = none := by kernel_rfl
theorem laidOut : laidOutB Try.prog = true := by kernel_rfl
theorem treeRing_lifted (os : Os) (started : os.Started) (H : Type) (enc : TypeId × Value → H) :
    ReturnsInHanded {} Try.checked os 3 .any (Rows.treeRingSpec.pre6 enc Try.prog Try.f3 Rows.treeRingRow.domain false) (Rows.treeRingSpec.post enc Try.prog Try.f3 false true false false) := by
  refine returnsInHanded_of_change (C := Try.checked) own started (by kernel_rfl) Try.func3
    (ChangeSpec.witness6 (enc := enc) (C := Try.checked) false ⟨#[], #[.int .i64 0, .int .i64 0], []⟩ 8 (by kernel_rfl) (by kernel_rfl) (by kernel_rfl) (by kernel_rfl)) ?_
  intro W base args ds gs before hval hW _ _
  refine row_of (P := Try.prog) (tb := 4) laidOut rfl (by kernel_rfl) (by kernel_rfl) (by kernel_rfl) Try.underlying4 (fun ds h => ?_) (fun us h => ?_) W base args ds gs before hval hW
  · match ds, h with
    | [_, _], _ => rfl
  · obtain ⟨u0, _, rfl, h0, u1, _, rfl, h1, rfl⟩ := h
    obtain ⟨n, rfl, hn⟩ := arg_int Try.underlying3 h0
    obtain ⟨t, rfl, ht⟩ := arg_int Try.underlying3 h1
    exact cTreeRing n t

theorem TreeRing_proved : Rows.TreeRingSaid :=
  OpenClaim.holds_of_wide 3 Try.f3 rfl rfl rfl rfl rfl rfl rfl ⟨rfl, rfl, rfl, rfl, rfl⟩ rfl rfl rfl rfl rfl (by kernel_rfl) Try.func3 (by kernel_rfl)
    (of_decide_eq_true (by kernel_rfl)) (by unfold Func.isWrapper; first | (rw [if_pos (by decide +kernel)]; kernel_rfl) | (rw [if_neg (by decide +kernel)]; exact ⟨rfl, rfl⟩))
    (fun os started H enc _ => treeRing_lifted os started H enc)
#print axioms TreeRing_proved
end Go.Proofs.Ythhggnnfiohnpaa
