/- The engine, part U: loops by their rounds. -/
import Derived.Test.YtfpdlamjlbpmkaaEngT
namespace Go.Proofs.Ytfpdlamjlbpmkaa.E
open Go
set_option linter.unusedSimpArgs false

theorem runTo_says {P : Program} (hmix : P.follows .mixedOrders = true) {k n : Nat} {c : Code} {sc : List It} {s s' : SL} {nm : Norm} {e : Ex} {ps : List Prop} (h : runTo P k n c sc s nm = some (e, s', ps)) (hp : ∀ p ∈ ps, p) : CodeC P k n c s e s' := by
  unfold runTo at h
  cases hb : subset (List.range k) s.ids with
  | false => simp only [hb, cond_false, reduceCtorEq] at h
  | true =>
    simp only [hb, cond_true] at h
    split at h
    · rename_i e2 σ rest ps2 hrun
      cases hd : doneSc rest with
      | false => simp only [hd, cond_false, reduceCtorEq] at h
      | true =>
      simp only [hd, cond_true] at h
      split at h
      · rename_i s2 hn
        simp only [Option.some.injEq, Prod.mk.injEq] at h
        obtain ⟨rfl, rfl, rfl⟩ := h
        obtain ⟨g1, g2, g3⟩ := runC_says hmix c _ _ _ _ _ _ hrun hp (toS_range hb)
        intro base X G τ a w hs
        refine wp_mono (g3 base X G τ a w hs) ?_
        rintro e' a' w' ⟨rfl, G', τ', q1, q2, q3⟩
        obtain ⟨⟨τ1, r1, r2⟩, _⟩ := norm_St q1 hn
        refine ⟨rfl, G', τ1, ?_, q2, fun i hi => (r2 i hi).trans (q3 i hi)⟩
        have : σ.n = n := g1
        rw [this] at r1
        exact r1
      · simp at h
    · simp at h

/-- A round that leaves the loop. -/
theorem LoopC.last {P : Program} {k n : Nat} {c : Code} {s s' : SL} {e : Ex} (h : CodeC P k n c s e s') (he : e ≠ .normal) : LoopC P k n c s e s' := by
  intro base X G τ a w hs
  refine loopWp_step (wp_mono (h base X G τ a w hs) ?_)
  rintro e' a' w' ⟨rfl, hrest⟩
  cases e with
  | normal => exact (he rfl).elim
  | exit id => exact ⟨rfl, hrest⟩
  | ret => exact ⟨rfl, hrest⟩

/-- A round behind which the loop goes on. -/
theorem LoopC.next {P : Program} {k n : Nat} {c : Code} {s s1 s' : SL} {e : Ex} (h : CodeC P k n c s .normal s1) (hr : LoopC P k n c s1 e s') : LoopC P k n c s e s' := by
  intro base X G τ a w hs
  refine loopWp_step (wp_mono (h base X G τ a w hs) ?_)
  rintro e' a' w' ⟨rfl, G', τ', q1, q2, q3⟩
  refine loopWp_mono (hr base X G' τ' a' w' q1) ?_
  rintro e' a' w' ⟨rfl, G2, τ2, r1, r2, r3⟩
  exact ⟨rfl, G2, τ2, r1, q2.trans r2, fun i hi => (r3 i hi).trans (q3 i hi)⟩

end Go.Proofs.Ytfpdlamjlbpmkaa.E
