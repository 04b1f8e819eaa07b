/- A function that gives an owned slice on, called with nil. -/
import Derived.Test.YthmhkgddohgoeaaDvFuseP2
namespace Go.Proofs.Ythmhkgddohgoeaa.E
open Go

/-- Nil is an owned slice without rows. -/
theorem Contract.nil0 {P : Program} {f : FuncId} {args : List V} {n m : Nat} {rows : List (List V)}
    (h : Contract P f (.own 0 :: args) [.arr n []] (.own 1) [none, some (.arr m rows)]) (hi : idsL args = []) : Contract P f (.nil :: args) [] (.own 0) [some (.arr m rows)] := by
  refine ⟨h.goes, fun w G X τ vals hm hX ha => ?_⟩
  have only : ∀ i p, objsAt [E.Obj.arr n []] i = some p → i = 0 ∧ p = .arr n [] := by
    intro i p hp
    cases i with
    | zero => simp [objsAt] at hp; exact ⟨rfl, hp.symm⟩
    | succ i => simp [objsAt] at hp
  let τ1 : Nat → Gh := fun _ => ⟨none, none, 0, 0⟩
  refine Calls.mono (h.calls w G X τ1 vals ⟨hm.gold, ?_, ?_, ?_, Sub.plain (fun i p hp => by rw [(only i p hp).2]; rfl)⟩ hX ?_) ?_
  · intro i p hp
    obtain ⟨rfl, rfl⟩ := only i p hp
    exact ⟨rfl, Nat.le_refl _, .inl ⟨rfl, rfl, rfl⟩⟩
  · intro i p b hp hb
    cases hb
  · intro i j p q b _ _ hb
    cases hb
  · cases hv : vals.toList with
    | nil => rw [hv] at ha; simp only [repL] at ha
    | cons x xs =>
      rw [hv] at ha
      simp only [repL] at ha ⊢
      refine ⟨?_, repL_mono (fun b hb => ⟨hb, rfl⟩) args xs (fun i hi' => by rw [hi] at hi'; cases hi') ha.2⟩
      have h1 := ha.1
      simp only [V.rep, V.repI] at h1
      simp only [V.rep, h1]
      rfl
  · rintro e w' ⟨v, G', τ', rfl, h1, h2, h3, h4⟩
    refine ⟨v, G', fun i => τ' (i + 1), rfl, h1, fun i hi => by simp at hi, ?_, h4.gold, ?_, ?_, ?_, Sub.plain (fun i p hp => by
      cases i with
      | zero => simp [objsAt'] at hp; subst hp; rfl
      | succ i => simp [objsAt'] at hp)⟩
    · simpa only [V.rep] using h3
    · intro i p hp
      cases i with
      | zero =>
        simp [objsAt'] at hp
        subst hp
        have := h4.ok 1 _ rfl
        simpa only [Obj.ok] using this
      | succ i => simp [objsAt'] at hp
    · intro i p b hp hb
      cases i with
      | zero => exact h4.own 1 _ b rfl hb
      | succ i => simp [objsAt'] at hp
    · intro i j p q b hp hq _ _
      cases i with
      | zero =>
        cases j with
        | zero => rfl
        | succ j => simp [objsAt'] at hq
      | succ i => simp [objsAt'] at hp

end Go.Proofs.Ythmhkgddohgoeaa.E

