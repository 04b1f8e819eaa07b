/- sorting gleaning/api.Episode: the whole. -/
import Derived.Test.YtfpdlamjlbpmkaaSoD
namespace Go.Proofs.Ytfpdlamjlbpmkaa
open E
set_option maxRecDepth 100000
set_option linter.unusedVariables false
set_option linter.unusedSimpArgs false

theorem soAin  (ho : Swo (soLt )) (n : Nat) (hn : n ≤ 500000) : ∀ (d : Nat) (P T : List Ep), T.length ≤ d → n = P.length + T.length →
    ∃ R1 T1, T1.length < 20 ∧ R1.length + T1.length = T.length ∧ Chk (soLt ) 20 T (R1 ++ srt (soLt ) T1) ∧ LoopC Try.prog 1 63 soAB (soA (P ++ T)  n 20 P.length (P.length + 20)) (.exit 0) (soA (P ++ R1 ++ T1)  n 20 (P.length + R1.length) (P.length + R1.length + 20)) := by
  intro d
  induction d with
  | zero =>
    intro P T hd hT
    have : T = [] := List.eq_nil_of_length_eq_zero (by omega)
    subst this
    refine ⟨[], [], by simp, rfl, Chk.last [] (by simp), ?_⟩
    simp only [List.append_nil, List.length_nil, Nat.add_zero] at hT ⊢
    exact LoopC.last (soAz _  n 20 _ _ (by omega)) (by simp)
  | succ d ih =>
    intro P T hd hT
    by_cases h : T.length < 20
    · refine ⟨[], T, h, by simp, Chk.last T h, ?_⟩
      simp only [List.append_nil, List.length_nil, Nat.add_zero]
      exact LoopC.last (soAz _  n 20 _ _ (by omega)) (by simp)
    · obtain ⟨c, T', rfl, lc⟩ : ∃ c T', T = c ++ T' ∧ c.length = 20 := ⟨T.take 20, T.drop 20, (List.take_append_drop _ _).symm, by rw [List.length_take]; omega⟩
      simp only [List.length_append] at hd hT h
      obtain ⟨R1, T1, q1, q0, q2, q3⟩ := ih (P ++ srt (soLt ) c) T' (by omega) (by simp [srt_len]; omega)
      have hi := soIns  ho P c T' P.length (P.length + 20) rfl (by omega) (by omega)
      have hr := soAgo (P ++ c ++ T') (P ++ srt (soLt ) c ++ T')  n 20 P.length (P.length + 20) hn (by omega) (by omega) hi
      refine ⟨srt (soLt ) c ++ R1, T1, q1, by simp [srt_len]; omega, ?_, ?_⟩
      · have := Chk.cons c T' _ lc q2
        simp only [List.append_assoc, List.cons_append, List.nil_append] at this ⊢
        exact this
      · simp only [List.length_append, srt_len, lc] at q3 ⊢
        simp only [List.append_assoc, List.cons_append, List.nil_append, Nat.add_assoc] at hr q3 ⊢
        exact LoopC.next hr q3
theorem soCin  (ho : Swo (soLt )) (n bs : Nat) (hn : n ≤ 500000) (h0 : 0 < bs) (hbs : bs < n) : ∀ (d : Nat) (P T0 T : List Ep), T0.length ≤ d → Chk (soLt ) bs T0 T → n = P.length + T0.length →
    ∃ R1 U0 U, U0.length < 2 * bs ∧ R1.length + U0.length = T0.length ∧ Chk (soLt ) bs U0 U ∧ Chk (soLt ) (2 * bs) T0 (R1 ++ srt (soLt ) U0) ∧ LoopC Try.prog 1 63 soCB (soC (P ++ T)  n bs P.length (P.length + 2 * bs)) (.exit 4) (soC (P ++ R1 ++ U)  n bs (P.length + R1.length) (P.length + R1.length + 2 * bs)) := by
  intro d
  induction d with
  | zero =>
    intro P T0 T hd hc hT
    refine ⟨[], T0, T, by omega, by simp, hc, Chk.last T0 (by omega), ?_⟩
    simp only [List.append_nil, List.length_nil, Nat.add_zero] at hT ⊢
    exact LoopC.last (soCz _  n bs _ _ (by omega)) (by simp)
  | succ d ih =>
    intro P T0 T hd hc hT
    by_cases h : T0.length < 2 * bs
    · refine ⟨[], T0, T, h, by simp, hc, Chk.last T0 h, ?_⟩
      simp only [List.append_nil, List.length_nil, Nat.add_zero]
      exact LoopC.last (soCz _  n bs _ _ (by omega)) (by simp)
    · obtain ⟨c1, l1, r1, rfl, rfl, lc1, hc1⟩ := hc.two (by omega)
      simp only [List.length_append] at hd hT h
      obtain ⟨c2, l2, r2, hc2⟩ : ∃ c2 l2 r2, l1 = c2 ++ l2 ∧ r1 = srt (soLt ) c2 ++ r2 ∧ c2.length = bs ∧ Chk (soLt ) bs l2 r2 := by
        by_cases h' : l1.length = bs
        · have := hc1.done (by omega)
          exact ⟨l1, [], [], by simp, by simp [this], h', Chk.last [] h0⟩
        · exact hc1.two (by omega)
      obtain ⟨rfl, rfl, lc2, hc3⟩ := hc2
      simp only [List.length_append] at hd hT h
      have hr2 := hc3.len
      obtain ⟨R1, U0, U, q1, q0, q2, q3, q4⟩ := ih (P ++ srt (soLt ) (c1 ++ c2)) l2 r2 (by omega) hc3 (by simp [srt_len]; omega)
      have hi := soSym  ho _ P (srt (soLt ) c1) (srt (soLt ) c2) r2 P.length (P.length + bs) (P.length + 2 * bs) (Nat.le_refl _) (by rw [srt_len]; omega) (by rw [srt_len]; omega) (srt_srt ho _) (srt_srt ho _) rfl (by rw [srt_len]; omega) (by rw [srt_len, srt_len]; omega) (by rw [srt_len, srt_len]; omega)
      rw [← srt_append ho] at hi
      have hr := soCgo _ _  n bs P.length (P.length + 2 * bs) hn (by omega) (by omega) (by omega) hi
      refine ⟨srt (soLt ) (c1 ++ c2) ++ R1, U0, U, q1, by simp [srt_len]; omega, q2, ?_, ?_⟩
      · have := Chk.cons (c1 ++ c2) l2 _ (by simp; omega) q3
        simp only [List.append_assoc, List.cons_append, List.nil_append] at this ⊢
        exact this
      · have e : (P ++ srt (soLt ) (c1 ++ c2)).length = P.length + 2 * bs := by simp [srt_len]; omega
        have e2 : (srt (soLt ) (c1 ++ c2) ++ R1).length = 2 * bs + R1.length := by simp [srt_len]; omega
        rw [e] at q4
        rw [e2]
        simp only [List.append_assoc, List.cons_append, List.nil_append, Nat.add_assoc] at hr q4 ⊢
        exact LoopC.next hr q4
theorem soBin  (ho : Swo (soLt )) (l0 : List Ep) (n : Nat) (hn : n ≤ 500000) (h : n = l0.length) : ∀ (d bs : Nat) (l : List Ep), n - bs ≤ d → 0 < bs → Chk (soLt ) bs l0 l →
    ∃ bs', LoopC Try.prog 1 63 soBB (soB l  n bs) (.exit 2) (soB (srt (soLt ) l0)  n bs') := by
  intro d
  induction d with
  | zero =>
    intro bs l hd h0 hc
    rw [hc.done (by omega)]
    exact ⟨bs, LoopC.last (soBz _  n bs (by omega)) (by simp)⟩
  | succ d ih =>
    intro bs l hd h0 hc
    by_cases hb : n ≤ bs
    · rw [hc.done (by omega)]
      exact ⟨bs, LoopC.last (soBz _  n bs hb) (by simp)⟩
    · obtain ⟨R1, U0, U, q1, q0, q2, q3, q4⟩ := soCin  ho n bs hn h0 (by omega) l0.length [] l0 l (Nat.le_refl _) hc (by simpa using h)
      simp only [List.nil_append, List.length_nil, Nat.zero_add] at q4
      obtain ⟨bs', hk⟩ := ih (2 * bs) _ (by omega) (by omega) q3
      refine ⟨bs', ?_⟩
      by_cases hm : R1.length + bs < n
      · obtain ⟨c, l', r', rfl, rfl, lc, hc'⟩ := q2.two (by omega)
        simp only [List.length_append] at q1 q0
        have hr' := hc'.done (by omega)
        subst hr'
        have hi := soSym  ho _ R1 (srt (soLt ) c) (srt (soLt ) l') [] R1.length (R1.length + bs) n (Nat.le_refl _) (by rw [srt_len]; omega) (by rw [srt_len]; omega) (srt_srt ho _) (srt_srt ho _) rfl (by rw [srt_len]; omega) (by rw [srt_len, srt_len]; omega) (by rw [srt_len, srt_len, List.length_nil]; omega)
        rw [← srt_append ho] at hi
        simp only [List.append_nil, List.append_assoc] at hi
        exact LoopC.next (soBgo l _ _  n bs R1.length (R1.length + 2 * bs) hn (by omega) (by omega) hm q4 hi) hk
      · have hU := q2.done (by omega)
        subst hU
        exact LoopC.next (soBno l _  n bs R1.length (R1.length + 2 * bs) hn (by omega) (by omega) (by omega) q4) hk
/-- Sorting puts in order what is handed in. -/
theorem soSort  (ho : Swo (soLt )) (l : List Ep) (hs : l.length ≤ 500000) :
    Contract Try.prog 29 [.own 0, .clo (.func 30) [] []] [.arr 6 ((l).map Ep.row)] (.tup []) [some (.arr 6 ((srt (soLt ) l).map Ep.row))] := by
  obtain ⟨R1, T1, q1, q0, q2, q3⟩ := soAin  ho l.length hs l.length [] l (Nat.le_refl _) (by simp)
  simp only [List.nil_append, List.length_nil, Nat.zero_add] at q3
  obtain ⟨bs, hk⟩ := soBin  ho l l.length hs rfl l.length 20 _ (by omega) (by omega) q2
  have hi := soIns  ho R1 T1 [] R1.length l.length rfl (by omega) (by rw [List.length_nil]; omega)
  simp only [List.append_nil] at hi
  exact soSor l _  (soStb l _ _ _  l.length R1.length (R1.length + 20) bs q3 hi hk)
end Go.Proofs.Ytfpdlamjlbpmkaa
