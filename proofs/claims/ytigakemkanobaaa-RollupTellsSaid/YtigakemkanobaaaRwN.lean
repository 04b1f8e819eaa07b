/- rollup: the reference's rows are the program's. -/
import Derived.Test.YtigakemkanobaaaRwM
namespace Go.Proofs.Ytigakemkanobaaa
open E
set_option linter.unusedVariables false
set_option linter.unusedSimpArgs false

theorem cnt2_eq {m : Int} (hm : inI m) (f : Nat → Int) (s : Sp) : cnt2 f s m = cntF f s m := by
  funext k
  show sumR (f k) (oneF (ofR s.dur) s.err k) m = _
  rw [sumR_eq hm, cntF_eq hm]

theorem insK_split {α : Type} {c : α → α → Int} (ho : Ord3 c) (key : α) (b : α → α) : ∀ (p : List α) (y : α) (q : List α), (∀ z ∈ p, c z key < 0) → 0 ≤ c y key →
    insK c key b (p ++ y :: q) = if c y key = 0 then p ++ b y :: q else p ++ b key :: y :: q
  | [], y, q, _, hy => by
    show insK c key b (y :: q) = _
    unfold insK
    by_cases h : c y key = 0
    · rw [if_pos h, if_pos h]; rfl
    · rw [if_neg h, if_neg h, if_pos (by omega)]; rfl
  | z :: p, y, q, hp, hy => by
    have hz := hp z (by simp)
    show insK c key b (z :: (p ++ y :: q)) = _
    unfold insK
    rw [if_neg (by omega), if_neg (by omega), insK_split ho key b p y q (fun w hw => hp w (by simp [hw])) hy]
    by_cases h : c y key = 0
    · rw [if_pos h, if_pos h]; rfl
    · rw [if_neg h, if_neg h]; rfl
theorem insK_end {α : Type} {c : α → α → Int} (key : α) (b : α → α) : ∀ (p : List α), (∀ z ∈ p, c z key < 0) → insK c key b p = p ++ [b key]
  | [], _ => rfl
  | z :: p, hp => by
    have hz := hp z (by simp)
    unfold insK
    rw [if_neg (by omega), if_neg (by omega), insK_end key b p (fun w hw => hp w (by simp [hw]))]; rfl

theorem refRound {l : List Rw} {s : Sp} {m : Int} (hm : inI m) (hso : SortedK cmpR l) (hs : l.length ≤ 1000000) {v : Nat} (hv : v < 3) :
    CodeC Try.prog 0 89 aroB (arO l s m v) .normal (arO (countR l (keyR s (v : Int)) s m) s m (v + 1)) := by
  rw [countR_eq hso]
  have hbk : bumpR s m (keyR s (v : Int)) = cntRw (keyR s (v : Int)) (fun _ => 0) s m := by
    unfold bumpR cntRw
    rw [cnt2_eq hm]; rfl
  rcases LoopC.search (P := Try.prog) (k := 0) (n := 89) (c := ariB) l (fun _ y => !lessR y (keyR s (v : Int))) (fun i => arI l s m v (keyR s (v : Int)) i) (fun i => arI l s m v (keyR s (v : Int)) i) (e1 := .exit 2) (e2 := .exit 2) (by simp) (by simp)
    (fun i y hy hi hb => ari l s m v _ i y hi hy hs (by simpa using hb)) (fun i y hy hi hb => ariS l s m v _ i y hi hy (by simpa using hb)) (ariE l s m v _ _ (Nat.le_refl _)) with ⟨i, y, k1, k2, k3, k4⟩ | ⟨k1, k2⟩
  · have hi := (List.getElem?_eq_some_iff.1 k1).1
    have hbef : ∀ z ∈ l.take i, cmpR z (keyR s (v : Int)) < 0 := by
      intro z hz
      obtain ⟨j, hj, rfl⟩ := List.mem_take_iff_getElem.1 hz
      have := k3 j l[j] (by omega) (List.getElem?_eq_getElem (by omega))
      exact cmpR_less.1 (by simpa using this)
    have hge : 0 ≤ cmpR y (keyR s (v : Int)) := by
      have h : lessR y (keyR s (v : Int)) = false := by simpa using k2
      by_cases hc : cmpR y (keyR s (v : Int)) < 0
      · rw [cmpR_less.2 hc] at h; cases h
      · omega
    have hsp : l = l.take i ++ y :: l.drop (i + 1) := by
      have e : l[i] = y := by
        have := k1
        rw [List.getElem?_eq_getElem hi] at this
        exact Option.some.inj this
      rw [← e, ← List.drop_eq_getElem_cons hi, List.take_append_drop]
    have hins := insK_split ordR (keyR s (v : Int)) (bumpR s m) (l.take i) y (l.drop (i + 1)) hbef hge
    rw [← hsp] at hins
    rw [hins]
    have hlt : (l.take i).length = i := by simp; omega
    rcases tf (lessR (keyR s (v : Int)) y) with h | h
    · have hne : cmpR y (keyR s (v : Int)) ≠ 0 := by
        have h1 := cmpR_less.1 h
        have h2 := ordR.flip (keyR s (v : Int)) y
        omega
      rw [if_neg hne, hbk]
      have := aroN l s m v i y hv hs k4 hi k1 h
      have e : putR l i (cntRw (keyR s (v : Int)) (fun _ => 0) s m) = l.take i ++ cntRw (keyR s (v : Int)) (fun _ => 0) s m :: y :: l.drop (i + 1) := by
        unfold putR
        have hd : l.drop i = y :: l.drop (i + 1) := by
          conv => lhs; rw [hsp]
          rw [List.drop_append_of_le_length (by omega), List.drop_of_length_le (by omega)]; rfl
        rw [hd]; simp
      rw [e] at this
      exact this
    · have heq : cmpR y (keyR s (v : Int)) = 0 := by
        have h2 := ordR.flip (keyR s (v : Int)) y
        have h1 : ¬ cmpR (keyR s (v : Int)) y < 0 := fun hc => by rw [cmpR_less.2 hc] at h; cases h
        omega
      rw [if_pos heq]
      have := aroF l s m v i y hv hs k4 hi k1 h
      obtain ⟨q1, q2, q3, q4⟩ := cmpR_zero.1 heq
      have hb : bumpR s m y = cntRw (keyR s (v : Int)) y.c s m := by
        unfold bumpR cntRw
        rw [cnt2_eq hm, q1, q2, q3, q4]
      have e : putR (l.take i ++ l.drop (i + 1)) i (cntRw (keyR s (v : Int)) y.c s m) = l.take i ++ bumpR s m y :: l.drop (i + 1) := by
        unfold putR
        rw [List.take_append_of_le_length (by omega), List.take_of_length_le (by omega), List.drop_append_of_le_length (by omega), List.drop_of_length_le (by omega), hb]
        simp
      rw [e] at this
      exact this
  · have hall : ∀ z ∈ l, cmpR z (keyR s (v : Int)) < 0 := by
      intro z hz
      obtain ⟨j, hj⟩ := List.mem_iff_getElem?.1 hz
      exact cmpR_less.1 (by simpa using k1 j z hj)
    rw [insK_end _ _ l hall, hbk]
    have := aroE l s m v l.length hv hs k2 rfl
    have e : putR l l.length (cntRw (keyR s (v : Int)) (fun _ => 0) s m) = l ++ [cntRw (keyR s (v : Int)) (fun _ => 0) s m] := by
      unfold putR; simp
    rw [e] at this
    exact this

theorem cAddRows (l : List Rw) (s : Sp) (m : Int) (hm : inI m) (hso : SortedK cmpR l) (hs : l.length ≤ 100000) : Contract Try.prog 20 [.sl 14 (l.map Rw.row), s.v, I m] [] (.sl 14 ((addR l s m).map Rw.row)) [] := by
  unfold addR
  cases hr : rightS s with
  | false => exact Contract.froze (addRN l s m (by omega) hr)
  | true =>
    simp only [cond_true]
    have h1 := countR_len l (keyR s 0) s m
    have h2 := countR_len (countR l (keyR s 0) s m) (keyR s 1) s m
    have s1 : SortedK cmpR (countR l (keyR s 0) s m) := by rw [countR_eq hso]; exact sorted_insK ordR (keeps_bump _ _) hso
    have s2 : SortedK cmpR (countR (countR l (keyR s 0) s m) (keyR s 1) s m) := by rw [countR_eq s1]; exact sorted_insK ordR (keeps_bump _ _) s1
    exact addRY l _ s m hr (LoopC.next (refRound (v := 0) hm hso (by omega) (by omega)) (LoopC.next (refRound (l := countR l (keyR s 0) s m) (v := 1) hm s1 (by omega) (by omega)) (LoopC.next (refRound (l := countR (countR l (keyR s 0) s m) (keyR s 1) s m) (v := 2) hm s2 (by omega) (by omega)) (LoopC.last (aroZ _ s m) (by simp)))))

end Go.Proofs.Ytigakemkanobaaa
