/- MergeEnds: blocks are merged till no two have one tier, behind at most as many merges less one as there were blocks. -/
import Derived.Test.YtfpdlamjlbpmkaaMgO
import Derived.Test.YtfpdlamjlbpmkaaRows
namespace Go.Proofs.Ytfpdlamjlbpmkaa
open E
set_option maxRecDepth 100000
set_option linter.unusedVariables false
set_option linter.unusedSimpArgs false

open Go.ChangeShapes Go.WideShapes Go.ChangeAt Go.RowKit

theorem mbAll (n : Nat) (hn : n ≤ 20) : ∀ k i : Nat, i + k = n → LoopC Try.prog 0 123 mbB (mbS n (bks i) i) (.exit 0) (mbS n (bks n) n)
  | 0, i, h => by
    have : i = n := by omega
    subst this
    exact LoopC.last (mbE i _ i (Nat.le_refl _)) (by simp)
  | k + 1, i, h => by
    have hr := mb n (bks i) i hn (by omega) (by unfold bks; simp; omega)
    have e : bks i ++ [bk0 i] = bks (i + 1) := by unfold bks; rw [List.range_succ, List.map_append]; rfl
    rw [e] at hr
    exact LoopC.next hr (mbAll n hn k (i + 1) (by omega))
def mmGo : Nat → List Bk → Nat → Nat → List Bk × Nat × Nat
  | 0, l, s, i => (l, s, i)
  | f + 1, l, s, i => match pickM l with
    | (true, a, b) => match l[a]?, l[b]? with
      | some x, some y => mmGo f ((l.take b ++ l.drop (b + 1)).set a (joinM x y ((101 + s : Nat) : Int))) (s + 1) (i + 1)
      | _, _ => (l, s, i)
    | _ => (l, s, i)
theorem join_eps {x y : Bk} {k : Int} (hx : x.eps = []) (hy : y.eps = []) : (joinM x y k).eps = [] := by
  unfold joinM
  rw [hx, hy]
  rfl
theorem mmAll (n : Nat) : ∀ (f : Nat) (l : List Bk) (s i : Nat), i + f = 30 → s ≤ i → l.length ≤ 20 → (∀ x ∈ l, x.eps = []) → (pickM (mmGo f l s i).1).1 = false → (mmGo f l s i).2.2 < 30 →
    LoopC Try.prog 0 123 mmB (mmS n l s i) (.exit 2) (mmS n (mmGo f l s i).1 (mmGo f l s i).2.1 (mmGo f l s i).2.2)
  | 0, l, s, i, h, _, _, _, _, h6 => by simp only [mmGo] at h6; omega
  | f + 1, l, s, i, h, h2, h3, h4, h5, h6 => by
    have inv := pick_inv l l.length
    dsimp only at inv
    cases hp : pickM l with
    | mk ok ab =>
      obtain ⟨a, b⟩ := ab
      cases ok with
      | false =>
        have e : mmGo (f + 1) l s i = (l, s, i) := by simp only [mmGo, hp]
        rw [e]
        exact LoopC.last (mmStop n l s i a b (by omega) (by omega) hp) (by simp)
      | true =>
        have hp' := hp
        unfold pickM at hp'
        rw [hp'] at inv
        obtain ⟨g1, g2, x, y, g3, g4, g5⟩ := inv rfl
        dsimp only at g1 g2 g3 g4 g5
        have e : mmGo (f + 1) l s i = mmGo f ((l.take b ++ l.drop (b + 1)).set a (joinM x y ((101 + s : Nat) : Int))) (s + 1) (i + 1) := by simp only [mmGo, hp, g3, g4]
        rw [e] at h5 h6 ⊢
        have ex : x.eps = [] := h4 x (List.mem_of_getElem? g3)
        have ey : y.eps = [] := h4 y (List.mem_of_getElem? g4)
        refine LoopC.next (mm n l x y s i a b (by omega) (by omega) (by omega) hp g3 g4 g5 g1 g2 ex ey) (mmAll n f _ _ _ (by omega) (by omega) (by simp; omega) (fun z hz => ?_) h5 h6)
        rcases List.mem_or_eq_of_mem_set hz with hz | rfl
        · rcases List.mem_append.1 hz with hz | hz
          · exact h4 z (List.mem_of_mem_take hz)
          · exact h4 z (List.mem_of_mem_drop hz)
        · exact join_eps ex ey
theorem bks_eps (n : Nat) : ∀ x ∈ bks n, x.eps = [] := by
  intro x hx
  unfold bks at hx
  obtain ⟨i, _, rfl⟩ := List.mem_map.1 hx
  rfl
def mmOk (n k : Nat) : Bool := !(pickM (mmGo 30 (bks n) 0 0).1).1 && decide ((mmGo 30 (bks n) 0 0).2.2 < 30) && (mmGo 30 (bks n) 0 0).1.length == k && (mmGo 30 (bks n) 0 0).2.1 == n - k
theorem mmOf {n k : Nat} (hn : n ≤ 20) (h : mmOk n k = true) : ∃ l i, l.length = k ∧ LoopC Try.prog 0 123 mmB (mmS n (bks n) 0 0) (.exit 2) (mmS n l (n - k) i) := by
  unfold mmOk at h
  simp only [Bool.and_eq_true, Bool.not_eq_true', decide_eq_true_eq, beq_iff_eq] at h
  obtain ⟨⟨⟨h1, h2⟩, h3⟩, h4⟩ := h
  refine ⟨(mmGo 30 (bks n) 0 0).1, (mmGo 30 (bks n) 0 0).2.2, h3, ?_⟩
  rw [← h4]
  exact mmAll n 30 (bks n) 0 0 rfl (Nat.le_refl _) (by unfold bks; simp; omega) (bks_eps n) h1 h2
theorem mbOf (n : Nat) (hn : n ≤ 20) : LoopC Try.prog 0 123 mbB (mbS n [] 0) (.exit 0) (mbS n (bks n) n) := mbAll n hn n 0 (by omega)
theorem mf0 : Contract Try.prog 5 [I 0] [] (Bo true) [] := by
  obtain ⟨l, i, h1, h2⟩ := mmOf (n := 0) (k := 0) (by decide) (by decide +kernel)
  exact me0 l i h1 (mbOf 0 (by decide)) h2
theorem mf1 : Contract Try.prog 5 [I 1] [] (Bo true) [] := by
  obtain ⟨l, i, h1, h2⟩ := mmOf (n := 1) (k := 1) (by decide) (by decide +kernel)
  exact me1 l i h1 (mbOf 1 (by decide)) h2
theorem mf2 : Contract Try.prog 5 [I 2] [] (Bo true) [] := by
  obtain ⟨l, i, h1, h2⟩ := mmOf (n := 2) (k := 1) (by decide) (by decide +kernel)
  exact me2 l i h1 (mbOf 2 (by decide)) h2
theorem mf3 : Contract Try.prog 5 [I 3] [] (Bo true) [] := by
  obtain ⟨l, i, h1, h2⟩ := mmOf (n := 3) (k := 2) (by decide) (by decide +kernel)
  exact me3 l i h1 (mbOf 3 (by decide)) h2
theorem mf4 : Contract Try.prog 5 [I 4] [] (Bo true) [] := by
  obtain ⟨l, i, h1, h2⟩ := mmOf (n := 4) (k := 1) (by decide) (by decide +kernel)
  exact me4 l i h1 (mbOf 4 (by decide)) h2
theorem mf5 : Contract Try.prog 5 [I 5] [] (Bo true) [] := by
  obtain ⟨l, i, h1, h2⟩ := mmOf (n := 5) (k := 2) (by decide) (by decide +kernel)
  exact me5 l i h1 (mbOf 5 (by decide)) h2
theorem mf6 : Contract Try.prog 5 [I 6] [] (Bo true) [] := by
  obtain ⟨l, i, h1, h2⟩ := mmOf (n := 6) (k := 2) (by decide) (by decide +kernel)
  exact me6 l i h1 (mbOf 6 (by decide)) h2
theorem mf7 : Contract Try.prog 5 [I 7] [] (Bo true) [] := by
  obtain ⟨l, i, h1, h2⟩ := mmOf (n := 7) (k := 3) (by decide) (by decide +kernel)
  exact me7 l i h1 (mbOf 7 (by decide)) h2
theorem mf8 : Contract Try.prog 5 [I 8] [] (Bo true) [] := by
  obtain ⟨l, i, h1, h2⟩ := mmOf (n := 8) (k := 1) (by decide) (by decide +kernel)
  exact me8 l i h1 (mbOf 8 (by decide)) h2
theorem mf9 : Contract Try.prog 5 [I 9] [] (Bo true) [] := by
  obtain ⟨l, i, h1, h2⟩ := mmOf (n := 9) (k := 2) (by decide) (by decide +kernel)
  exact me9 l i h1 (mbOf 9 (by decide)) h2
theorem mf10 : Contract Try.prog 5 [I 10] [] (Bo true) [] := by
  obtain ⟨l, i, h1, h2⟩ := mmOf (n := 10) (k := 2) (by decide) (by decide +kernel)
  exact me10 l i h1 (mbOf 10 (by decide)) h2
theorem mf11 : Contract Try.prog 5 [I 11] [] (Bo true) [] := by
  obtain ⟨l, i, h1, h2⟩ := mmOf (n := 11) (k := 3) (by decide) (by decide +kernel)
  exact me11 l i h1 (mbOf 11 (by decide)) h2
theorem mf12 : Contract Try.prog 5 [I 12] [] (Bo true) [] := by
  obtain ⟨l, i, h1, h2⟩ := mmOf (n := 12) (k := 2) (by decide) (by decide +kernel)
  exact me12 l i h1 (mbOf 12 (by decide)) h2
theorem mf13 : Contract Try.prog 5 [I 13] [] (Bo true) [] := by
  obtain ⟨l, i, h1, h2⟩ := mmOf (n := 13) (k := 3) (by decide) (by decide +kernel)
  exact me13 l i h1 (mbOf 13 (by decide)) h2
theorem mf14 : Contract Try.prog 5 [I 14] [] (Bo true) [] := by
  obtain ⟨l, i, h1, h2⟩ := mmOf (n := 14) (k := 3) (by decide) (by decide +kernel)
  exact me14 l i h1 (mbOf 14 (by decide)) h2
theorem mf15 : Contract Try.prog 5 [I 15] [] (Bo true) [] := by
  obtain ⟨l, i, h1, h2⟩ := mmOf (n := 15) (k := 4) (by decide) (by decide +kernel)
  exact me15 l i h1 (mbOf 15 (by decide)) h2
theorem mf16 : Contract Try.prog 5 [I 16] [] (Bo true) [] := by
  obtain ⟨l, i, h1, h2⟩ := mmOf (n := 16) (k := 1) (by decide) (by decide +kernel)
  exact me16 l i h1 (mbOf 16 (by decide)) h2
theorem mf17 : Contract Try.prog 5 [I 17] [] (Bo true) [] := by
  obtain ⟨l, i, h1, h2⟩ := mmOf (n := 17) (k := 2) (by decide) (by decide +kernel)
  exact me17 l i h1 (mbOf 17 (by decide)) h2
theorem mf18 : Contract Try.prog 5 [I 18] [] (Bo true) [] := by
  obtain ⟨l, i, h1, h2⟩ := mmOf (n := 18) (k := 2) (by decide) (by decide +kernel)
  exact me18 l i h1 (mbOf 18 (by decide)) h2
theorem mf19 : Contract Try.prog 5 [I 19] [] (Bo true) [] := by
  obtain ⟨l, i, h1, h2⟩ := mmOf (n := 19) (k := 3) (by decide) (by decide +kernel)
  exact me19 l i h1 (mbOf 19 (by decide)) h2
theorem mf20 : Contract Try.prog 5 [I 20] [] (Bo true) [] := by
  obtain ⟨l, i, h1, h2⟩ := mmOf (n := 20) (k := 2) (by decide) (by decide +kernel)
  exact me20 l i h1 (mbOf 20 (by decide)) h2
theorem cEnds (n : Int) : Contract Try.prog 5 [I n] [] (Bo true) [] := by
  by_cases h0 : n < 0
  · exact meLow n h0
  · by_cases h1 : 20 < n
    · exact meHigh n h1
    · obtain ⟨k, rfl⟩ : ∃ k : Nat, n = (k : Int) := ⟨n.toNat, by omega⟩
      have hk : k ≤ 20 := by omega
      match k, hk with
      | 0, _ => exact mf0
      | 1, _ => exact mf1
      | 2, _ => exact mf2
      | 3, _ => exact mf3
      | 4, _ => exact mf4
      | 5, _ => exact mf5
      | 6, _ => exact mf6
      | 7, _ => exact mf7
      | 8, _ => exact mf8
      | 9, _ => exact mf9
      | 10, _ => exact mf10
      | 11, _ => exact mf11
      | 12, _ => exact mf12
      | 13, _ => exact mf13
      | 14, _ => exact mf14
      | 15, _ => exact mf15
      | 16, _ => exact mf16
      | 17, _ => exact mf17
      | 18, _ => exact mf18
      | 19, _ => exact mf19
      | 20, _ => exact mf20
      | k + 21, h => omega
theorem own : ownKnob Try.prog.godebug = none := by kernel_rfl
theorem laidOut : laidOutB Try.prog = true := by kernel_rfl
theorem mergeEnds_lifted (os : Os) (started : os.Started) (H : Type) (enc : TypeId × Value → H) :
    ReturnsInHanded {} Try.checked os 5 .any (Rows.mergeEndsSpec.pre6 enc Try.prog Try.f5 Rows.mergeEndsRow.domain false) (Rows.mergeEndsSpec.post enc Try.prog Try.f5 false true false false) := by
  refine returnsInHanded_of_change (C := Try.checked) own started (by kernel_rfl) Try.func5
    (ChangeSpec.witness6 (enc := enc) (C := Try.checked) false ⟨#[], #[.int .i64 0], []⟩ 8 (by kernel_rfl) (by kernel_rfl) (by kernel_rfl) (by kernel_rfl)) ?_
  intro W base args ds gs before hval hW _ _
  refine row_of (P := Try.prog) (tb := 4) laidOut rfl (by kernel_rfl) (by kernel_rfl) (by kernel_rfl) Try.underlying4 (fun ds h => ?_) (fun us h => ?_) W base args ds gs before hval hW
  · match ds, h with
    | [_], _ => rfl
  · obtain ⟨u0, _, rfl, h0, rfl⟩ := h
    obtain ⟨n, rfl, hn⟩ := arg_int Try.underlying3 h0
    exact cEnds n

theorem MergeEnds_proved : Rows.MergeEndsSaid :=
  OpenClaim.holds_of_wide 5 Try.f5 rfl rfl rfl rfl rfl rfl rfl ⟨rfl, rfl, rfl, rfl, rfl⟩ rfl rfl rfl rfl rfl (by kernel_rfl) Try.func5 (by kernel_rfl)
    (of_decide_eq_true (by kernel_rfl)) (by unfold Func.isWrapper; first | (rw [if_pos (by decide +kernel)]; kernel_rfl) | (rw [if_neg (by decide +kernel)]; exact ⟨rfl, rfl⟩))
    (fun os started H enc _ => mergeEnds_lifted os started H enc)
#print axioms MergeEnds_proved
end Go.Proofs.Ytfpdlamjlbpmkaa
