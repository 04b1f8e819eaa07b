/- TreeChain: spans that call one another in a row are as deep as they stand in it, wherever they lie. Without conditions. -/
import Derived.Test.YthhggnnfiohnpaaTrChainP5
import Derived.Test.YthhggnnfiohnpaaRows
namespace Go.Proofs.Ythhggnnfiohnpaa
open E
set_option maxRecDepth 100000
set_option linter.unusedVariables false
set_option linter.unusedSimpArgs false

/-- What there is when so many places are taken. -/
structure Inv (n : Nat) (W : List Nat) (R : List (List V)) (H : List Bool) (Z : List Int) : Prop where
  le : W.length ≤ n
  nodup : W.Nodup
  lt : ∀ (j k : Nat), W[j]? = some k → k < n
  hf : ∀ k, k < n → k ∉ W → H[k]? = some false
  ht : ∀ k, k ∈ W → H[k]? = some true
  rlen : R.length = n
  rz : ∀ k, k < n → k ∉ W → R[k]? = some zrow
  rs : ∀ (j k : Nat), W[j]? = some k → R[k]? = some (Sp.row (mkS (j + 1) j))
  zlen : Z.length = n
  zs : ∀ (j k : Nat), W[j]? = some k → Z[j]? = some (k : Int)
theorem Inv.zero (n : Nat) : Inv n [] (List.replicate n zrow) (List.replicate n false) (List.replicate n 0) := by
  refine ⟨Nat.zero_le _, List.nodup_nil, by simp, fun k hk _ => by simp [hk], by simp, by simp, fun k hk _ => by simp [hk], by simp, by simp, by simp⟩
theorem Inv.step {n : Nat} {W : List Nat} {R : List (List V)} {H : List Bool} {Z : List Int} (h : Inv n W R H Z) {k : Nat} (hk : k < n) (hn : k ∉ W) (hi : W.length < n) :
    Inv n (W ++ [k]) (R.set k (Sp.row (mkS (W.length + 1) W.length))) (H.set k true) (Z.set W.length (k : Int)) := by
  have get : ∀ (j q : Nat), (W ++ [k])[j]? = some q → (j < W.length ∧ W[j]? = some q) ∨ (j = W.length ∧ q = k) := by
    intro j q hj
    rw [List.getElem?_append] at hj
    split at hj
    · rename_i hl; exact .inl ⟨hl, hj⟩
    · rename_i hl
      have hl2 := (List.getElem?_eq_some_iff.1 hj).1
      simp only [List.length_singleton] at hl2
      have e : j - W.length = 0 := by omega
      rw [e] at hj
      simp only [List.getElem?_cons_zero, Option.some.injEq] at hj
      exact .inr ⟨by omega, hj.symm⟩
  have hHl : k < H.length := (List.getElem?_eq_some_iff.1 (h.hf k hk hn)).1
  refine ⟨by simp; omega, ?_, fun j q hj => ?_, fun q hq hqn => ?_, fun q hq => ?_, by rw [List.length_set, h.rlen], fun q hq hqn => ?_, fun j q hj => ?_, by rw [List.length_set, h.zlen], fun j q hj => ?_⟩
  · rw [List.nodup_append]
    exact ⟨h.nodup, List.nodup_cons.2 ⟨by simp, List.nodup_nil⟩, fun a ha b hb e => by simp only [List.mem_singleton] at hb; subst hb; exact hn (e ▸ ha)⟩
  · rcases get j q hj with ⟨_, h1⟩ | ⟨_, rfl⟩
    · exact h.lt j q h1
    · exact hk
  · simp only [List.mem_append, List.mem_singleton, not_or] at hqn
    rw [List.getElem?_set, if_neg (fun e => hqn.2 e.symm)]
    exact h.hf q hq hqn.1
  · rw [List.getElem?_set]
    by_cases e : k = q
    · rw [if_pos e, if_pos hHl]
    · rw [if_neg e]
      simp only [List.mem_append, List.mem_singleton] at hq
      rcases hq with hq | hq
      · exact h.ht q hq
      · exact absurd hq.symm e
  · simp only [List.mem_append, List.mem_singleton, not_or] at hqn
    rw [List.getElem?_set, if_neg (fun e => hqn.2 e.symm)]
    exact h.rz q hq hqn.1
  · rw [List.getElem?_set]
    rcases get j q hj with ⟨_, h1⟩ | ⟨rfl, rfl⟩
    · rw [if_neg (fun e => hn (by rw [e]; exact List.mem_of_getElem? h1))]
      exact h.rs j q h1
    · rw [if_pos rfl, if_pos (by rw [h.rlen]; exact hk)]
  · rw [List.getElem?_set]
    rcases get j q hj with ⟨hl, h1⟩ | ⟨rfl, rfl⟩
    · rw [if_neg (by omega)]
      exact h.zs j q h1
    · rw [if_pos rfl, if_pos (by rw [h.zlen]; exact hi)]
theorem Inv.free {n : Nat} {W : List Nat} {R : List (List V)} {H : List Bool} {Z : List Int} (h : Inv n W R H Z) (hi : W.length < n) : ∃ k, k < n ∧ k ∉ W := by
  by_cases hx : ∃ k, k < n ∧ k ∉ W
  · exact hx
  · exfalso
    have hall : ∀ k, k < n → ∃ j : Nat, j < W.length ∧ W[j]? = some k := by
      intro k hk
      by_cases hm : k ∈ W
      · obtain ⟨j, hj⟩ := List.getElem?_of_mem hm
        exact ⟨j, (List.getElem?_eq_some_iff.1 hj).1, hj⟩
      · exact absurd ⟨k, hk, hm⟩ hx
    obtain ⟨a, b, h1, h2, h3⟩ := pigeon W.length (fun k => if h : k < n then (hall k h).choose else 0) (fun k hk => by
      have hkn : k < n := by omega
      simp only [hkn, dite_true]
      exact (hall k hkn).choose_spec.1)
    have ha : a < n := by omega
    have hb : b < n := by omega
    simp only [ha, hb, dite_true] at h3
    have ea := (hall a ha).choose_spec.2
    have eb := (hall b hb).choose_spec.2
    rw [h3, eb] at ea
    simp only [Option.some.injEq] at ea
    omega
theorem tiL (n : Nat) (hn : n ≤ 40) (O : List Int) (R : List (List V)) (H : List Bool) (Z : List Int) (i k0 : Nat) (h1 : 1 ≤ n) (t : Nat) (ht : H[(k0 + t) % n]? = some false) (hb : ∀ s, s < t → H[(k0 + s) % n]? = some true) :
    ∀ m s, s + m = t → LoopC Try.prog 0 135 tiB (tiS n O R H Z i ((k0 + s) % n)) (.exit 2) (tiS n O R H Z i ((k0 + t) % n))
  | 0, s, hs => by
    have : s = t := by omega
    subst this
    exact LoopC.last (tiE n O R H Z i _ ht) (by simp)
  | m + 1, s, hs => by
    have hr := tiG n O R H Z i ((k0 + s) % n) (hb s (by omega)) (Nat.mod_lt _ (by omega)) hn
    rw [Nat.mod_add_mod, Nat.add_assoc] at hr
    exact LoopC.next hr (tiL n hn O R H Z i k0 h1 t ht hb m (s + 1) (by omega))
theorem tcL (n : Nat) (h1 : 1 ≤ n) (hn : n ≤ 40) (O : List Int) (hO : n ≤ O.length) : ∃ W R H Z, Inv n W R H Z ∧ W.length = n ∧ LoopC Try.prog 0 135 tcB (tcS n O (List.replicate n zrow) (List.replicate n false) (List.replicate n 0) 0) (.exit 0) (tcS n O R H Z n) := by
  have key : ∀ (m : Nat) (W : List Nat) (R : List (List V)) (H : List Bool) (Z : List Int), Inv n W R H Z → W.length + m = n → ∃ W' R' H' Z', Inv n W' R' H' Z' ∧ W'.length = n ∧ LoopC Try.prog 0 135 tcB (tcS n O R H Z W.length) (.exit 0) (tcS n O R' H' Z' n) := by
    intro m
    induction m with
    | zero =>
      intro W R H Z hI hm
      have e : W.length = n := by omega
      refine ⟨W, R, H, Z, hI, e, ?_⟩
      rw [e]
      exact LoopC.last (tcE n O R H Z n (Nat.le_refl _)) (by simp)
    | succ m ih =>
      intro W R H Z hI hm
      have hi : W.length < n := by omega
      have hv : O[W.length]? = some O[W.length] := List.getElem?_eq_getElem (by omega)
      generalize O[W.length] = v at hv
      obtain ⟨kf, hkf, hnf⟩ := hI.free hi
      have hk0 : low v % n < n := Nat.mod_lt _ (by omega)
      obtain ⟨t0, ht0⟩ : ∃ t, (low v % n + t) % n = kf := by
        by_cases hc : low v % n ≤ kf
        · exact ⟨kf - low v % n, by rw [show low v % n + (kf - low v % n) = kf by omega]; exact Nat.mod_eq_of_lt hkf⟩
        · exact ⟨kf + n - low v % n, by rw [show low v % n + (kf + n - low v % n) = kf + n by omega, Nat.add_mod_right]; exact Nat.mod_eq_of_lt hkf⟩
      obtain ⟨t, _, ht, hlt⟩ := least (p := fun t => (low v % n + t) % n ∉ W) t0 (by rw [ht0]; exact hnf)
      have hk : (low v % n + t) % n < n := Nat.mod_lt _ (by omega)
      have hfree := hI.hf _ hk ht
      have hin := tiL n hn O R H Z W.length (low v % n) h1 t hfree (fun s hs => by
        have := hlt s hs
        exact hI.ht _ (Decidable.not_not.1 this)) t 0 (by omega)
      rw [Nat.add_zero, Nat.mod_eq_of_lt hk0] at hin
      have hw := List.getElem?_eq_getElem (show W.length < Z.length by rw [hI.zlen]; exact hi)
      have hr := tcG n O R H Z W.length ((low v % n + t) % n) v _ hn hi hk hv hfree (hI.rz _ hk ht) hw hin
      obtain ⟨W', R', H', Z', q1, q2, q3⟩ := ih _ _ _ _ (hI.step hk ht hi) (by rw [List.length_append, List.length_singleton]; omega)
      rw [List.length_append, List.length_singleton] at q3
      exact ⟨W', R', H', Z', q1, q2, LoopC.next hr q3⟩
  exact key n [] _ _ _ (Inv.zero n) (by simp)
theorem Inv.chain {n : Nat} {W : List Nat} {R : List (List V)} {H : List Bool} {Z : List Int} (h : Inv n W R H Z) (h1 : 1 ≤ n) (hw : W.length = n) : ∃ L : List Sp, R = L.map Sp.row ∧ Chain n W L := by
  have hall : ∀ k, k < n → ∃ j : Nat, W[j]? = some k := by
    intro k hk
    by_cases hm : k ∈ W
    · exact List.getElem?_of_mem hm
    · exfalso
      -- one place more would be taken than there are
      have hfull : ∀ j, j < n → ∃ q, W[j]? = some q ∧ q < n ∧ q ≠ k := by
        intro j hj
        have hq := List.getElem?_eq_getElem (show j < W.length by omega)
        exact ⟨_, hq, h.lt j _ hq, fun e => hm (by rw [← e]; exact List.mem_of_getElem? hq)⟩
      obtain ⟨a, b, g1, g2, g3⟩ := pigeon (n - 1) (fun j => if k < W.getD j 0 then W.getD j 0 - 1 else W.getD j 0) (fun j hj => by
        obtain ⟨q, q1, q2, q3⟩ := hfull j (by omega)
        simp only [List.getD_eq_getElem?_getD, q1, Option.getD_some]
        split <;> omega)
      obtain ⟨qa, a1, a2, a3⟩ := hfull a (by omega)
      obtain ⟨qb, b1, b2, b3⟩ := hfull b (by omega)
      simp only [List.getD_eq_getElem?_getD, a1, b1, Option.getD_some] at g3
      have e : qa = qb := by split at g3 <;> split at g3 <;> omega
      subst e
      obtain ⟨u1, u2⟩ := List.getElem?_eq_some_iff.1 a1
      obtain ⟨v1, v2⟩ := List.getElem?_eq_some_iff.1 b1
      exact absurd (u2.trans v2.symm) ((List.pairwise_iff_getElem.1 h.nodup) a b u1 v1 g1)
  have hsame : ∀ (i j k : Nat), W[i]? = some k → W[j]? = some k → i = j := by
    intro i j k a1 b1
    obtain ⟨u1, u2⟩ := List.getElem?_eq_some_iff.1 a1
    obtain ⟨v1, v2⟩ := List.getElem?_eq_some_iff.1 b1
    rcases Nat.lt_trichotomy i j with hij | hij | hij
    · exact absurd (u2.trans v2.symm) ((List.pairwise_iff_getElem.1 h.nodup) i j u1 v1 hij)
    · exact hij
    · exact absurd (v2.trans u2.symm) ((List.pairwise_iff_getElem.1 h.nodup) j i v1 u1 hij)
  let L : List Sp := (List.range n).map fun k => if hk : k < n then mkS ((hall k hk).choose + 1) (hall k hk).choose else mkS 0 0
  have hLk : ∀ (j k : Nat), W[j]? = some k → L[k]? = some (mkS (j + 1) j) := by
    intro j k hj
    have hk := h.lt j k hj
    have e : (hall k hk).choose = j := hsame _ _ k (hall k hk).choose_spec hj
    show ((List.range n).map _)[k]? = _
    rw [List.getElem?_map, List.getElem?_range hk]
    simp only [Option.map_some, hk, dite_true, e]
  have hLl : L.length = n := by simp [L]
  refine ⟨L, ?_, ⟨h1, hw, h.nodup, h.lt, hLl, hLk⟩⟩
  apply List.ext_getElem?
  intro k
  rw [List.getElem?_map]
  by_cases hk : k < n
  · obtain ⟨j, hj⟩ := hall k hk
    rw [h.rs j k hj, hLk j k hj]; rfl
  · rw [List.getElem?_eq_none (by rw [h.rlen]; omega), List.getElem?_eq_none (by rw [hLl]; omega)]; rfl
theorem cTreeChainN (n : Nat) (O : List Int) (h1 : 1 ≤ n) (hn : n ≤ 40) (hO : n ≤ O.length) : Contract Try.prog 6 [I (n : Int), .sl 1 (O.map bI)] [] (Bo true) [] := by
  obtain ⟨W, R, H, Z, hI, hw, hl⟩ := tcL n h1 hn O hO
  obtain ⟨L, rfl, hC⟩ := hI.chain h1 hw
  refine tcM n O L H Z h1 hn hO hC.len (by rw [ordX_len, hC.len]) hl ?_
  have key : ∀ m i, i + m = n → LoopC Try.prog 0 135 tdB (tdS n L Z i) (.exit 4) (tdS n L Z n) := by
    intro m
    induction m with
    | zero =>
      intro i h
      have : i = n := by omega
      subst this
      exact LoopC.last (tdE _ _ _ _ (Nat.le_refl _)) (by simp)
    | succ m ih =>
      intro i h
      have hi : i < n := by omega
      have hk : W[i]? = some W[i] := List.getElem?_eq_getElem (by omega)
      exact LoopC.next (tdG n L Z i W[i] hn hi (hI.zs i _ hk) (ch_dep hC hk) (ch_ord hC hk) (ch_siz hC hk)) (ih (i + 1) (by omega))
  exact key n 0 (by omega)
theorem cTreeChain (n : Int) (O : List Int) : Contract Try.prog 6 [I n, .sl 1 (O.map bI)] [] (Bo true) [] := by
  by_cases h1 : n < 1
  · exact tcX1 n O h1
  by_cases h2 : 40 < n
  · exact tcX2 n O (by omega) h2
  by_cases h3 : (O.length : Int) < n
  · exact tcX3 n O (by omega) (by omega) h3
  have e1 : n = ((n.toNat : Nat) : Int) := by omega
  rw [e1]
  exact cTreeChainN n.toNat O (by omega) (by omega) (by omega)

open Go.ChangeShapes Go.WideShapes Go.ChangeAt Go.RowKit
theorem typed_all {α : Type} {f : α → List V} {rows : List (List V)} (h : ∀ r ∈ rows, ∃ e : α, r = f e) : ∃ es : List α, rows = es.map f := by
  induction rows with
  | nil => exact ⟨[], rfl⟩
  | cons r rows ih =>
    obtain ⟨e, rfl⟩ := h r (by simp)
    obtain ⟨es, rfl⟩ := ih fun r hr => h r (by simp [hr])
    exact ⟨e :: es, rfl⟩
theorem typed_i {r : List V} {B d : Nat} (h : Typed Try.prog B (d + 1) 3 r) : ∃ e : Int, r = bI e := by
  obtain ⟨v, rfl, _⟩ := typed_int Try.underlying3 h
  exact ⟨v, rfl⟩
theorem own : ownKnob Try.prog.godebug = none := by kernel_rfl
theorem laidOut : laidOutB Try.prog = true := by kernel_rfl
theorem treeChain_lifted (os : Os) (started : os.Started) (H : Type) (enc : TypeId × Value → H) :
    ReturnsInHanded {} Try.checked os 6 .any (Rows.treeChainSpec.pre6 enc Try.prog Try.f6 Rows.treeChainRow.domain false) (Rows.treeChainSpec.post enc Try.prog Try.f6 false true false false) := by
  refine returnsInHanded_of_change (C := Try.checked) own started (by kernel_rfl) Try.func6
    (ChangeSpec.witness6 (enc := enc) (C := Try.checked) false ⟨#[], #[.int .i64 0, .slice none 0 0], []⟩ 8 (by kernel_rfl) (by kernel_rfl) (by kernel_rfl) (by kernel_rfl)) ?_
  intro W base args ds gs before hval hW _ _
  refine row_of (P := Try.prog) (tb := 4) laidOut rfl (by kernel_rfl) (by kernel_rfl) (by kernel_rfl) Try.underlying4 (fun ds h => ?_) (fun us h => ?_) W base args ds gs before hval hW
  · match ds, h with
    | [_, _], _ => rfl
  · obtain ⟨u0, _, rfl, h0, u1, _, rfl, h1, rfl⟩ := h
    obtain ⟨n, rfl, hn⟩ := arg_int Try.underlying3 h0
    obtain ⟨rows1, rfl, _, hr1⟩ := arg_slice Try.underlying30 h1
    obtain ⟨o, rfl⟩ := typed_all (f := bI) fun r h => typed_i (hr1 r h)
    exact cTreeChain n o

theorem TreeChain_proved : Rows.TreeChainSaid :=
  OpenClaim.holds_of_wide 6 Try.f6 rfl rfl rfl rfl rfl rfl rfl ⟨rfl, rfl, rfl, rfl, rfl⟩ rfl rfl rfl rfl rfl (by kernel_rfl) Try.func6 (by kernel_rfl)
    (of_decide_eq_true (by kernel_rfl)) (by unfold Func.isWrapper; first | (rw [if_pos (by decide +kernel)]; kernel_rfl) | (rw [if_neg (by decide +kernel)]; exact ⟨rfl, rfl⟩))
    (fun os started H enc _ => treeChain_lifted os started H enc)
#print axioms TreeChain_proved
end Go.Proofs.Ythhggnnfiohnpaa
