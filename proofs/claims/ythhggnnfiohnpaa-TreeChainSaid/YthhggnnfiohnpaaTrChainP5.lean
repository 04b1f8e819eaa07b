/- Plain law: spans that call one another in a row. -/
import Derived.Test.YthhggnnfiohnpaaTrChainP4
namespace Go.Proofs.Ythhggnnfiohnpaa
open E
set_option linter.unusedVariables false
set_option linter.unusedSimpArgs false

theorem ring_back (U : List Int) (i : Nat) : ∀ (f : Nat) (k m : Int), ringG U i f k m ≠ -1 → ∃ t, it U t k = (i : Int)
  | 0, k, m, h => absurd rfl h
  | f + 1, k, m, h => by
    by_cases h1 : k = -1
    · subst h1; exact absurd rfl h
    · have h1' : (k == -1) = false := by simpa using h1
      by_cases h2 : k = (i : Int)
      · exact ⟨0, h2⟩
      · have h2' : (k == (i : Int)) = false := by simpa using h2
        simp only [ringG, h1', h2', cond_false] at h
        obtain ⟨t, ht⟩ := ring_back U i f _ _ h
        refine ⟨t + 1, ?_⟩
        show it U t (stp U k) = _
        unfold stp
        rw [if_neg h1]; exact ht
/-- The places, in the row's order. -/
structure Chain (n : Nat) (W : List Nat) (L : List Sp) : Prop where
  pos : 1 ≤ n
  wlen : W.length = n
  nodup : W.Nodup
  lt : ∀ (i k : Nat), W[i]? = some k → k < n
  len : L.length = n
  sp : ∀ (i k : Nat), W[i]? = some k → L[k]? = some (mkS (i + 1) i)
theorem Chain.inj {n : Nat} {W : List Nat} {L : List Sp} (h : Chain n W L) {i j k : Nat} (h1 : W[i]? = some k) (h2 : W[j]? = some k) : i = j := by
  obtain ⟨u1, u2⟩ := List.getElem?_eq_some_iff.1 h1
  obtain ⟨v1, v2⟩ := List.getElem?_eq_some_iff.1 h2
  rcases Nat.lt_trichotomy i j with hij | hij | hij
  · exact absurd (u2.trans v2.symm) ((List.pairwise_iff_getElem.1 h.nodup) i j u1 v1 hij)
  · exact hij
  · exact absurd (v2.trans u2.symm) ((List.pairwise_iff_getElem.1 h.nodup) j i v1 u1 hij)
theorem Chain.surj {n : Nat} {W : List Nat} {L : List Sp} (h : Chain n W L) {k : Nat} (hk : k < n) : ∃ i : Nat, W[i]? = some k := by
  by_cases hx : ∃ i : Nat, W[i]? = some k
  · exact hx
  · exfalso
    have hW : ∀ j, j < n → ∃ q, W[j]? = some q ∧ q < n ∧ q ≠ k := by
      intro j hj
      have hq := List.getElem?_eq_getElem (show j < W.length by rw [h.wlen]; exact hj)
      exact ⟨_, hq, h.lt j _ hq, fun e => hx ⟨j, by rw [hq, e]⟩⟩
    obtain ⟨a, b, h1, h2, h3⟩ := pigeon (n - 1) (fun j => if k < W.getD j 0 then W.getD j 0 - 1 else W.getD j 0) (fun j hj => by
      have := h.pos
      obtain ⟨q, q1, q2, q3⟩ := hW j (by omega)
      simp only [List.getD_eq_getElem?_getD, q1, Option.getD_some]
      split <;> omega)
    have := h.pos
    obtain ⟨qa, a1, a2, a3⟩ := hW a (by omega)
    obtain ⟨qb, b1, b2, b3⟩ := hW b (by omega)
    simp only [List.getD_eq_getElem?_getD, a1, b1, Option.getD_some] at h3
    have e : qa = qb := by split at h3 <;> split at h3 <;> omega
    rw [← e] at b1
    have := h.inj a1 b1
    omega
theorem ch_one {L : List Sp} (A : List (Ix L)) (x : Ix L) (hn : A.Nodup) (hm : ∀ z, z ∈ A ↔ z = x) : A = [x] := by
  match A, hn, hm with
  | [], _, hm => exact absurd ((hm x).2 rfl) (by simp)
  | [a], _, hm => rw [(hm a).1 (by simp)]
  | a :: b :: A, hn, hm =>
    exfalso
    have ha := (hm a).1 (by simp)
    have hb := (hm b).1 (by simp)
    rw [List.nodup_cons] at hn
    exact hn.1 (by rw [ha, hb]; simp)
section
variable {n : Nat} {W : List Nat} {L : List Sp} (h : Chain n W L)
include h
theorem ch_up0 {k : Nat} (hk : W[0]? = some k) : nmP L k = -1 := by
  rw [nmP_at (h.sp 0 k hk)]
  refine firstI_none 0 fun j y hj => ?_
  have hjl : j < n := by rw [← h.len]; exact (List.getElem?_eq_some_iff.1 hj).1
  obtain ⟨i, hi⟩ := h.surj hjl
  rw [h.sp i j hi] at hj
  cases hj
  have : ((((i + 1 : Nat) : Int)) == ((0 : Nat) : Int)) = false := by simp <;> omega
  show (!(decide (((0 + j : Nat) : Int) = (k : Int))) && (((i + 1 : Nat) : Int) == ((0 : Nat) : Int))) = false
  rw [this, Bool.and_false]
theorem ch_up1 {i k k' : Nat} (hk : W[i + 1]? = some k) (hk' : W[i]? = some k') : nmP L k = (k' : Int) := by
  rw [nmP_at (h.sp (i + 1) k hk)]
  have hne : k' ≠ k := fun e => by
    rw [e] at hk'
    have := h.inj hk hk'; omega
  have := firstI_stop (bad := nmH k ((i + 1 : Nat) : Int)) 0 (h.sp i k' hk') (by
    show (!(decide (((0 + k' : Nat) : Int) = (k : Int))) && (((i + 1 : Nat) : Int) == ((i + 1 : Nat) : Int))) = true
    simp; omega) (fun j y hj hy => by
      have hjl : j < n := by rw [← h.len]; exact (List.getElem?_eq_some_iff.1 hy).1
      obtain ⟨q, hq⟩ := h.surj hjl
      rw [h.sp q j hq] at hy
      cases hy
      have hqi : q ≠ i := fun e => by
        rw [e, hk'] at hq
        simp only [Option.some.injEq] at hq; omega
      have : ((((q + 1 : Nat) : Int)) == ((i + 1 : Nat) : Int)) = false := by simp; omega
      show (!(decide (((0 + j : Nat) : Int) = (k : Int))) && (((q + 1 : Nat) : Int) == ((i + 1 : Nat) : Int))) = false
      rw [this, Bool.and_false])
  rw [Nat.zero_add] at this
  exact this
theorem ch_it : ∀ (i k t : Nat), W[i]? = some k → it (upF L) (t + 1) (k : Int) = -1 ∨ ∃ q : Nat, W[i - (t + 1)]? = some q ∧ t < i ∧ it (upF L) (t + 1) (k : Int) = (q : Int)
  | 0, k, t, hk => by
    left
    have hkl : k < L.length := by rw [h.len]; exact h.lt 0 k hk
    have e : stp (upF L) (k : Int) = -1 := by rw [stp_at (upF_at L k hkl)]; exact ch_up0 h hk
    have m1 : ∀ s, it (upF L) s (-1) = -1 := by
      intro s
      induction s with
      | zero => rfl
      | succ s ih => exact ih
    show it (upF L) t (stp (upF L) (k : Int)) = -1
    rw [e, m1]
  | i + 1, k, t, hk => by
    have hkl : k < L.length := by rw [h.len]; exact h.lt _ k hk
    have hil : i < W.length := by have := (List.getElem?_eq_some_iff.1 hk).1; omega
    have hk' : W[i]? = some W[i] := List.getElem?_eq_getElem hil
    have e : stp (upF L) (k : Int) = ((W[i] : Nat) : Int) := by rw [stp_at (upF_at L k hkl)]; exact ch_up1 h hk hk'
    have e2 : it (upF L) (t + 1) (k : Int) = it (upF L) t ((W[i] : Nat) : Int) := by
      show it (upF L) t (stp (upF L) (k : Int)) = _
      rw [e]
    rw [e2]
    cases t with
    | zero => exact .inr ⟨W[i], hk', by omega, rfl⟩
    | succ t =>
      rcases ch_it i W[i] t hk' with h1 | ⟨q, h1, h2, h3⟩
      · exact .inl h1
      · exact .inr ⟨q, by rw [show i + 1 - (t + 1 + 1) = i - (t + 1) by omega]; exact h1, by omega, h3⟩
theorem ch_par {i k : Nat} (hk : W[i]? = some k) : (parF L)[k]? = some (nmP L k) := by
  have hkl : k < L.length := by rw [h.len]; exact h.lt i k hk
  rw [parF_at L k hkl]
  have : (ringF (upF L) k == (k : Int)) = false := by
    cases hb : ringF (upF L) k == (k : Int) with
    | false => rfl
    | true =>
      exfalso
      have he : ringF (upF L) k = (k : Int) := by simpa using hb
      have hv := upF_at L k hkl
      have hg : (upF L).getD k 0 = stp (upF L) (k : Int) := by rw [stp_at hv, List.getD_eq_getElem?_getD, hv]; rfl
      unfold ringF at he
      rw [hg] at he
      obtain ⟨t, ht⟩ := ring_back (upF L) k _ _ _ (by rw [he]; omega)
      have ht' : it (upF L) (t + 1) (k : Int) = (k : Int) := ht
      rcases ch_it h i k t hk with h1 | ⟨q, h1, h2, h3⟩
      · rw [h1] at ht'; omega
      · rw [h3] at ht'
        have : q = k := by omega
        subst this
        have := h.inj hk h1
        omega
  rw [this, cond_false]
theorem ch_deep : ∀ (i k : Nat), W[i]? = some k → Dp (parF L) i k
  | 0, k, hk => .root (by rw [ch_par h hk, ch_up0 h hk])
  | i + 1, k, hk => by
    have hil : i < W.length := by have := (List.getElem?_eq_some_iff.1 hk).1; omega
    have hk' : W[i]? = some W[i] := List.getElem?_eq_getElem hil
    exact .kid (by rw [ch_par h hk, ch_up1 h hk hk']) (ch_deep i W[i] hk')
theorem ch_kid {i : Nat} (x y : Ix L) (hx : W[i]? = some x.n) (hy : W[i + 1]? = some y.n) : kidX L (parF L) x.n = [y] := by
  refine ch_one _ y (kidX_nodup L _ _) fun z => ?_
  rw [kid_of (parF_inR L) (parF_len L) z x.n x.lt]
  obtain ⟨j, hj⟩ := h.surj (show z.n < n by rw [← h.len]; exact z.lt)
  rw [ch_par h hj]
  constructor
  · intro e
    simp only [Option.some.injEq] at e
    cases j with
    | zero => rw [ch_up0 h hj] at e; omega
    | succ j =>
      have hjl : j < W.length := by have := (List.getElem?_eq_some_iff.1 hj).1; omega
      have hj' : W[j]? = some W[j] := List.getElem?_eq_getElem hjl
      rw [ch_up1 h hj hj'] at e
      have e' : W[j] = x.n := by omega
      rw [e'] at hj'
      have := h.inj hx hj'
      subst this
      rw [hy] at hj
      simp only [Option.some.injEq] at hj
      exact Ix.ext hj.symm
  · rintro rfl
    have := h.inj hj hy
    subst this
    rw [ch_up1 h hj hx]
theorem ch_last (x : Ix L) (hx : W[n - 1]? = some x.n) : kidX L (parF L) x.n = [] := by
  refine List.eq_nil_iff_forall_not_mem.2 fun z hz => ?_
  rw [kid_of (parF_inR L) (parF_len L) z x.n x.lt] at hz
  obtain ⟨j, hj⟩ := h.surj (show z.n < n by rw [← h.len]; exact z.lt)
  rw [ch_par h hj] at hz
  simp only [Option.some.injEq] at hz
  have hjl := (List.getElem?_eq_some_iff.1 hj).1
  rw [h.wlen] at hjl
  cases j with
  | zero => rw [ch_up0 h hj] at hz; omega
  | succ j =>
    have hjw : j < W.length := by rw [h.wlen]; omega
    have hj' : W[j]? = some W[j] := List.getElem?_eq_getElem hjw
    rw [ch_up1 h hj hj'] at hz
    have e' : W[j] = x.n := by omega
    rw [e'] at hj'
    have := h.inj hx hj'
    omega
theorem ch_roots (x : Ix L) (hx : W[0]? = some x.n) : kidX L (parF L) L.length = [x] := by
  refine ch_one _ x (kidX_nodup L _ _) fun z => ?_
  rw [root_of (parF_inR L) (parF_len L) z]
  obtain ⟨j, hj⟩ := h.surj (show z.n < n by rw [← h.len]; exact z.lt)
  rw [ch_par h hj]
  constructor
  · intro e
    simp only [Option.some.injEq] at e
    cases j with
    | zero =>
      rw [hx] at hj
      simp only [Option.some.injEq] at hj
      exact Ix.ext hj.symm
    | succ j =>
      have hjl : j < W.length := by have := (List.getElem?_eq_some_iff.1 hj).1; omega
      have hj' : W[j]? = some W[j] := List.getElem?_eq_getElem hjl
      rw [ch_up1 h hj hj'] at e; omega
  · rintro rfl
    have := h.inj hj hx
    subst this
    rw [ch_up0 h hj]
/-- All below one, in the row's order. -/
theorem ch_pr : ∀ (m i : Nat) (x : Ix L), i + (m + 1) = n → W[i]? = some x.n → ((prD (kidX L (parF L)) (m + 1) (i : Int) [x]).map fun q => (q.1.n, q.2)) = (List.range' i (m + 1)).map fun j => (W.getD j 0, (j : Int))
  | 0, i, x, hi, hx => by
    have hl : i = n - 1 := by omega
    have e : kidX L (parF L) x.n = [] := ch_last h x (by rw [← hl]; exact hx)
    have hg : W.getD i 0 = x.n := by rw [List.getD_eq_getElem?_getD, hx]; rfl
    rw [pr_one, e]
    show [(x.n, (i : Int))] = [(W.getD i 0, (i : Int))]
    rw [hg]
  | m + 1, i, x, hi, hx => by
    have hil : i + 1 < W.length := by rw [h.wlen]; omega
    have hy : W[i + 1]? = some W[i + 1] := List.getElem?_eq_getElem hil
    have hyl : W[i + 1] < L.length := by rw [h.len]; exact h.lt _ _ hy
    have e : kidX L (parF L) x.n = [⟨W[i + 1], hyl⟩] := ch_kid h x ⟨W[i + 1], hyl⟩ hx hy
    have hg : W.getD i 0 = x.n := by rw [List.getD_eq_getElem?_getD, hx]; rfl
    have ih := ch_pr m (i + 1) ⟨W[i + 1], hyl⟩ (by omega) hy
    rw [pr_one, e, List.map_cons, List.range'_succ, List.map_cons, hg]
    congr 1
theorem ch_ord {i k : Nat} (hk : W[i]? = some k) : ((ordX L).map Ix.row)[i]? = some [I (k : Int)] := by
  have hi : i < n := by rw [← h.wlen]; exact (List.getElem?_eq_some_iff.1 hk).1
  have h0 : W[0]? = some (W[0]'(by rw [h.wlen]; exact h.pos)) := List.getElem?_eq_getElem _
  have h0l : (W[0]'(by rw [h.wlen]; exact h.pos)) < L.length := by rw [h.len]; exact h.lt _ _ h0
  obtain ⟨m, hm⟩ : ∃ m, n = m + 1 := ⟨n - 1, by have := h.pos; omega⟩
  have hp := ch_pr h m 0 ⟨_, h0l⟩ (by omega) h0
  have e : ordP L = prD (kidX L (parF L)) (m + 1) ((0 : Nat) : Int) [⟨_, h0l⟩] := by
    unfold ordP
    rw [ch_roots h ⟨_, h0l⟩ h0]
    have hln : L.length = m + 1 := by rw [h.len, hm]
    rw [hln]; rfl
  rw [← e] at hp
  have hq := congrArg (fun l => l[i]?) hp
  simp only [List.getElem?_map] at hq
  rw [List.getElem?_range' (by omega)] at hq
  simp only [Option.map_some] at hq
  rw [List.getElem?_map]
  unfold ordX
  rw [List.getElem?_map]
  cases hz : (ordP L)[i]? with
  | none => rw [hz] at hq; simp at hq
  | some q =>
    rw [hz] at hq
    simp only [Option.map_some, Option.some.injEq, Prod.mk.injEq] at hq
    have : W.getD (0 + 1 * i) 0 = k := by rw [show 0 + 1 * i = i by omega, List.getD_eq_getElem?_getD, hk]; rfl
    rw [this] at hq
    simp only [Option.map_some, Ix.row, hq.1]
theorem ch_dep {i k : Nat} (hk : W[i]? = some k) : (depF L)[k]? = some (i : Int) := by
  have hkl : k < L.length := by rw [h.len]; exact h.lt i k hk
  obtain ⟨t', _, h2, h3⟩ := ordP_mem L ⟨k, hkl⟩
  have := (ch_deep h i k hk).uniq h2
  subst this
  exact setAll_at _ _ (⟨k, hkl⟩ : Ix L) (i : Int) (by simp) (ordP_nodup L) h3
theorem ch_siz {i k : Nat} (hk : W[i]? = some k) : (sizF L)[k]? = some ((n - i : Nat) : Int) := by
  have hi : i < n := by rw [← h.wlen]; exact (List.getElem?_eq_some_iff.1 hk).1
  have hkl : k < L.length := by rw [h.len]; exact h.lt i k hk
  have hs := sizF_at L ⟨k, hkl⟩ i (n - i) (by rw [h.len]; omega) (ch_deep h i k hk)
  obtain ⟨m, hm⟩ : ∃ m, n - i = m + 1 := ⟨n - i - 1, by omega⟩
  rw [hm] at hs ⊢
  have hp := congrArg List.length (ch_pr h m i ⟨k, hkl⟩ (by omega) hk)
  rw [List.length_map, List.length_map, List.length_range', pr_len0] at hp
  rw [hp] at hs
  exact hs
end

end Go.Proofs.Ythhggnnfiohnpaa

/- TreeChain: the walks. -/
namespace Go.Proofs.Ythhggnnfiohnpaa
open E
set_option maxRecDepth 100000
set_option linter.unusedVariables false
set_option linter.unusedSimpArgs false

def bB (b : Bool) : List V := [Bo b]
def low (x : Int) : Nat := BitVec.toNat (BitVec.ofInt 64 x) &&& 1023
def zrow : List V := [U 0, U 0, U 0, U 0, Sg ByteArray.empty, Sg ByteArray.empty, I 0, I 0, Bo false, .nil]
def tcS (n : Nat) (O : List Int) (R : List (List V)) (H : List Bool) (W : List Int) (i : Nat) : SL := ⟨[(0, I (n : Int)), (1, .sl 1 (O.map bI)), (6, .own 900), (7, .own 901), (8, .own 902), (9, I (i : Int))], [(900, .arr 10 R), (901, .arr 1 (H.map bB)), (902, .arr 1 (W.map bI))], [900, 901, 902]⟩
def tiS (n : Nat) (O : List Int) (R : List (List V)) (H : List Bool) (W : List Int) (i k : Nat) : SL := ⟨[(0, I (n : Int)), (1, .sl 1 (O.map bI)), (6, .own 900), (7, .own 901), (8, .own 902), (9, I (i : Int)), (10, I (k : Int))], [(900, .arr 10 R), (901, .arr 1 (H.map bB)), (902, .arr 1 (W.map bI))], [900, 901, 902]⟩
def tdS (n : Nat) (L : List Sp) (W : List Int) (i : Nat) : SL := ⟨[(0, I (n : Int)), (8, .own 902), (11, .own 903), (12, .own 904), (13, .own 905), (14, I (i : Int))], [(902, .arr 1 (W.map bI)), (903, .arr 1 ((depF L).map bI)), (904, .arr 1 ((ordX L).map Ix.row)), (905, .arr 1 ((sizF L).map bI))], [902, 903, 904, 905]⟩
theorem bB_at {U : List Bool} {i : Nat} {v : Bool} (h : U[i]? = some v) : (U.map bB)[Int.toNat (i : Int)]? = some [Bo v] := by simp [h, bB]
theorem bB_set (U : List Bool) (i : Nat) (v : Bool) : (U.map bB).set (Int.toNat (i : Int)) [Bo v] = (U.set i v).map bB := by
  rw [List.map_set]; rfl
theorem low_le (x : Int) : low x ≤ 1023 := Nat.and_le_right
noncomputable def tcB : Code := codeAt Try.prog 6 [true, true, true, true, true, true, false, true, false, false]

noncomputable def tiB : Code := codeAt Try.prog 6 [true, true, true, true, true, true, false, true, false, false, true, false, false, true, false, false, false]

noncomputable def tdB : Code := codeAt Try.prog 6 [true, true, true, true, true, true, true, true, true, true, true, false, true, false, false]

theorem tiG_0 (n : Nat) (O : List Int) (R : List (List V)) (H : List Bool) (W : List Int) (i k : Nat) (hH : H[k]? = some true) (hk : k < n) (hn : n ≤ 40) : CodeC Try.prog 0 135 tiB (tiS n O R H W i k) (Ex.normal) ({ env := [((0 : Nat), I (Int.ofNat n)), ((1 : Nat), V.sl (1 : Nat) (List.map bI O)), ((6 : Nat), V.own (900 : Nat)), ((7 : Nat), V.own (901 : Nat)), ((8 : Nat), V.own (902 : Nat)), ((9 : Nat), I (Int.ofNat i)), ((10 : Nat), I (Int.ofNat ((k + (1 : Nat)) % n)))], st := [((900 : Nat), Obj.arr (10 : Nat) R), ((901 : Nat), Obj.arr (1 : Nat) (List.map bB H)), ((902 : Nat), Obj.arr (1 : Nat) (List.map bI W))], ids := [(900 : Nat), (901 : Nat), (902 : Nat)] }) :=
  runP hmix [.reg 11 [(3, [.row [Bo true]], none)], .reg 12 [(1, [.be (I ((k + 1 : Nat) : Int))], none), (3, [.idx 0, .be (I (((k + 1) % n : Nat) : Int))], none)]] ⟨[0, 1, 6, 7, 8, 9, 10], [(900, 900), (901, 901), (902, 902)], []⟩ [
      (0 : Int) ≤ Int.ofNat k,
      Int.ofNat k < Int.ofNat (List.length (List.map bB H)),
      (List.map bB H)[k]? = some [Bo true],
      IntKind.wrap IntKind.i64 (Int.ofNat (k + (1 : Nat))) = Int.ofNat (k + (1 : Nat)),
      Int.ofNat n ≠ (0 : Int),
      Int.ofNat ((k + (1 : Nat)) % n) = Int.ofNat ((k + (1 : Nat)) % n)] (by kernel_rfl)
    (by
      simp only [allP]
      and_intros <;> first
        | exact bB_at hH
        | exact i64_small (by simp; omega)
        | (have h9 := (List.getElem?_eq_some_iff.1 hH).1; simp; omega)
        | (simp; done))

theorem tiG (n : Nat) (O : List Int) (R : List (List V)) (H : List Bool) (W : List Int) (i k : Nat) (hH : H[k]? = some true) (hk : k < n) (hn : n ≤ 40)  : CodeC Try.prog 0 135 tiB (tiS n O R H W i k) .normal (tiS n O R H W i ((k + 1) % n)) := by
  exact CodeC.cast (by
    first
      | rfl) (tiG_0 n O R H W i k hH hk hn )

theorem tiE_0 (n : Nat) (O : List Int) (R : List (List V)) (H : List Bool) (W : List Int) (i k : Nat) (hH : H[k]? = some false) : CodeC Try.prog 0 135 tiB (tiS n O R H W i k) (Ex.exit (2 : Nat)) ({ env := [((0 : Nat), I (Int.ofNat n)), ((1 : Nat), V.sl (1 : Nat) (List.map bI O)), ((6 : Nat), V.own (900 : Nat)), ((7 : Nat), V.own (901 : Nat)), ((8 : Nat), V.own (902 : Nat)), ((9 : Nat), I (Int.ofNat i)), ((10 : Nat), I (Int.ofNat k))], st := [((900 : Nat), Obj.arr (10 : Nat) R), ((901 : Nat), Obj.arr (1 : Nat) (List.map bB H)), ((902 : Nat), Obj.arr (1 : Nat) (List.map bI W))], ids := [(900 : Nat), (901 : Nat), (902 : Nat)] }) :=
  runP hmix [.reg 11 [(3, [.row [Bo false]], none)]] ⟨[0, 1, 6, 7, 8, 9, 10], [(900, 900), (901, 901), (902, 902)], []⟩ [
      (0 : Int) ≤ Int.ofNat k,
      Int.ofNat k < Int.ofNat (List.length (List.map bB H)),
      (List.map bB H)[k]? = some [Bo false]] (by kernel_rfl)
    (by
      simp only [allP]
      and_intros <;> first
        | exact bB_at hH
        | (have h9 := (List.getElem?_eq_some_iff.1 hH).1; simp; omega)
        | (simp; done))

theorem tiE (n : Nat) (O : List Int) (R : List (List V)) (H : List Bool) (W : List Int) (i k : Nat) (hH : H[k]? = some false)  : CodeC Try.prog 0 135 tiB (tiS n O R H W i k) (.exit 2) (tiS n O R H W i k) := by
  exact CodeC.cast (by
    first
      | rfl) (tiE_0 n O R H W i k hH )

theorem tcG_0 (n : Nat) (O : List Int) (R : List (List V)) (H : List Bool) (W : List Int) (i k : Nat) (v w : Int) (hn : n ≤ 40) (hi : i < n) (hk : k < n) (hv : O[i]? = some v) (hH : H[k]? = some false) (hR : R[k]? = some zrow) (hW : W[i]? = some w) (hl : LoopC Try.prog 0 135 tiB (tiS n O R H W i (low v % n)) (.exit 2) (tiS n O R H W i k)) : CodeC Try.prog 0 135 tcB (tcS n O R H W i) (Ex.normal) ({ env := [((0 : Nat), I (Int.ofNat n)), ((1 : Nat), V.sl (1 : Nat) (List.map bI O)), ((6 : Nat), V.own (900 : Nat)), ((7 : Nat), V.own (901 : Nat)), ((8 : Nat), V.own (902 : Nat)), ((9 : Nat), I (Int.ofNat (i + (1 : Nat))))], st := [((900 : Nat), Obj.arr (10 : Nat) (List.set R k (Sp.row (mkS (i + (1 : Nat)) i)))), ((901 : Nat), Obj.arr (1 : Nat) (List.map bB (List.set H k true))), ((902 : Nat), Obj.arr (1 : Nat) (List.map bI (List.set W i (Int.ofNat k))))], ids := [(900 : Nat), (901 : Nat), (902 : Nat)] }) :=
  runP hmix [.reg 8 [(2, [], some true)], .reg 10 [(3, [.row [I v]], none), (4, [.be (I ((low v : Nat) : Int))], none), (6, [.idx 0, .be (I ((low v % n : Nat) : Int))], none)], .cut ⟨[0, 1, 6, 7, 8, 9, 10], [(900, 900), (901, 901), (902, 902)], []⟩ (.exit 2) (tiS n O R H W i k), .reg 13 [(3, [.row [Bo false], .beO ((H.set k true).map bB)], none)], .reg 14 [(4, [.row [I w], .beO ((W.set i (k : Int)).map bI)], none)], .reg 15 [(3, [.be (I ((i + 1 : Nat) : Int))], none), (4, [.be (U ((i + 1 : Nat) : Int))], none), (6, [.be (U ((i : Nat) : Int))], none), (9, [.row zrow, .beO (R.set k (Sp.row (mkS (i + 1) i)))], none)], .reg 9 [(1, [.be (I ((i + 1 : Nat) : Int))], none)]] ⟨[0, 1, 6, 7, 8, 9], [(900, 900), (901, 901), (902, 902)], []⟩ [
      decide (Int.ofNat i < Int.ofNat n) = true,
      (0 : Int) ≤ Int.ofNat i,
      Int.ofNat i < Int.ofNat (List.length (List.map bI O)),
      (List.map bI O)[i]? = some [I v],
      IntKind.wrap IntKind.i64 (Int.ofNat ((BitVec.toNat (BitVec.ofInt (64 : Nat) v) &&& (1023 : Nat)))) = Int.ofNat (low v),
      Int.ofNat n ≠ (0 : Int),
      Int.ofNat (low v % n) = Int.ofNat (low v % n),
      LoopC Try.prog (0 : Nat) (135 : Nat) tiB { env := [((0 : Nat), I (Int.ofNat n)), ((1 : Nat), V.sl (1 : Nat) (List.map bI O)), ((6 : Nat), V.own (900 : Nat)), ((7 : Nat), V.own (901 : Nat)), ((8 : Nat), V.own (902 : Nat)), ((9 : Nat), I (Int.ofNat i)), ((10 : Nat), I (Int.ofNat (low v % n)))], st := [((900 : Nat), Obj.arr (10 : Nat) R), ((901 : Nat), Obj.arr (1 : Nat) (List.map bB H)), ((902 : Nat), Obj.arr (1 : Nat) (List.map bI W))], ids := [(900 : Nat), (901 : Nat), (902 : Nat)] } (Ex.exit (2 : Nat)) { env := [((0 : Nat), I (Int.ofNat n)), ((1 : Nat), V.sl (1 : Nat) (List.map bI O)), ((6 : Nat), V.own (900 : Nat)), ((7 : Nat), V.own (901 : Nat)), ((8 : Nat), V.own (902 : Nat)), ((9 : Nat), I (Int.ofNat i)), ((10 : Nat), I (Int.ofNat k))], st := [((900 : Nat), Obj.arr (10 : Nat) R), ((901 : Nat), Obj.arr (1 : Nat) (List.map bB H)), ((902 : Nat), Obj.arr (1 : Nat) (List.map bI W))], ids := [(900 : Nat), (901 : Nat), (902 : Nat)] },
      (0 : Int) ≤ Int.ofNat k,
      Int.ofNat k < Int.ofNat (List.length (List.map bB H)),
      (List.map bB H)[k]? = some [Bo false],
      List.set (List.map bB H) k [Bo true] = List.map bB (List.set H k true),
      (0 : Int) ≤ Int.ofNat i,
      Int.ofNat i < Int.ofNat (List.length (List.map bI W)),
      (List.map bI W)[i]? = some [I w],
      List.set (List.map bI W) i [I (Int.ofNat k)] = List.map bI (List.set W i (Int.ofNat k)),
      IntKind.wrap IntKind.i64 (Int.ofNat (i + (1 : Nat))) = Int.ofNat (i + (1 : Nat)),
      Int.ofNat ((i + (1 : Nat)) % (18446744073709551616 : Nat)) = Int.ofNat (i + (1 : Nat)),
      Int.ofNat (i % (18446744073709551616 : Nat)) = Int.ofNat i,
      (0 : Int) ≤ Int.ofNat k,
      Int.ofNat k < Int.ofNat (List.length R),
      R[k]? = some [V.val (Value.int IntKind.u64 (0 : Int)), V.val (Value.int IntKind.u64 (0 : Int)), V.val (Value.int IntKind.u64 (0 : Int)), V.val (Value.int IntKind.u64 (0 : Int)), Sg { data := { toList := [] } }, Sg { data := { toList := [] } }, I (0 : Int), I (0 : Int), Bo false, V.nil],
      List.set R k [V.val (Value.int IntKind.u64 (0 : Int)), V.val (Value.int IntKind.u64 (0 : Int)), V.val (Value.int IntKind.u64 (Int.ofNat (i + (1 : Nat)))), V.val (Value.int IntKind.u64 (Int.ofNat i)), Sg { data := { toList := [] } }, Sg { data := { toList := [] } }, I (0 : Int), I (0 : Int), Bo false, V.sl (2 : Nat) []] = List.set R k (Sp.row (mkS (i + (1 : Nat)) i)),
      IntKind.wrap IntKind.i64 (Int.ofNat (i + (1 : Nat))) = Int.ofNat (i + (1 : Nat))] (by kernel_rfl)
    (by
      simp only [allP]
      and_intros <;> first
        | exact hl
        | exact bI_at hv
        | exact bB_at hH
        | exact bI_at hW
        | exact bB_set H k true
        | exact bI_set W i _
        | (exact i64_small (by have h9 := low_le v; simp; omega))
        | exact hR
        | (show IntKind.wrap IntKind.i64 ((low v : Nat) : Int) = ((low v : Nat) : Int); have h9 := low_le v; exact i64_small (by omega))
        | (have h9 := (List.getElem?_eq_some_iff.1 hv).1; simp; omega)
        | (have h9 := (List.getElem?_eq_some_iff.1 hH).1; simp; omega)
        | (have h9 := (List.getElem?_eq_some_iff.1 hW).1; simp; omega)
        | (have h9 := (List.getElem?_eq_some_iff.1 hR).1; simp; omega)
        | exact rfl
        | (simp; done))

theorem tcG (n : Nat) (O : List Int) (R : List (List V)) (H : List Bool) (W : List Int) (i k : Nat) (v w : Int) (hn : n ≤ 40) (hi : i < n) (hk : k < n) (hv : O[i]? = some v) (hH : H[k]? = some false) (hR : R[k]? = some zrow) (hW : W[i]? = some w) (hl : LoopC Try.prog 0 135 tiB (tiS n O R H W i (low v % n)) (.exit 2) (tiS n O R H W i k))  : CodeC Try.prog 0 135 tcB (tcS n O R H W i) .normal (tcS n O (R.set k (Sp.row (mkS (i + 1) i))) (H.set k true) (W.set i (k : Int)) (i + 1)) := by
  exact CodeC.cast (by
    first
      | rfl) (tcG_0 n O R H W i k v w hn hi hk hv hH hR hW hl )

theorem tcE_0 (n : Nat) (O : List Int) (R : List (List V)) (H : List Bool) (W : List Int) (i : Nat) (h : n ≤ i) : CodeC Try.prog 0 135 tcB (tcS n O R H W i) (Ex.exit (0 : Nat)) ({ env := [((0 : Nat), I (Int.ofNat n)), ((1 : Nat), V.sl (1 : Nat) (List.map bI O)), ((6 : Nat), V.own (900 : Nat)), ((7 : Nat), V.own (901 : Nat)), ((8 : Nat), V.own (902 : Nat)), ((9 : Nat), I (Int.ofNat i))], st := [((900 : Nat), Obj.arr (10 : Nat) R), ((901 : Nat), Obj.arr (1 : Nat) (List.map bB H)), ((902 : Nat), Obj.arr (1 : Nat) (List.map bI W))], ids := [(900 : Nat), (901 : Nat), (902 : Nat)] }) :=
  runP hmix [.reg 8 [(2, [], some false)]] ⟨[0, 1, 6, 7, 8, 9], [(900, 900), (901, 901), (902, 902)], []⟩ [
      decide (Int.ofNat i < Int.ofNat n) = false] (by kernel_rfl)
    (by
      simp only [allP]
      and_intros <;> first
        | (simp; omega))

theorem tcE (n : Nat) (O : List Int) (R : List (List V)) (H : List Bool) (W : List Int) (i : Nat) (h : n ≤ i)  : CodeC Try.prog 0 135 tcB (tcS n O R H W i) (.exit 0) (tcS n O R H W i) := by
  exact CodeC.cast (by
    first
      | rfl) (tcE_0 n O R H W i h )

theorem tdG_0 (n : Nat) (L : List Sp) (W : List Int) (i k : Nat) (hn : n ≤ 40) (hi : i < n) (hw : W[i]? = some (k : Int)) (hd : (depF L)[k]? = some (i : Int)) (ho : ((ordX L).map Ix.row)[i]? = some [I (k : Int)]) (hs : (sizF L)[k]? = some ((n - i : Nat) : Int)) : CodeC Try.prog 0 135 tdB (tdS n L W i) (Ex.normal) ({ env := [((0 : Nat), I (Int.ofNat n)), ((8 : Nat), V.own (902 : Nat)), ((11 : Nat), V.own (903 : Nat)), ((12 : Nat), V.own (904 : Nat)), ((13 : Nat), V.own (905 : Nat)), ((14 : Nat), I (Int.ofNat (i + (1 : Nat))))], st := [((902 : Nat), Obj.arr (1 : Nat) (List.map bI W)), ((903 : Nat), Obj.arr (1 : Nat) (List.map bI (depF L))), ((904 : Nat), Obj.arr (1 : Nat) (List.map Ix.row (ordX L))), ((905 : Nat), Obj.arr (1 : Nat) (List.map bI (sizF L)))], ids := [(902 : Nat), (903 : Nat), (904 : Nat), (905 : Nat)] }) :=
  runP hmix [.reg 22 [(2, [], some true)], .reg 24 [(4, [.row [I (k : Int)]], none), (6, [.row [I (i : Int)]], none), (8, [], some false), (13, [.row [I (k : Int)]], none), (17, [.row [I (k : Int)]], none), (18, [], some false), (25, [.row [I (k : Int)]], none), (27, [.row [I ((n - i : Nat) : Int)]], none), (30, [.be (I ((n - i : Nat) : Int))], none), (31, [], some false)], .reg 23 [(1, [.be (I ((i + 1 : Nat) : Int))], none)]] ⟨[0, 8, 11, 12, 13, 14], [(902, 902), (903, 903), (904, 904), (905, 905)], []⟩ [
      decide (Int.ofNat i < Int.ofNat n) = true,
      (0 : Int) ≤ Int.ofNat i,
      Int.ofNat i < Int.ofNat (List.length (List.map bI W)),
      (List.map bI W)[i]? = some [I (Int.ofNat k)],
      (0 : Int) ≤ Int.ofNat k,
      Int.ofNat k < Int.ofNat (List.length (List.map bI (depF L))),
      (List.map bI (depF L))[k]? = some [I (Int.ofNat i)],
      (Int.ofNat i != Int.ofNat i) = false,
      (0 : Int) ≤ Int.ofNat i,
      Int.ofNat i < Int.ofNat (List.length (List.map Ix.row (ordX L))),
      (List.map Ix.row (ordX L))[i]? = some [I (Int.ofNat k)],
      (0 : Int) ≤ Int.ofNat i,
      Int.ofNat i < Int.ofNat (List.length (List.map bI W)),
      (List.map bI W)[i]? = some [I (Int.ofNat k)],
      (Int.ofNat k != Int.ofNat k) = false,
      (0 : Int) ≤ Int.ofNat i,
      Int.ofNat i < Int.ofNat (List.length (List.map bI W)),
      (List.map bI W)[i]? = some [I (Int.ofNat k)],
      (0 : Int) ≤ Int.ofNat k,
      Int.ofNat k < Int.ofNat (List.length (List.map bI (sizF L))),
      (List.map bI (sizF L))[k]? = some [I (Int.ofNat (n - i))],
      IntKind.wrap IntKind.i64 (Int.ofNat n + -Int.ofNat i) = Int.ofNat (n - i),
      (Int.ofNat (n - i) != Int.ofNat (n - i)) = false,
      IntKind.wrap IntKind.i64 (Int.ofNat (i + (1 : Nat))) = Int.ofNat (i + (1 : Nat))] (by kernel_rfl)
    (by
      simp only [allP]
      and_intros <;> first
        | omega
        | exact bI_at hw
        | exact bI_at hd
        | exact bI_at hs
        | exact i64_small (by simp; omega)
        | (rw [i64_small (by simp; omega)]; simp; omega)
        | (have h9 := (List.getElem?_eq_some_iff.1 hw).1; simp; omega)
        | (have h9 := (List.getElem?_eq_some_iff.1 hd).1; simp; omega)
        | (have h9 := (List.getElem?_eq_some_iff.1 hs).1; simp; omega)
        | (have h9 := (List.getElem?_eq_some_iff.1 ho).1; simp at h9; simp; omega)
        | (simp; done))

theorem tdG (n : Nat) (L : List Sp) (W : List Int) (i k : Nat) (hn : n ≤ 40) (hi : i < n) (hw : W[i]? = some (k : Int)) (hd : (depF L)[k]? = some (i : Int)) (ho : ((ordX L).map Ix.row)[i]? = some [I (k : Int)]) (hs : (sizF L)[k]? = some ((n - i : Nat) : Int))  : CodeC Try.prog 0 135 tdB (tdS n L W i) .normal (tdS n L W (i + 1)) := by
  exact CodeC.cast (by
    first
      | rfl) (tdG_0 n L W i k hn hi hw hd ho hs )

theorem tdE_0 (n : Nat) (L : List Sp) (W : List Int) (i : Nat) (h : n ≤ i) : CodeC Try.prog 0 135 tdB (tdS n L W i) (Ex.exit (4 : Nat)) ({ env := [((0 : Nat), I (Int.ofNat n)), ((8 : Nat), V.own (902 : Nat)), ((11 : Nat), V.own (903 : Nat)), ((12 : Nat), V.own (904 : Nat)), ((13 : Nat), V.own (905 : Nat)), ((14 : Nat), I (Int.ofNat i))], st := [((902 : Nat), Obj.arr (1 : Nat) (List.map bI W)), ((903 : Nat), Obj.arr (1 : Nat) (List.map bI (depF L))), ((904 : Nat), Obj.arr (1 : Nat) (List.map Ix.row (ordX L))), ((905 : Nat), Obj.arr (1 : Nat) (List.map bI (sizF L)))], ids := [(902 : Nat), (903 : Nat), (904 : Nat), (905 : Nat)] }) :=
  runP hmix [.reg 22 [(2, [], some false)]] ⟨[0, 8, 11, 12, 13, 14], [(902, 902), (903, 903), (904, 904), (905, 905)], []⟩ [
      decide (Int.ofNat i < Int.ofNat n) = false] (by kernel_rfl)
    (by
      simp only [allP]
      and_intros <;> first
        | (simp; omega))

theorem tdE (n : Nat) (L : List Sp) (W : List Int) (i : Nat) (h : n ≤ i)  : CodeC Try.prog 0 135 tdB (tdS n L W i) (.exit 4) (tdS n L W i) := by
  exact CodeC.cast (by
    first
      | rfl) (tdE_0 n L W i h )

theorem tcX1_0 (n : Int) (O : List Int) (h : n < 1) : Contract Try.prog 6 [I n, .sl 1 (O.map bI)] [] (Bo true) ([]) :=
  vcP hmix [.reg 2 [(4, [], some true)], .tab [(7, FAl)]] [] [
      Contract Try.prog (7 : Nat) [] [] (Bo true) [],
      decide (n < (1 : Int)) = true] (by kernel_rfl)
    (by
      simp only [allP]
      and_intros <;> first
        | exact cAlive
        | (simp; omega))

theorem tcX1 (n : Int) (O : List Int) (h : n < 1) : Contract Try.prog 6 [I n, .sl 1 (O.map bI)] [] (Bo true) [] := by
  exact Contract.cast (by
    first
      | rfl) (by
    first
      | rfl) (tcX1_0 n O h )

theorem tcX2_0 (n : Int) (O : List Int) (h0 : 1 ≤ n) (h : 40 < n) : Contract Try.prog 6 [I n, .sl 1 (O.map bI)] [] (Bo true) ([]) :=
  vcP hmix [.reg 2 [(4, [], some false), (8, [], some true)], .tab [(7, FAl)]] [] [
      Contract Try.prog (7 : Nat) [] [] (Bo true) [],
      decide (n < (1 : Int)) = false,
      decide (n > (40 : Int)) = true] (by kernel_rfl)
    (by
      simp only [allP]
      and_intros <;> first
        | exact cAlive
        | (simp; omega))

theorem tcX2 (n : Int) (O : List Int) (h0 : 1 ≤ n) (h : 40 < n) : Contract Try.prog 6 [I n, .sl 1 (O.map bI)] [] (Bo true) [] := by
  exact Contract.cast (by
    first
      | rfl) (by
    first
      | rfl) (tcX2_0 n O h0 h )

theorem tcX3_0 (n : Int) (O : List Int) (h0 : 1 ≤ n) (h1 : n ≤ 40) (h : (O.length : Int) < n) : Contract Try.prog 6 [I n, .sl 1 (O.map bI)] [] (Bo true) ([]) :=
  vcP hmix [.reg 2 [(4, [], some false), (8, [], some false), (14, [], some true)], .tab [(7, FAl)]] [] [
      Contract Try.prog (7 : Nat) [] [] (Bo true) [],
      decide (n < (1 : Int)) = false,
      decide (n > (40 : Int)) = false,
      decide (Int.ofNat (List.length (List.map bI O)) < n) = true] (by kernel_rfl)
    (by
      simp only [allP]
      and_intros <;> first
        | exact cAlive
        | (simp; omega))

theorem tcX3 (n : Int) (O : List Int) (h0 : 1 ≤ n) (h1 : n ≤ 40) (h : (O.length : Int) < n) : Contract Try.prog 6 [I n, .sl 1 (O.map bI)] [] (Bo true) [] := by
  exact Contract.cast (by
    first
      | rfl) (by
    first
      | rfl) (tcX3_0 n O h0 h1 h )

theorem tcM_0 (n : Nat) (O : List Int) (L : List Sp) (H : List Bool) (W : List Int) (h0 : 1 ≤ n) (h1 : n ≤ 40) (h2 : n ≤ O.length) (hL : L.length = n) (ho : (ordX L).length = n) (hl : LoopC Try.prog 0 135 tcB (tcS n O (List.replicate n zrow) (List.replicate n false) (List.replicate n 0) 0) (.exit 0) (tcS n O (L.map Sp.row) H W n)) (hd : LoopC Try.prog 0 135 tdB (tdS n L W 0) (.exit 4) (tdS n L W n)) : Contract Try.prog 6 [I (n : Int), .sl 1 (O.map bI)] [] (Bo true) ([]) :=
  vcP hmix [.reg 2 [(4, [], some false), (8, [], some false), (14, [], some false)], .reg 4 [(1, [.beO (List.replicate n zrow)], none)], .reg 5 [(1, [.beO ((List.replicate n false).map bB)], none)], .reg 6 [(1, [.beO ((List.replicate n (0 : Int)).map bI)], none)], .cut ⟨[0, 1, 6, 7, 8, 9], [(802000, 900), (1002000, 901), (1202000, 902)], []⟩ (.exit 0) (tcS n O (L.map Sp.row) H W n), .reg 16 [(1, [.call [] [] (.own 0) [some (.arr 1 ((depF L).map bI))]], none)], .reg 17 [(1, [.call [] [] (.own 0) [some (.arr 1 ((ordX L).map Ix.row))]], none)], .reg 18 [(1, [.call [] [] (.own 0) [some (.arr 1 ((sizF L).map bI))]], none)], .reg 19 [(1, [.be (I ((n : Nat) : Int))], none), (3, [], some false), (6, [.be (I ((n : Nat) : Int))], none), (8, [], some false), (12, [.be (I ((n : Nat) : Int))], none), (14, [], some false)], .cut ⟨[0, 8, 11, 12, 13, 14], [(902, 902), (3202001, 903), (3402001, 904), (3602001, 905)], []⟩ (.exit 4) (tdS n L W n), .tab [(7, FAl)]] [] [
      Contract Try.prog (7 : Nat) [] [] (Bo true) [],
      decide (Int.ofNat n < (1 : Int)) = false,
      decide (Int.ofNat n > (40 : Int)) = false,
      decide (Int.ofNat (List.length (List.map bI O)) < Int.ofNat n) = false,
      Int.ofNat n = Int.ofNat n,
      (0 : Int) ≤ Int.ofNat n,
      n * (112 : Nat) ≤ (140737488355328 : Nat),
      List.replicate n [V.val (Value.int IntKind.u64 (0 : Int)), V.val (Value.int IntKind.u64 (0 : Int)), V.val (Value.int IntKind.u64 (0 : Int)), V.val (Value.int IntKind.u64 (0 : Int)), Sg { data := { toList := [] } }, Sg { data := { toList := [] } }, I (0 : Int), I (0 : Int), Bo false, V.nil] = List.replicate n [V.val (Value.int IntKind.u64 (0 : Int)), V.val (Value.int IntKind.u64 (0 : Int)), V.val (Value.int IntKind.u64 (0 : Int)), V.val (Value.int IntKind.u64 (0 : Int)), Sg { data := { toList := [] } }, Sg { data := { toList := [] } }, I (0 : Int), I (0 : Int), Bo false, V.nil],
      Int.ofNat n = Int.ofNat n,
      (0 : Int) ≤ Int.ofNat n,
      n * (1 : Nat) ≤ (140737488355328 : Nat),
      List.replicate n [Bo false] = List.map bB (List.replicate n false),
      Int.ofNat n = Int.ofNat n,
      (0 : Int) ≤ Int.ofNat n,
      n * (8 : Nat) ≤ (140737488355328 : Nat),
      List.replicate n [I (0 : Int)] = List.map bI (List.replicate n (0 : Int)),
      LoopC Try.prog (0 : Nat) (135 : Nat) tcB { env := [((0 : Nat), I (Int.ofNat n)), ((1 : Nat), V.sl (1 : Nat) (List.map bI O)), ((6 : Nat), V.own (900 : Nat)), ((7 : Nat), V.own (901 : Nat)), ((8 : Nat), V.own (902 : Nat)), ((9 : Nat), I (0 : Int))], st := [((900 : Nat), Obj.arr (10 : Nat) (List.replicate n [V.val (Value.int IntKind.u64 (0 : Int)), V.val (Value.int IntKind.u64 (0 : Int)), V.val (Value.int IntKind.u64 (0 : Int)), V.val (Value.int IntKind.u64 (0 : Int)), Sg { data := { toList := [] } }, Sg { data := { toList := [] } }, I (0 : Int), I (0 : Int), Bo false, V.nil])), ((901 : Nat), Obj.arr (1 : Nat) (List.map bB (List.replicate n false))), ((902 : Nat), Obj.arr (1 : Nat) (List.map bI (List.replicate n (0 : Int))))], ids := [(900 : Nat), (901 : Nat), (902 : Nat)] } (Ex.exit (0 : Nat)) { env := [((0 : Nat), I (Int.ofNat n)), ((1 : Nat), V.sl (1 : Nat) (List.map bI O)), ((6 : Nat), V.own (900 : Nat)), ((7 : Nat), V.own (901 : Nat)), ((8 : Nat), V.own (902 : Nat)), ((9 : Nat), I (Int.ofNat n))], st := [((900 : Nat), Obj.arr (10 : Nat) (List.map Sp.row L)), ((901 : Nat), Obj.arr (1 : Nat) (List.map bB H)), ((902 : Nat), Obj.arr (1 : Nat) (List.map bI W))], ids := [(900 : Nat), (901 : Nat), (902 : Nat)] },
      Contract Try.prog (9 : Nat) [V.sl (10 : Nat) (List.map Sp.row L)] [] (V.own (0 : Nat)) [some (Obj.arr (1 : Nat) (List.map bI (depF L)))],
      true = true,
      FlatRows (List.map bI (depF L)),
      Contract Try.prog (13 : Nat) [V.sl (10 : Nat) (List.map Sp.row L)] [] (V.own (0 : Nat)) [some (Obj.arr (1 : Nat) (List.map Ix.row (ordX L)))],
      true = true,
      FlatRows (List.map Ix.row (ordX L)),
      Contract Try.prog (16 : Nat) [V.sl (10 : Nat) (List.map Sp.row L)] [] (V.own (0 : Nat)) [some (Obj.arr (1 : Nat) (List.map bI (sizF L)))],
      true = true,
      FlatRows (List.map bI (sizF L)),
      Int.ofNat (List.length (List.map bI (depF L))) = Int.ofNat n,
      (Int.ofNat n != Int.ofNat n) = false,
      Int.ofNat (List.length (List.map Ix.row (ordX L))) = Int.ofNat n,
      (Int.ofNat n != Int.ofNat n) = false,
      Int.ofNat (List.length (List.map bI (sizF L))) = Int.ofNat n,
      (Int.ofNat n != Int.ofNat n) = false,
      LoopC Try.prog (0 : Nat) (135 : Nat) tdB { env := [((0 : Nat), I (Int.ofNat n)), ((8 : Nat), V.own (902 : Nat)), ((11 : Nat), V.own (903 : Nat)), ((12 : Nat), V.own (904 : Nat)), ((13 : Nat), V.own (905 : Nat)), ((14 : Nat), I (0 : Int))], st := [((902 : Nat), Obj.arr (1 : Nat) (List.map bI W)), ((903 : Nat), Obj.arr (1 : Nat) (List.map bI (depF L))), ((904 : Nat), Obj.arr (1 : Nat) (List.map Ix.row (ordX L))), ((905 : Nat), Obj.arr (1 : Nat) (List.map bI (sizF L)))], ids := [(902 : Nat), (903 : Nat), (904 : Nat), (905 : Nat)] } (Ex.exit (4 : Nat)) { env := [((0 : Nat), I (Int.ofNat n)), ((8 : Nat), V.own (902 : Nat)), ((11 : Nat), V.own (903 : Nat)), ((12 : Nat), V.own (904 : Nat)), ((13 : Nat), V.own (905 : Nat)), ((14 : Nat), I (Int.ofNat n))], st := [((902 : Nat), Obj.arr (1 : Nat) (List.map bI W)), ((903 : Nat), Obj.arr (1 : Nat) (List.map bI (depF L))), ((904 : Nat), Obj.arr (1 : Nat) (List.map Ix.row (ordX L))), ((905 : Nat), Obj.arr (1 : Nat) (List.map bI (sizF L)))], ids := [(902 : Nat), (903 : Nat), (904 : Nat), (905 : Nat)] }] (by kernel_rfl)
    (by
      simp only [allP]
      and_intros <;> first
        | omega
        | exact cAlive
        | exact hl
        | exact hd
        | exact cDepths L (by omega)
        | exact cOrder L (by omega)
        | exact cSizes L (by omega)
        | exact flatI _
        | exact flatX _
        | (simp [depF_len, hL]; done)
        | (simp [sizF_len, hL]; done)
        | (simp [ho]; done)
        | (simp [bI]; done)
        | (simp [bB]; done)
        | (simp; omega))

theorem tcM (n : Nat) (O : List Int) (L : List Sp) (H : List Bool) (W : List Int) (h0 : 1 ≤ n) (h1 : n ≤ 40) (h2 : n ≤ O.length) (hL : L.length = n) (ho : (ordX L).length = n) (hl : LoopC Try.prog 0 135 tcB (tcS n O (List.replicate n zrow) (List.replicate n false) (List.replicate n 0) 0) (.exit 0) (tcS n O (L.map Sp.row) H W n)) (hd : LoopC Try.prog 0 135 tdB (tdS n L W 0) (.exit 4) (tdS n L W n)) : Contract Try.prog 6 [I (n : Int), .sl 1 (O.map bI)] [] (Bo true) [] := by
  exact Contract.cast (by
    first
      | rfl) (by
    first
      | rfl) (tcM_0 n O L H W h0 h1 h2 hL ho hl hd )

end Go.Proofs.Ythhggnnfiohnpaa

