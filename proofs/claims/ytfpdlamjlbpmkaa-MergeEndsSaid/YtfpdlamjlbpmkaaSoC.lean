/- sorting gleaning/api.Episode: merging in place, the law. -/
import Derived.Test.YtfpdlamjlbpmkaaSoB
import Derived.Test.YtfpdlamjlbpmkaaLibV
namespace Go.Proofs.Ytfpdlamjlbpmkaa
open E
set_option maxRecDepth 100000
set_option linter.unusedVariables false
set_option linter.unusedSimpArgs false

theorem soKin  (x : Ep) (R : List Ep) (i : Nat) : ∀ (B1 A : List Ep), i = A.length + B1.length + 1 → A.length + B1.length + R.length + 1 ≤ 1000000 →
    ∃ k, LoopC Try.prog 1 220 soKB (soK (A ++ x :: (B1 ++ R))  i A.length) (.exit 2) (soK (A ++ (B1 ++ x :: R))  i k)
  | [], A, hi, hs => ⟨A.length, by
      simp only [List.nil_append]
      exact LoopC.last (soKz _  i _ (by omega) (by simp at hi hs; omega) (by simp at hi; omega)) (by simp)⟩
  | y :: B1, A, hi, hs => by
    simp only [List.length_cons] at hi hs
    obtain ⟨k, hk⟩ := soKin  x R i B1 (A ++ [y]) (by simp; omega) (by simp; omega)
    refine ⟨k, ?_⟩
    have hr := soKgo A (B1 ++ R) x y  i A.length rfl (by omega) (by omega) (by simp; omega)
    rw [show (A ++ [y]).length = A.length + 1 by simp] at hk
    simp only [List.append_assoc, List.cons_append, List.nil_append] at hr hk ⊢
    exact LoopC.next hr hk
theorem soHin  (x : Ep) (A A2 : List Ep) : ∀ R : List Ep, A.length + A2.length + R.length + 1 ≤ 1000000 →
    ∃ k, LoopC Try.prog 1 220 soHB (soH (A ++ (A2 ++ x :: R))  A.length (A.length + A2.length)) (.exit 6) (soH (A ++ x :: (A2 ++ R))  A.length k) := by
  refine snoc_ind (P := fun A2 => ∀ R : List Ep, A.length + A2.length + R.length + 1 ≤ 1000000 →
    ∃ k, LoopC Try.prog 1 220 soHB (soH (A ++ (A2 ++ x :: R))  A.length (A.length + A2.length)) (.exit 6) (soH (A ++ x :: (A2 ++ R))  A.length k)) ?_ ?_ A2
  · intro R hs
    refine ⟨A.length, ?_⟩
    simp only [List.nil_append, List.length_nil, Nat.add_zero]
    exact LoopC.last (soHz _  _ _ (Nat.le_refl _)) (by simp)
  · intro A2 y ih R hs
    simp only [List.length_append, List.length_cons, List.length_nil] at hs ⊢
    obtain ⟨k, hk⟩ := ih (y :: R) (by simp; omega)
    refine ⟨k, ?_⟩
    have hr := soHgo (A ++ A2) R x y  A.length (A.length + (A2.length + 1)) (by simp; omega) (by omega) (by simp; omega)
    rw [show (A ++ A2).length = A.length + A2.length by simp] at hr
    simp only [List.append_assoc, List.cons_append, List.nil_append] at hr hk ⊢
    exact LoopC.next hr hk
/-- One before a part. -/
theorem soSym1  (ho : Swo (soLt )) (P : List Ep) (x : Ep) (B Q : List Ep) (a m b : Nat) (hB : Srt (soLt ) B) (ha : a = P.length) (hm : m = P.length + 1) (hb : b = P.length + 1 + B.length) (hs : P.length + 1 + B.length + Q.length ≤ 500000) :
    Contract Try.prog 42 [.own 0, I ((a : Nat) : Int), I ((m : Nat) : Int), I ((b : Nat) : Int), .clo (.func 30) [] []] [.arr 6 ((P ++ [x] ++ B ++ Q).map Ep.row)] (.tup []) [some (.arr 6 ((P ++ mrg (soLt ) [x] B ++ Q).map Ep.row))] := by
  have hat : ∀ h, m ≤ h → h < b → ∃ z, (P ++ [x] ++ B ++ Q)[h]? = some z ∧ B[h - m]? = some z := fun h h1 h2 => by
    have := at_snd (P := P) (A := [x]) (B := B) (Q := Q) (h := h) (by simp; omega) (by simp; omega)
    simpa [← hm] using this
  have hx : (P ++ [x] ++ B ++ Q)[a]? = some x := by subst ha; simp
  obtain ⟨r, r1, r2, r3, r4, r5⟩ := LoopC.half (fun h => (B[h - m]?).elim false (fun z => (soLt ) z x)) (fun i j => soX (P ++ [x] ++ B ++ Q)  a m b i j) (e := .exit 0) (by simp) m b
    (fun i j h1 h2 h3 hp => by
      obtain ⟨z, z1, z2⟩ := hat j (by omega) h3
      obtain ⟨w, w1, w2⟩ := hat i h1 (by omega)
      simp only [z2, w2, Option.elim_some] at hp ⊢
      exact ho.lt_of_le_lt (Srt.le ho hB (by omega) w2 z2) hp)
    (fun i j h1 h2 h3 hp => by
      obtain ⟨z, z1, z2⟩ := hat ((i + j) / 2) (by omega) (by omega)
      simp only [z2, Option.elim_some] at hp
      exact soXgo _  a m b i j z x h2 (by omega) z1 hx hp)
    (fun i j h1 h2 h3 hp => by
      obtain ⟨z, z1, z2⟩ := hat ((i + j) / 2) (by omega) (by omega)
      simp only [z2, Option.elim_some] at hp
      exact soXba _  a m b i j z x h2 (by omega) z1 hx hp)
    (fun i h1 h2 => soXz _  a m b i i (Nat.le_refl _)) (by omega)
  obtain ⟨B1, B2, hB12, lB1, t1, t2⟩ : ∃ B1 B2, B = B1 ++ B2 ∧ B1.length = r - m ∧ (∀ y ∈ B1, (soLt ) y x = true) ∧ (∀ y ∈ B2, (soLt ) y x = false) :=
    ⟨B.take (r - m), B.drop (r - m), (List.take_append_drop _ _).symm, (by rw [List.length_take]; omega), all_take (fun k z hk hz => by
      have := r3 (m + k) (by omega) (by omega)
      simp only [show m + k - m = k by omega, hz, Option.elim_some] at this
      exact this), all_drop (fun k z hk hz => by
      have hk' := (List.getElem?_eq_some_iff.1 hz).1
      have := r4 (m + k) (by omega) (by omega)
      simp only [show m + k - m = k by omega, hz, Option.elim_some] at this
      exact this)⟩
  subst hB12
  simp only [List.length_append] at hb hs
  obtain ⟨k, hk⟩ := soKin  x (B2 ++ Q) r B1 P (by omega) (by simp; omega)
  rw [mrg_one_l ho B1 x B2 t1 t2]
  rw [← ha] at hk
  simp only [List.append_assoc, List.cons_append, List.nil_append] at r5 hk ⊢
  exact soS1 _ _  a m b r k (by omega) (by omega) (by omega) r5 hk
/-- One behind a part. -/
theorem soSym2  (ho : Swo (soLt )) (P : List Ep) (y : Ep) (A Q : List Ep) (a m b : Nat) (hA : Srt (soLt ) A) (h1 : A.length ≠ 1) (ha : a = P.length) (hm : m = P.length + A.length) (hb : b = P.length + A.length + 1) (hs : P.length + 1 + A.length + Q.length ≤ 500000) :
    Contract Try.prog 42 [.own 0, I ((a : Nat) : Int), I ((m : Nat) : Int), I ((b : Nat) : Int), .clo (.func 30) [] []] [.arr 6 ((P ++ A ++ [y] ++ Q).map Ep.row)] (.tup []) [some (.arr 6 ((P ++ mrg (soLt ) A [y] ++ Q).map Ep.row))] := by
  have hat : ∀ h, a ≤ h → h < m → ∃ z, (P ++ A ++ [y] ++ Q)[h]? = some z ∧ A[h - a]? = some z := fun h h1 h2 => by
    have := at_fst (P := P) (A := A) (B := [y]) (Q := Q) (h := h) (by omega) (by omega)
    rwa [← ha] at this
  have hy : (P ++ A ++ [y] ++ Q)[m]? = some y := by subst hm; simp
  obtain ⟨r, r1, r2, r3, r4, r5⟩ := LoopC.half (fun h => (A[h - a]?).elim false (fun z => !((soLt ) y z))) (fun i j => soY (P ++ A ++ [y] ++ Q)  a m b i j) (e := .exit 4) (by simp) a m
    (fun i j h1 h2 h3 hp => by
      obtain ⟨z, z1, z2⟩ := hat j (by omega) h3
      obtain ⟨w, w1, w2⟩ := hat i h1 (by omega)
      simp only [z2, w2, Option.elim_some, Bool.not_eq_true'] at hp ⊢
      exact ho.trans (Srt.le ho hA (by omega) w2 z2) hp)
    (fun i j h1 h2 h3 hp => by
      obtain ⟨z, z1, z2⟩ := hat ((i + j) / 2) (by omega) (by omega)
      simp only [z2, Option.elim_some, Bool.not_eq_true'] at hp
      exact soYgo _  a m b i j y z h2 (by omega) hy z1 hp)
    (fun i j h1 h2 h3 hp => by
      obtain ⟨z, z1, z2⟩ := hat ((i + j) / 2) (by omega) (by omega)
      simp only [z2, Option.elim_some, Bool.not_eq_false'] at hp
      exact soYba _  a m b i j y z h2 (by omega) hy z1 hp)
    (fun i h1 h2 => soYz _  a m b i i (Nat.le_refl _)) (by omega)
  obtain ⟨A1, A2, hA12, lA1, t1, t2⟩ : ∃ A1 A2, A = A1 ++ A2 ∧ A1.length = r - a ∧ (∀ z ∈ A1, (soLt ) y z = false) ∧ (∀ z ∈ A2, (soLt ) y z = true) :=
    ⟨A.take (r - a), A.drop (r - a), (List.take_append_drop _ _).symm, (by rw [List.length_take]; omega), all_take (fun k z hk hz => by
      have := r3 (a + k) (by omega) (by omega)
      simp only [show a + k - a = k by omega, hz, Option.elim_some, Bool.not_eq_true'] at this
      exact this), all_drop (fun k z hk hz => by
      have hk' := (List.getElem?_eq_some_iff.1 hz).1
      have := r4 (a + k) (by omega) (by omega)
      simp only [show a + k - a = k by omega, hz, Option.elim_some, Bool.not_eq_false'] at this
      exact this)⟩
  subst hA12
  simp only [List.length_append] at hb hs hm h1
  obtain ⟨k, hk⟩ := soHin  y (P ++ A1) A2 Q (by simp; omega)
  rw [mrg_one ho A1 y A2 t1 t2]
  rw [show (P ++ A1).length = r by simp; omega, show r + A2.length = m by omega] at hk
  simp only [List.append_assoc, List.cons_append, List.nil_append] at r5 hk ⊢
  exact soS2 _ _  a m b r k (by omega) (by omega) (by omega) (by omega) r5 hk
theorem soG (l l1 l2 l3 : List Ep)  (a m b mid s e lo hi : Nat) (hm : m ≠ a + 1) (hb : b ≠ m + 1) (ham : a < m) (hmb : m < b) (hs : b ≤ 500000) (hmid : mid = (a + b) / 2) (he : e = mid + m - s) (hse : s ≤ mid + m) (hL : mid < m → lo = mid + m - b ∧ hi = mid) (hM : ¬ mid < m → lo = a ∧ hi = m) (hl : LoopC Try.prog 1 220 soZB (soZ l  a m b mid (mid + m) lo hi (mid + m - 1)) (.exit 8) (soZ l  a m b mid (mid + m) s s (mid + m - 1))) (hR : s < m ∧ m < e → Contract Try.prog 46 [.own 0, I ((s : Nat) : Int), I ((m : Nat) : Int), I ((e : Nat) : Int), .clo (.func 30) [] []] [.arr 6 ((l).map Ep.row)] (.tup []) [some (.arr 6 ((l1).map Ep.row))]) (hR0 : ¬ (s < m ∧ m < e) → l1 = l) (hS : a < s ∧ s < mid → Contract Try.prog 42 [.own 0, I ((a : Nat) : Int), I ((s : Nat) : Int), I ((mid : Nat) : Int), .clo (.func 30) [] []] [.arr 6 ((l1).map Ep.row)] (.tup []) [some (.arr 6 ((l2).map Ep.row))]) (hS0 : ¬ (a < s ∧ s < mid) → l2 = l1) (hT : mid < e ∧ e < b → Contract Try.prog 42 [.own 0, I ((mid : Nat) : Int), I ((e : Nat) : Int), I ((b : Nat) : Int), .clo (.func 30) [] []] [.arr 6 ((l2).map Ep.row)] (.tup []) [some (.arr 6 ((l3).map Ep.row))]) (hT0 : ¬ (mid < e ∧ e < b) → l3 = l2) :
    Contract Try.prog 42 [.own 0, I ((a : Nat) : Int), I ((m : Nat) : Int), I ((b : Nat) : Int), .clo (.func 30) [] []] [.arr 6 ((l).map Ep.row)] (.tup []) [some (.arr 6 ((l3).map Ep.row))] := by
  have ht := soTT l l1 l2 l3  a m b mid s e hR hR0 hS hS0 hT hT0
  by_cases hmg : mid < m
  · obtain ⟨g1, g2⟩ := hL hmg
    rw [g1, g2] at hl
    exact soG1 _ _  a m b mid s e hm hb ham hmb (by omega) hmid hmg he hse hl ht
  · obtain ⟨g1, g2⟩ := hM hmg
    rw [g1, g2] at hl
    exact soG0 _ _  a m b mid s e hm hb ham hmb (by omega) hmid hmg he hse hl ht
/-- Two parts in order are merged in place. -/
theorem soSym  (ho : Swo (soLt )) : ∀ (d : Nat) (P A B Q : List Ep) (a m b : Nat), A.length + B.length ≤ d → 0 < A.length → 0 < B.length → Srt (soLt ) A → Srt (soLt ) B → a = P.length → m = P.length + A.length → b = P.length + A.length + B.length → P.length + A.length + B.length + Q.length ≤ 500000 →
    Contract Try.prog 42 [.own 0, I ((a : Nat) : Int), I ((m : Nat) : Int), I ((b : Nat) : Int), .clo (.func 30) [] []] [.arr 6 ((P ++ A ++ B ++ Q).map Ep.row)] (.tup []) [some (.arr 6 ((P ++ mrg (soLt ) A B ++ Q).map Ep.row))]
  | 0, P, A, B, Q, a, m, b, hd, hA, _, _, _, _, _, _, _ => by omega
  | d + 1, P, A, B, Q, a, m, b, hd, hA, hB, sA, sB, ha, hm, hb, hs => by
    by_cases c1 : A.length = 1
    · obtain ⟨x, rfl⟩ := List.length_eq_one_iff.1 c1
      exact soSym1  ho P x B Q a m b sB ha (by simpa using hm) (by simpa using hb) (by simpa using hs)
    by_cases c2 : B.length = 1
    · obtain ⟨y, rfl⟩ := List.length_eq_one_iff.1 c2
      exact soSym2  ho P y A Q a m b sA c1 ha hm (by simpa using hb) (by simp at hs; omega)
    have hfst : ∀ h, a ≤ h → h < m → ∃ z, (P ++ A ++ B ++ Q)[h]? = some z ∧ A[h - a]? = some z := fun h h1 h2 => by
      have := at_fst (P := P) (A := A) (B := B) (Q := Q) (h := h) (by omega) (by omega)
      rwa [← ha] at this
    have hsnd : ∀ h, m ≤ h → h < b → ∃ z, (P ++ A ++ B ++ Q)[h]? = some z ∧ B[h - m]? = some z := fun h h1 h2 => by
      have := at_snd (P := P) (A := A) (B := B) (Q := Q) (h := h) (by omega) (by omega)
      rwa [← hm] at this
    generalize hmid : (a + b) / 2 = mid
    obtain ⟨lo, hi, hL, hM, b1, b2, b3, b4, b5⟩ : ∃ lo hi : Nat, (mid < m → lo = mid + m - b ∧ hi = mid) ∧ (¬ mid < m → lo = a ∧ hi = m) ∧ a ≤ lo ∧ lo ≤ hi ∧ hi ≤ m ∧ m + hi ≤ mid + m ∧ mid + m ≤ lo + b := by
      by_cases hmg : mid < m
      · exact ⟨mid + m - b, mid, fun _ => ⟨rfl, rfl⟩, fun h => absurd hmg h, by omega, by omega, by omega, by omega, by omega⟩
      · exact ⟨a, m, fun h => absurd h hmg, fun _ => ⟨rfl, rfl⟩, by omega, by omega, by omega, by omega, by omega⟩
    obtain ⟨s, r1, r2, r3, r4, r5⟩ := LoopC.half (fun h => (A[h - a]?).elim false (fun x => (B[mid + m - 1 - h - m]?).elim false (fun y => !((soLt ) y x)))) (fun i j => soZ (P ++ A ++ B ++ Q)  a m b mid (mid + m) i j (mid + m - 1)) (e := .exit 8) (by simp) lo hi
      (fun i j h1 h2 h3 hp => by
        obtain ⟨x, x1, x2⟩ := hfst j (by omega) (by omega)
        obtain ⟨y, y1, y2⟩ := hsnd (mid + m - 1 - j) (by omega) (by omega)
        obtain ⟨z, z1, z2⟩ := hfst i (by omega) (by omega)
        obtain ⟨w, w1, w2⟩ := hsnd (mid + m - 1 - i) (by omega) (by omega)
        simp only [x2, y2, z2, w2, Option.elim_some, Bool.not_eq_true'] at hp ⊢
        exact ho.trans (ho.trans (Srt.le ho sA (by omega) z2 x2) hp) (Srt.le ho sB (by omega) y2 w2))
      (fun i j h1 h2 h3 hp => by
        obtain ⟨x, x1, x2⟩ := hfst ((i + j) / 2) (by omega) (by omega)
        obtain ⟨y, y1, y2⟩ := hsnd (mid + m - 1 - (i + j) / 2) (by omega) (by omega)
        simp only [x2, y2, Option.elim_some, Bool.not_eq_true'] at hp
        exact soZgo _  a m b mid (mid + m) i j (mid + m - 1) y x h2 (by omega) (by omega) (by omega) y1 x1 hp)
      (fun i j h1 h2 h3 hp => by
        obtain ⟨x, x1, x2⟩ := hfst ((i + j) / 2) (by omega) (by omega)
        obtain ⟨y, y1, y2⟩ := hsnd (mid + m - 1 - (i + j) / 2) (by omega) (by omega)
        simp only [x2, y2, Option.elim_some, Bool.not_eq_false'] at hp
        exact soZba _  a m b mid (mid + m) i j (mid + m - 1) y x h2 (by omega) (by omega) (by omega) y1 x1 hp)
      (fun i h1 h2 => soZz _  a m b mid (mid + m) i i (mid + m - 1) (Nat.le_refl _)) b2
    have k1 : ∀ i j x y, A[i]? = some x → B[j]? = some y → a + i < s → mid + m - s ≤ m + j → (soLt ) y x = false := fun i j x y hx hy g1 g2 => by
      have hj := (List.getElem?_eq_some_iff.1 hy).1
      by_cases hlo : s = lo
      · by_cases hmg : mid < m
        · have := hL hmg; omega
        · have := hM hmg; omega
      obtain ⟨x', x1, x2⟩ := hfst (s - 1) (by omega) (by omega)
      obtain ⟨y', y1, y2⟩ := hsnd (mid + m - 1 - (s - 1)) (by omega) (by omega)
      have hp := r3 (s - 1) (by omega) (by omega)
      simp only [x2, y2, Option.elim_some, Bool.not_eq_true'] at hp
      exact ho.trans (ho.trans (Srt.le ho sA (by omega) hx x2) hp) (Srt.le ho sB (by omega) y2 hy)
    have k2 : ∀ i j x y, A[i]? = some x → B[j]? = some y → s ≤ a + i → m + j < mid + m - s → (soLt ) y x = true := fun i j x y hx hy g1 g2 => by
      have hi' := (List.getElem?_eq_some_iff.1 hx).1
      by_cases hlo : s = hi
      · by_cases hmg : mid < m
        · have := hL hmg; omega
        · have := hM hmg; omega
      obtain ⟨x', x1, x2⟩ := hfst s (by omega) (by omega)
      obtain ⟨y', y1, y2⟩ := hsnd (mid + m - 1 - s) (by omega) (by omega)
      have hp := r4 s (by omega) (by omega)
      simp only [x2, y2, Option.elim_some, Bool.not_eq_false'] at hp
      exact ho.lt_of_lt_le (ho.lt_of_le_lt (Srt.le ho sB (by omega) hy y2) hp) (Srt.le ho sA (by omega) x2 hx)
    obtain ⟨A1, A2, B1, B2, hA12, hB12, lA1, lB1, sA1, sA2, sB1, sB2, t1, t2⟩ : ∃ A1 A2 B1 B2, A = A1 ++ A2 ∧ B = B1 ++ B2 ∧ A1.length = s - a ∧ B1.length = mid - s ∧ Srt (soLt ) A1 ∧ Srt (soLt ) A2 ∧ Srt (soLt ) B1 ∧ Srt (soLt ) B2 ∧ (∀ x ∈ A1, ∀ y ∈ B2, (soLt ) y x = false) ∧ (∀ y ∈ B1, ∀ x ∈ A2, (soLt ) y x = true) :=
      ⟨A.take (s - a), A.drop (s - a), B.take (mid - s), B.drop (mid - s), (List.take_append_drop _ _).symm, (List.take_append_drop _ _).symm, (by rw [List.length_take]; omega), (by rw [List.length_take]; omega),
        sA.take _, sA.drop _, sB.take _, sB.drop _,
        all_take (fun i x hi hx => all_drop (fun j y hj hy => k1 i j x y hx hy (by omega) (by omega))),
        all_take (fun j y hj hy => all_drop (fun i x hi hx => k2 i j x y hx hy (by omega) (by omega)))⟩
    subst hA12 hB12
    simp only [List.length_append] at hd hA hB hm hb hs c1 c2
    rw [mrg_append ho A1 B1 A2 B2 t1 t2]
    refine soG _ (P ++ A1 ++ B1 ++ A2 ++ B2 ++ Q) (P ++ mrg (soLt ) A1 B1 ++ A2 ++ B2 ++ Q) _  a m b mid s (mid + m - s) lo hi (by omega) (by omega) (by omega) (by omega) (by omega) hmid.symm rfl (by omega) hL hM r5 ?_ ?_ ?_ ?_ ?_ ?_
    · intro q
      have := soRot  (P ++ A1) A2 B1 (B2 ++ Q) s m (mid + m - s) (by omega) (by omega) (by simp; omega) (by simp; omega) (by simp; omega) (by simp; omega)
      simp only [List.append_assoc, List.cons_append, List.nil_append] at this ⊢
      exact this
    · intro q
      have : A2 = [] ∨ B1 = [] := by
        rcases Nat.eq_zero_or_pos A2.length with h | h
        · exact .inl (List.eq_nil_of_length_eq_zero h)
        · rcases Nat.eq_zero_or_pos B1.length with h' | h'
          · exact .inr (List.eq_nil_of_length_eq_zero h')
          · exact absurd ⟨by omega, by omega⟩ q
      rcases this with rfl | rfl <;> simp
    · intro q
      have := soSym  ho d P A1 B1 (A2 ++ B2 ++ Q) a s mid (by omega) (by omega) (by omega) sA1 sB1 ha (by omega) (by omega) (by simp; omega)
      simp only [List.append_assoc, List.cons_append, List.nil_append] at this ⊢
      exact this
    · intro q
      have : A1 = [] ∨ B1 = [] := by
        rcases Nat.eq_zero_or_pos A1.length with h | h
        · exact .inl (List.eq_nil_of_length_eq_zero h)
        · rcases Nat.eq_zero_or_pos B1.length with h' | h'
          · exact .inr (List.eq_nil_of_length_eq_zero h')
          · exact absurd ⟨by omega, by omega⟩ q
      rcases this with rfl | rfl
      · rw [mrg_nil_l]; simp
      · rw [mrg_nil_r]; simp
    · intro q
      have := soSym  ho d (P ++ mrg (soLt ) A1 B1) A2 B2 Q mid (mid + m - s) b (by omega) (by omega) (by omega) sA2 sB2 (by simp [mrg_len]; omega) (by simp [mrg_len]; omega) (by simp [mrg_len]; omega) (by simp [mrg_len]; omega)
      simp only [List.append_assoc, List.cons_append, List.nil_append] at this ⊢
      exact this
    · intro q
      have : A2 = [] ∨ B2 = [] := by
        rcases Nat.eq_zero_or_pos A2.length with h | h
        · exact .inl (List.eq_nil_of_length_eq_zero h)
        · rcases Nat.eq_zero_or_pos B2.length with h' | h'
          · exact .inr (List.eq_nil_of_length_eq_zero h')
          · exact absurd ⟨by omega, by omega⟩ q
      rcases this with rfl | rfl
      · rw [mrg_nil_l]; simp
      · rw [mrg_nil_r]; simp
end Go.Proofs.Ytfpdlamjlbpmkaa
