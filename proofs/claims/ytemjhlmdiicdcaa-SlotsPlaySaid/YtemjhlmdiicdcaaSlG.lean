/- slots: of two ways to put an exemplar, that they are one. -/
import Derived.Test.YtemjhlmdiicdcaaSlF
namespace Go.Proofs.Ytemjhlmdiicdcaa
open E
set_option maxRecDepth 100000

theorem orI_zero {a b : Int} : orI a b = 0 ↔ a = 0 ∧ b = 0 := by
  unfold orI
  cases h : a != 0 with
  | true =>
    have h' : a ≠ 0 := by simpa using h
    simp only [cond_true]
    exact ⟨fun e => absurd e h', fun e => absurd e.1 h'⟩
  | false =>
    have h' : a = 0 := by simpa using h
    simp [h']
theorem cmpE_zero {a b : Em} : cmpE a b = 0 ↔ a.svc = b.svc ∧ a.op = b.op := by
  unfold cmpE
  rw [orI_zero, cmpS_zero, cmpS_zero]
theorem sameK_iff {s o : ByteArray} {x : Em} : sameK s o x = true ↔ x.svc = s ∧ x.op = o := by
  unfold sameK
  rw [Bool.and_eq_true, beq_iff_eq, beq_iff_eq]
  exact ⟨fun h => ⟨toList_inj h.1, toList_inj h.2⟩, fun h => ⟨by rw [h.1], by rw [h.2]⟩⟩
theorem sameK_cmp {x e : Em} : sameK e.svc e.op x = true ↔ cmpE x e = 0 := by rw [sameK_iff, cmpE_zero]
theorem aheadE_iff {x e : Em} : aheadE x e = true ↔ cmpE x e < 0 := by
  unfold aheadE cmpE orI
  rcases cmpS_cases x.svc e.svc with ⟨h, k⟩ | ⟨h, k⟩ | ⟨h, k⟩
  · rw [h, k]; simp
  · rw [h, k, ltS_irrefl]; simp [cmpS_neg]
  · have : ltS x.svc e.svc = false := ltS_asymm k
    have hne : (x.svc.toList == e.svc.toList) = false := by
      rw [beq_eq_false_iff_ne]
      intro hh
      rw [toList_inj hh, ltS_irrefl] at k
      cases k
    rw [h, this, hne]; simp

theorem atE_eq (e : Em) : ∀ l : List Em, atE l e = aheadN l e
  | [] => by simp [atE, aheadN]
  | x :: xs => by
    have ih := atE_eq e xs
    unfold atE aheadN at ih ⊢
    rw [List.findIdx?_cons, List.takeWhile_cons]
    unfold pPut at ih ⊢
    cases h : aheadE x e with
    | true =>
      have := aheadE_iff.1 h
      have h2 : decide (0 ≤ cmpE x e) = false := decide_eq_false (by omega)
      simp only [h2, Bool.false_eq_true, if_false, if_true, List.length_cons]
      rw [← ih]
      cases List.findIdx? (fun y => decide (0 ≤ cmpE y e)) xs <;> simp
    | false =>
      have h2 : decide (0 ≤ cmpE x e) = true := by
        apply decide_eq_true
        have : ¬ cmpE x e < 0 := fun hh => by rw [aheadE_iff.2 hh] at h; cases h
        omega
      simp [h2]

/-- How many there are of an exemplar's service and operation. -/
def zN (e : Em) (l : List Em) : Nat := (l.filter (sameK e.svc e.op)).length
theorem zN_append (e : Em) (a b : List Em) : zN e (a ++ b) = zN e a + zN e b := by simp [zN]
theorem zN_cons (e x : Em) (b : List Em) : zN e (x :: b) = (if sameK e.svc e.op x = true then 1 else 0) + zN e b := by
  unfold zN
  rw [List.filter_cons]
  split <;> simp [Nat.add_comm]
theorem zN_nil (e : Em) : zN e [] = 0 := rfl

def noneOf (e : Em) (l : List Em) : Prop := ∀ x ∈ l, sameK e.svc e.op x = false
theorem zN_none {e : Em} {l : List Em} (h : noneOf e l) : zN e l = 0 := by
  unfold zN
  rw [List.filter_eq_nil_iff.2 fun x hx => by simp [h x hx]]
  rfl
theorem none_of_zN {e : Em} {l : List Em} (h : zN e l = 0) : noneOf e l := by
  intro x hx
  unfold zN at h
  have := List.filter_eq_nil_iff.1 (List.eq_nil_of_length_eq_zero h) x hx
  simpa using this

theorem split1 (e : Em) : ∀ l : List Em, noneOf e l ∨ ∃ a x b, l = a ++ x :: b ∧ noneOf e a ∧ sameK e.svc e.op x = true
  | [] => .inl fun x hx => by simp at hx
  | y :: l => by
    cases h : sameK e.svc e.op y with
    | true => exact .inr ⟨[], y, l, rfl, fun x hx => by simp at hx, h⟩
    | false =>
      rcases split1 e l with k | ⟨a, x, b, rfl, k1, k2⟩
      · left
        intro x hx
        rcases List.mem_cons.1 hx with rfl | hx
        · exact h
        · exact k x hx
      · right
        refine ⟨y :: a, x, b, rfl, ?_, k2⟩
        intro z hz
        rcases List.mem_cons.1 hz with rfl | hz
        · exact h
        · exact k1 z hz

theorem scan_no (e : Em) : ∀ (a r : List Em) (i c last : Nat), noneOf e a → scanE e (a ++ r) i c last = scanE e r (i + a.length) c last
  | [], r, i, c, last, _ => by simp
  | x :: a, r, i, c, last, h => by
    have hx : ¬ cmpE x e = 0 := fun hh => by rw [← sameK_cmp, h x (by simp)] at hh; cases hh
    rw [List.cons_append, scanE, if_neg hx, scan_no e a r (i + 1) c last fun y hy => h y (by simp [hy]), List.length_cons]
    congr 1
    omega
theorem scan_yes (e x : Em) (r : List Em) (i c last : Nat) (h : sameK e.svc e.op x = true) : scanE e (x :: r) i c last = scanE e r (i + 1) (c + 1) i := by
  rw [scanE, if_pos (sameK_cmp.1 h)]
theorem scan_end (e : Em) (a : List Em) (i c last : Nat) (h : noneOf e a) : scanE e a i c last = (c, last) := by
  have := scan_no e a [] i c last h
  rw [List.append_nil] at this
  rw [this, scanE]
theorem keep2_no (e : Em) : ∀ (a r : List Em) (n : Nat), noneOf e a → keep2 e (a ++ r) n = a ++ keep2 e r n
  | [], r, n, _ => rfl
  | x :: a, r, n, h => by
    rw [List.cons_append, keep2, h x (by simp), cond_false, keep2_no e a r n fun y hy => h y (by simp [hy])]
    rfl
theorem keep2_end (e : Em) (a : List Em) (n : Nat) (h : noneOf e a) : keep2 e a n = a := by
  have := keep2_no e a [] n h
  rw [List.append_nil] at this
  rw [this, keep2, List.append_nil]

def few (l : List Em) : Prop := ∀ e, zN e l ≤ 2

theorem same_as {e x d : Em} (h : sameK e.svc e.op x = true) : sameK d.svc d.op x = sameK d.svc d.op e := by
  obtain ⟨h1, h2⟩ := sameK_iff.1 h
  unfold sameK
  rw [h1, h2]
theorem zN_same {e d : Em} (h : sameK d.svc d.op e = true) (l : List Em) : zN d l = zN e l := by
  obtain ⟨h1, h2⟩ := sameK_iff.1 h
  unfold zN
  rw [← h1, ← h2]

theorem tw_mem {α : Type} {p : α → Bool} : ∀ {l : List α} {x : α}, x ∈ l.takeWhile p → p x = true
  | [], x, h => by simp at h
  | y :: l, x, h => by
    rw [List.takeWhile_cons] at h
    cases hp : p y with
    | true =>
      rw [hp, if_pos rfl] at h
      rcases List.mem_cons.1 h with rfl | h
      · exact hp
      · exact tw_mem h
    | false => rw [hp] at h; simp at h

theorem put_one {l : List Em} (e : Em) (hf : few l) : putE l e = putR l e ∧ few (putE l e) := by
  have hN := aheadN_le l e
  have htake : l.take (aheadN l e) = l.takeWhile (fun y => aheadE y e) := (List.prefix_iff_eq_take.1 (List.takeWhile_prefix _)).symm
  have h1 : noneOf e (l.take (aheadN l e)) := by
    rw [htake]
    intro x hx
    have := tw_mem hx
    have h2 := aheadE_iff.1 this
    cases hs : sameK e.svc e.op x with
    | false => rfl
    | true => rw [sameK_cmp] at hs; omega
  have hl : l = l.take (aheadN l e) ++ l.drop (aheadN l e) := (List.take_append_drop _ _).symm
  have hself : sameK e.svc e.op e = true := sameK_iff.2 ⟨rfl, rfl⟩
  unfold putE putR insE
  rw [atE_eq]
  generalize hL1 : l.take (aheadN l e) = L1 at *
  generalize hL2 : l.drop (aheadN l e) = L2 at *
  have hz : ∀ d, zN d L1 + zN d L2 ≤ 2 := fun d => by rw [← zN_append, ← hl]; exact hf d
  have hz1 : zN e L1 = 0 := zN_none h1
  simp only
  rw [scan_no e L1 (e :: L2) 0 0 0 h1, scan_yes e e L2 _ _ _ hself]
  have cons_few : ∀ {M : List Em}, (∀ d, zN d M = zN d L1 + zN d L2 + (if sameK d.svc d.op e = true then 1 else 0)) → zN e L2 ≤ 1 → few M := by
    intro M hM h2 d
    rw [hM d]
    cases hs : sameK d.svc d.op e with
    | false => simpa using hz d
    | true =>
      have e1 := zN_same hs L1
      have e2 := zN_same hs L2
      simp only [if_true]
      omega
  have hm : ∀ d, zN d (L1 ++ e :: L2) = zN d L1 + zN d L2 + (if sameK d.svc d.op e = true then 1 else 0) := fun d => by rw [zN_append, zN_cons]; omega
  rcases split1 e L2 with k | ⟨a, x, r, rfl, ka, kx⟩
  · rw [scan_end e L2 _ _ _ k, keep2_end e L2 _ k]
    simp only
    rw [if_neg (by omega)]
    exact ⟨by simp, cons_few hm (by rw [zN_none k]; omega)⟩
  · rw [scan_no e a (x :: r) _ _ _ ka, scan_yes e x r _ _ _ kx, keep2_no e a (x :: r) _ ka]
    have hkx : keep2 e (x :: r) 1 = x :: keep2 e r 2 := by rw [keep2, kx, cond_true, if_neg (by omega)]
    rw [hkx]
    rcases split1 e r with k | ⟨b, y, c, rfl, kb, ky⟩
    · rw [scan_end e r _ _ _ k, keep2_end e r _ k]
      simp only
      rw [if_neg (by omega)]
      refine ⟨by simp, cons_few hm ?_⟩
      rw [zN_append, zN_cons, kx, zN_none ka, zN_none k]
      simp
    · have hc : noneOf e c := by
        apply none_of_zN
        have := hz e
        rw [zN_append, zN_cons, zN_append, zN_cons, kx, ky] at this
        simp only [if_true] at this
        omega
      have hky : keep2 e (y :: c) 2 = c := by rw [keep2, ky, cond_true, if_pos (by omega), keep2_end e c _ hc]
      rw [scan_no e b (y :: c) _ _ _ kb, scan_yes e y c _ _ _ ky, scan_end e c _ _ _ hc, keep2_no e b (y :: c) _ kb, hky]
      simp only
      rw [if_pos (by omega)]
      have hdel : delE (L1 ++ e :: (a ++ x :: (b ++ y :: c))) (0 + L1.length + 1 + a.length + 1 + b.length) = L1 ++ [e] ++ (a ++ x :: (b ++ c)) := by
        have e0 : L1 ++ e :: (a ++ x :: (b ++ y :: c)) = (L1 ++ [e] ++ a ++ [x] ++ b) ++ y :: c := by simp
        have el : 0 + L1.length + 1 + a.length + 1 + b.length = (L1 ++ [e] ++ a ++ [x] ++ b).length := by simp; omega
        unfold delE
        rw [e0, el, List.take_left', List.drop_append]
        · rw [List.drop_of_length_le (by omega)]
          simp
        · rfl
      rw [hdel]
      refine ⟨by simp, ?_⟩
      intro d
      have h5 := hz d
      have h6 : zN d [e] = if sameK d.svc d.op e = true then 1 else 0 := by rw [zN_cons, zN_nil]; omega
      have h7 := same_as (d := d) ky
      rw [zN_append, zN_append, h6, zN_append, zN_cons, zN_append]
      rw [zN_append, zN_cons, zN_append, zN_cons, h7] at h5
      omega

theorem puts_one : ∀ (es l : List Em), few l → es.foldl putE l = es.foldl putR l ∧ few (es.foldl putE l)
  | [], l, h => ⟨rfl, h⟩
  | e :: es, l, h => by
    obtain ⟨h1, h2⟩ := put_one e h
    obtain ⟨k1, k2⟩ := puts_one es (putE l e) h2
    rw [List.foldl_cons, List.foldl_cons, ← h1]
    exact ⟨k1, k2⟩
theorem few_filter {l : List Em} (p : Em → Bool) (h : few l) : few (l.filter p) := by
  intro e
  refine Nat.le_trans ?_ (h e)
  unfold zN
  rw [List.filter_filter, show (fun a => sameK e.svc e.op a && p a) = (fun a => p a && sameK e.svc e.op a) from funext fun a => Bool.and_comm _ _, ← List.filter_filter]
  exact List.length_filter_le _ _
theorem few_mov {l : List Em} (a b : Int) (h : few l) : few (l.map (movE a b)) := by
  intro e
  refine Nat.le_trans (Nat.le_of_eq ?_) (h e)
  unfold zN
  rw [List.filter_map, List.length_map]
  congr 2
  funext x
  simp only [Function.comp, movE]
  cases x.block == a <;> rfl
end Go.Proofs.Ytemjhlmdiicdcaa
