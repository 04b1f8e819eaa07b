/- rollup: the plain law: what a row counts. -/
import Derived.Test.YtigakemkanobaaaRwP
namespace Go.Proofs.Ytigakemkanobaaa
open E
set_option linter.unusedVariables false
set_option linter.unusedSimpArgs false

/-- Whether a span is one of a row's. -/
def hitB (r : Rw) (s : Sp) : Bool := rightS s && s.svc.toList == r.svc.toList && s.op.toList == r.op.toList && decide (winW r.lev s.start = r.win)
def oneS (s : Sp) (k : Nat) : Int := oneF (ofR s.dur) s.err k
def bumps (m : Int) (es : List (Rw × Sp)) (r : Rw) : Rw := es.foldl (fun z e => bumpR e.2 m z) r

theorem bumps_key (m : Int) : ∀ (es : List (Rw × Sp)) (r : Rw), (bumps m es r).lev = r.lev ∧ (bumps m es r).win = r.win ∧ (bumps m es r).svc = r.svc ∧ (bumps m es r).op = r.op
  | [], r => ⟨rfl, rfl, rfl, rfl⟩
  | e :: es, r => bumps_key m es (bumpR e.2 m r)
theorem bumps_c {m : Int} (hm : inI m) (k : Nat) : ∀ (es : List (Rw × Sp)) (r : Rw), (bumps m es r).c k = (es.map fun e => oneS e.2 k).foldl (fun v x => plusN v x m) (r.c k)
  | [], r => rfl
  | e :: es, r => by
    show (bumps m es (bumpR e.2 m r)).c k = _
    rw [bumps_c hm k es]
    show _ = (es.map fun e => oneS e.2 k).foldl (fun v x => plusN v x m) (plusN (r.c k) (oneS e.2 k) m)
    congr 1
    exact cntF_eq hm r.c e.2 k

/-- The events of a row's key are its spans, at its level. -/
theorem ev_filter (r : Rw) (hv : r.lev = 0 ∨ r.lev = 1 ∨ r.lev = 2) (l : List Sp) : (l.flatMap evR).filter (fun e => cmpR e.1 r == 0) = (l.filter (hitB r)).map fun s => (keyR s r.lev, s) := by
  have hk : ∀ (s : Sp) (v : Int), (cmpR (keyR s v) r == 0) = (decide (v = r.lev) && (decide (winW v s.start = r.win) && (s.svc.toList == r.svc.toList && s.op.toList == r.op.toList))) := by
    intro s v
    by_cases h : cmpR (keyR s v) r = 0
    · obtain ⟨h1, h2, h3, h4⟩ := cmpR_zero.1 h
      simp only [keyR] at h1 h2 h3 h4
      have ht : (cmpR (keyR s v) r == 0) = true := by simp [h]
      rw [ht]
      symm
      simp only [Bool.and_eq_true, decide_eq_true_eq, beq_iff_eq]
      exact ⟨h1, h2, by rw [h3], by rw [h4]⟩
    · have hf : (cmpR (keyR s v) r == 0) = false := by simp [h]
      rw [hf]
      symm
      rw [Bool.eq_false_iff]
      intro hc
      simp only [Bool.and_eq_true, decide_eq_true_eq, beq_iff_eq] at hc
      exact h (cmpR_zero.2 ⟨hc.1, hc.2.1, toList_inj hc.2.2.1, toList_inj hc.2.2.2⟩)
  induction l with
  | nil => rfl
  | cons s l ih =>
    rw [List.flatMap_cons, List.filter_append, ih, List.filter_cons]
    unfold evR hitB
    cases hr : rightS s with
    | false => simp
    | true =>
      simp only [cond_true, List.filter_cons, List.filter_nil, hk, Bool.true_and]
      rcases hv with h | h | h <;> rw [h] <;> cases a : (s.svc.toList == r.svc.toList) <;> cases b : (s.op.toList == r.op.toList) <;> simp <;> (repeat' split) <;> simp_all

theorem getK_rows {m : Int} (l : List Sp) (d : Rw) : getK cmpR (rowsR l m) d = match (l.flatMap evR).filter (fun e => cmpR e.1 d == 0) with
    | [] => none
    | e :: es => some (bumps m (e :: es) e.1) := by
  rw [rowsR_eq]
  have h := (getK_fold ordR (β := Rw × Sp) (fun e => e.1) (fun e => bumpR e.2 m) (fun e => keeps_bump _ _) d (l.flatMap evR) (fun e he f hf h => by
    obtain ⟨u, hu⟩ := ev_key he
    obtain ⟨v, hv⟩ := ev_key hf
    rw [hu, hv] at h ⊢
    exact key_same h)).2 d
  cases hf : (l.flatMap evR).filter (fun e => cmpR e.1 d == 0) with
  | nil => rw [hf] at h; exact h
  | cons e es => rw [hf] at h; exact h

theorem ev_lev {l : List Sp} {e : Rw × Sp} (h : e ∈ l.flatMap evR) : (e.1.lev = 0 ∨ e.1.lev = 1 ∨ e.1.lev = 2) ∧ rightS e.2 = true := by
  obtain ⟨s, _, h⟩ := List.mem_flatMap.1 h
  unfold evR at h
  cases hr : rightS s with
  | false => rw [hr] at h; simp at h
  | true =>
    rw [hr] at h
    simp at h
    rcases h with rfl | rfl | rfl <;> simp [keyR, hr]

/-- What a row has: spans, and what they count. -/
theorem row_is {m : Int} (hm : inI m) {l : List Sp} {r : Rw} (h : r ∈ rowsR l m) : (r.lev = 0 ∨ r.lev = 1 ∨ r.lev = 2) ∧ l.filter (hitB r) ≠ [] ∧
    ∀ k, r.c k = if (if 0 < m then m else 0) < ((l.filter (hitB r)).map fun s => oneS s k).sum then (if 0 < m then m else 0) else ((l.filter (hitB r)).map fun s => oneS s k).sum := by
  have hg := getK_self ordR (sorted_rows l m) h
  rw [getK_rows] at hg
  cases hf : (l.flatMap evR).filter (fun e => cmpR e.1 r == 0) with
  | nil => rw [hf] at hg; cases hg
  | cons e es =>
    rw [hf] at hg
    simp only [Option.some.injEq] at hg
    have he : e ∈ (l.flatMap evR).filter (fun e => cmpR e.1 r == 0) := by rw [hf]; simp
    obtain ⟨he1, he2⟩ := List.mem_filter.1 he
    have hz : cmpR e.1 r = 0 := by simpa using he2
    have hl := (cmpR_zero.1 hz).1
    have hv : r.lev = 0 ∨ r.lev = 1 ∨ r.lev = 2 := by rw [← hl]; exact (ev_lev he1).1
    have hef := ev_filter r hv l
    rw [hf] at hef
    refine ⟨hv, ?_, fun k => ?_⟩
    · intro hn; rw [hn] at hef; simp at hef
    · obtain ⟨v, hu⟩ := ev_key he1
      have h0 : e.1.c k = 0 := by rw [hu]; rfl
      have hc := bumps_c hm k (e :: es) e.1
      rw [hg, h0, hef] at hc
      rw [hc, plus_ones m _ 0 (fun x hx => ?_) (by omega) (by split <;> omega)]
      · simp only [List.map_map, Int.zero_add]
        rfl
      · simp only [List.map_map, List.mem_map] at hx
        obtain ⟨s, _, rfl⟩ := hx
        have := oneF_range (ofR s.dur) s.err k
        show oneF (ofR s.dur) s.err k = 0 ∨ oneF (ofR s.dur) s.err k = 1
        omega

end Go.Proofs.Ytigakemkanobaaa
