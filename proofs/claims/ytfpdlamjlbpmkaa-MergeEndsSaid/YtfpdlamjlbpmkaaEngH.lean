/- The engine, part H: stores. -/
import Derived.Test.YtfpdlamjlbpmkaaEngG
namespace Go.Proofs.Ytfpdlamjlbpmkaa.E
open Go
set_option linter.unusedSimpArgs false

theorem run_storeCells_free (P : Program) (g o : Nat) (t : TypeId) (fz : Nat × Nat) : ∀ (vs : List Value) (i : Nat) (cur : Array Value) (w : World), w.heap[g]? = some (.cells cur t fz) → Free fz cur.size → o + i + vs.length ≤ cur.size → (∀ v ∈ vs, v.oneCell' = true) →
    (storeCells ⟨g, o, none⟩ vs i).run P w = .ok () (w.setRow g (cur.toList.take (o + i) ++ vs ++ cur.toList.drop (o + i + vs.length)).toArray)
  | [], i, cur, w, hg, _, _, _ => by
    simp only [storeCells, List.append_nil, List.length_nil, Nat.add_zero, List.take_append_drop, Array.toArray_toList]
    rw [setRow_self w g cur t fz hg]
    rfl
  | v :: rest, i, cur, w, hg, hfz, hl, h1 => by
    have hi : o + i < cur.size := by simp at hl; omega
    have hcell : w.cell? ⟨g, o + i, none⟩ = some cur[o + i] := by simp [World.cell?, hg, hi]
    have hfro : w.frozen? ⟨g, o + i, none⟩ = false := by
      have := hfz (o + i) hi
      simp only [World.frozen?, hg]
      rw [Bool.and_eq_false_iff, decide_eq_false_iff_not, decide_eq_false_iff_not]
      by_cases h : fz.1 ≤ o + i
      · exact .inr fun h2 => this ⟨h, h2⟩
      · exact .inl h
    have hst : (store ((⟨g, o, none⟩ : Addr).add i) v).run P w = .ok () (w.setRow g (cur.setIfInBounds (o + i) v)) := by
      rw [add_plain, run_store P w _ v _ (h1 v (by simp)), hcell]
      simp [hfro, setCell_eq_setRow w g (o + i) cur t fz v hg]
    have ih := run_storeCells_free P g o t fz rest (i + 1) (cur.setIfInBounds (o + i) v) (w.setRow g (cur.setIfInBounds (o + i) v)) (setRow_heap w g cur _ t _ hg) (by simpa using hfz) (by simp at hl ⊢; omega) (fun x hx => h1 x (by simp [hx]))
    simp only [storeCells, Sem.run_bind, hst, Result.andThen_ok, ih, setRow_setRow]
    congr 3
    have e := list_seg_step cur.toList (o + i) v rest (by simp at hl ⊢; omega)
    simpa [Array.toList_setIfInBounds, Nat.add_assoc] using e

theorem repCells_eq {w w' : World} {G G' : Nat → Prop} (hG : ∀ b, G b → G' b ∧ w'.heap[b]? = w.heap[b]?) {b : Nat} : ∀ {cs : List V} {p : Nat}, (∀ i, i < cs.length → w'.cell? ⟨b, p + i, none⟩ = w.cell? ⟨b, p + i, none⟩) → repCells w G b p cs → repCells w' G' b p cs
  | [], _, _, _ => by simp only [repCells]
  | c :: cs, p, hc, h => by
    simp only [repCells] at h ⊢
    obtain ⟨⟨x, hx, h1, hr⟩, h⟩ := h
    refine ⟨⟨x, by have := hc 0 (by simp); simp only [Nat.add_zero] at this; rw [this]; exact hx, h1, repI_mono hG c x hr⟩, repCells_eq hG (fun i hi => ?_) h⟩
    have := hc (i + 1) (by simp; omega)
    rwa [show p + (i + 1) = p + 1 + i by omega] at this

/-- Writing some cells of a block. -/
def splicedA (cur : Array Value) (o : Nat) (vs : List Value) : Array Value := (cur.toList.take o ++ vs ++ cur.toList.drop (o + vs.length)).toArray

theorem splicedA_get {cur : Array Value} {o : Nat} {vs : List Value} (h : o + vs.length ≤ cur.size) (j : Nat) : (splicedA cur o vs)[j]? = if o ≤ j ∧ j < o + vs.length then vs[j - o]? else cur[j]? := by
  unfold splicedA
  simp only [List.getElem?_toArray, List.append_assoc]
  have hlen : (cur.toList.take o).length = o := by simp; omega
  by_cases h1 : j < o
  · rw [List.getElem?_append_left (by omega), List.getElem?_take_of_lt h1, if_neg (by omega)]; simp
  · rw [List.getElem?_append_right (by omega), hlen]
    by_cases h2 : j < o + vs.length
    · rw [List.getElem?_append_left (by omega), if_pos ⟨by omega, h2⟩]
    · rw [List.getElem?_append_right (by omega), if_neg (by omega), List.getElem?_drop, show o + vs.length + (j - o - vs.length) = j by omega]; simp

theorem splicedA_size {cur : Array Value} {o : Nat} {vs : List Value} (h : o + vs.length ≤ cur.size) : (splicedA cur o vs).size = cur.size := by
  unfold splicedA; simp; omega

theorem run_storeVar {P : Program} {w : World} {t u : TypeId} {n b o : Nat} {cur : Array Value} {fz : Nat × Nat} {x : Value} (hn : szOf P t = some n) (hx : x.cells.toList.length = n) (h1 : ∀ y ∈ x.cells.toList, y.oneCell' = true)
    (hg : w.heap[b]? = some (.cells cur u fz)) (hfz : Free fz cur.size) (hl : o + x.cells.toList.length ≤ cur.size) :
    (storeVar t ⟨b, o, none⟩ x).run P w = .ok () (w.setRow b (splicedA cur o x.cells.toList)) := by
  have hs : ¬ x.cells.size ≠ n := by simp at hx ⊢; exact hx
  have := run_storeCells_free P b o u fz x.cells.toList 0 cur w hg hfz (by simpa using hl) h1
  simp only [storeVar, Sem.run_bind, szOf_run hn w, Result.andThen_ok, if_neg hs]
  simpa [splicedA] using this

theorem Ext.setRow {base : Nat} {X G : Nat → Prop} {w : World} {b : Nat} {cs : Array Value} (hb : base ≤ b ∨ X b) (hG : ¬ G b) : Ext base X G w G (w.setRow b cs) :=
  ⟨rfl, rfl, rfl, by simp, fun k hk hx => setRow_other w b k cs (fun e => by subst e; rcases hb with h | h; omega; exact hx h), fun k hk => ⟨hk, setRow_other w b k cs (fun e => hG (e ▸ hk))⟩, fun _ h => .inl h⟩

theorem evStore_res {P : Program} {base : Nat} {X G : Nat → Prop} {τ : Nat → Gh} {st : Nat → Option E.Obj} {w : World} {ids : List Nat} {ans : List Ans} {t : TypeId} {a v : V} {x y : Value} {e : Eff} {rs : List Nat}
    (hm : Mem base X G τ st w) (ha : a.rep w G τ x) (hv : v.rep w G τ y) (h : (evStore P ans t a v).run st = some (e, rs)) (hp : ∀ p ∈ e.obs, p) :
    OpRes P base X ids G τ st w (do Instr.storeAt t x y; pure Next.skip) e := by
  unfold evStore at h
  split at h
  · rename_i id m row off cs n hcs hn
    cases hsz : cs.length == n with
    | false => simp [hsz, T.run] at h
    | true =>
      simp only [hsz, cond_true] at h
      obtain ⟨hcr, hc1, _, hcids⟩ := cells_rep hcs hv
      have hyl : y.cells.toList.length = n := by rw [← repL_length hcr]; simpa using hsz
      simp only [V.rep] at ha
      obtain ⟨b, hb, rfl⟩ := ha
      obtain ⟨o, r, ho, hh, _⟩ := run_ask h
      clear h
      have h := hh
      clear hh
      have hok := hm.ok id o ho
      have hnG := (Obj.ok_blk hok hb).1
      have hown := hm.own id o b ho hb
      split at h
      · rename_i cells
        cases hz : row == 0 with
        | false => simp [hz, T.run] at h
        | true =>
          simp only [hz, cond_true] at h
          split at h
          · rename_i cells' hsp
            simp only [T.run, Option.some.injEq, Prod.mk.injEq] at h
            obtain ⟨rfl, _⟩ := h
            have hrow : row = 0 := by simpa using hz
            subst hrow
            simp only [Obj.ok, rowsOk] at hok
            obtain ⟨b', xs, u, fz, e1, e2, _, e4, e5⟩ := hok
            rw [hb] at e1; cases e1
            obtain ⟨g1, rfl⟩ := splice_list hsp
            have hlx := repL_length e5
            have hly := repL_length hcr
            have hle : off + y.cells.toList.length ≤ xs.size := by simp at hlx; omega
            have hrun := run_storeVar (P := P) (o := off) hn hyl hc1 e2 e4 hle
            have hG' : ∀ k, G k → G k ∧ (w.setRow b (splicedA xs off y.cells.toList)).heap[k]? = w.heap[k]? := fun k hk => ⟨hk, setRow_other w b k _ (fun e => hnG (e ▸ hk))⟩
            refine ⟨Go.undef, w.setRow b (splicedA xs off y.cells.toList), G, τ, .inr ⟨run_u ?_, rfl⟩, by simp only [V.rep, V.repI], ?_, Ext.setRow hown hnG, fun _ _ => rfl⟩
            · simpa [Instr.storeAt, Instr.sureAddr] using hrun
            · refine Mem.set hm ho hb (by simp) (fun k hk => setRow_other w b k _ hk) ?_
              simp only [Obj.ok, rowsOk]
              refine ⟨b, _, u, fz, hb, setRow_heap w b xs _ u fz e2, hnG, by rw [splicedA_size hle]; exact e4, ?_⟩
              have : (splicedA xs off y.cells.toList).toList = xs.toList.take off ++ y.cells.toList ++ xs.toList.drop (off + cs.length) := by unfold splicedA; simp [hly]
              rw [this]
              have k1 := repL_mono hG' cells _ (fun _ _ => rfl) e5
              exact repL_append (repL_append (repL_take off k1) (repL_mono hG' cs _ (fun _ _ => rfl) hcr)) (repL_drop _ k1)
          · simp [T.run] at h
      · rename_i k rows
        cases hkm : k == m with
        | false => simp [hkm, T.run] at h
        | true =>
          simp only [hkm, cond_true] at h
          have hkm' : k = m := by simpa using hkm
          subst hkm'
          obtain ⟨⟨rc, ps⟩, r1, r2, h1, h2, _⟩ := T.run_bind_some h
          obtain ⟨⟨sc, kl⟩, r3, r4, h3, h4, _⟩ := T.run_bind_some h2
          simp only at h4
          split at h4
          · rename_i cells' hsp
            cases hcon : kl.contains id with
            | true => simp only [hcon, cond_true, T.run, reduceCtorEq] at h4
            | false =>
              simp only [hcon, cond_false, T.run, Option.some.injEq, Prod.mk.injEq] at h4
              obtain ⟨rfl, _⟩ := h4
              have hidk : id ∉ kl := by simpa using hcon
              have hrow := rowOf_res h1 hp
              obtain ⟨g1, rfl⟩ := splice_list hsp
              have hsr := settle_res hm kl h3 (fun _ hi => hi) hc1 (repL_fixRow hcr)
              have hsl := repIL_length hsr
              simp only [Obj.ok, rowsOk] at hok
              obtain ⟨q1, q2, hok⟩ := hok
              rcases hok with ⟨e1, _⟩ | ⟨b', xs, u, fz, e1, e2, e3, _, e5, e6, e7⟩
              · rw [hb] at e1; cases e1
              · rw [hb] at e1; cases e1
                obtain ⟨hrl, hrc⟩ := repRows_get e7 row rc hrow
                have hrlt : row < rows.length := (List.getElem?_eq_some_iff.1 hrow).1
                have hmul : (row + 1) * k ≤ (τ id).cap * k := Nat.mul_le_mul_right k (by omega)
                rw [Nat.add_mul, Nat.one_mul] at hmul
                have hle : row * k + off + y.cells.toList.length ≤ xs.size := by rw [e6]; omega
                have hrun := run_storeVar (P := P) (o := row * k + off) hn hyl hc1 e3 (e5.le (by omega)) hle
                have hmg := Mem.give hm kl
                have hstid : putSt st (kills kl) id = some (.arr k rows) := by rw [putSt_kills, if_neg hidk]; exact ho
                have hnG' : ¬ giveG G τ st kl b := (Obj.ok_blk (hmg.ok id _ hstid) hb).1
                have hG' : ∀ j, giveG G τ st kl j → giveG G τ st kl j ∧ (w.setRow b (splicedA xs (row * k + off) y.cells.toList)).heap[j]? = w.heap[j]? := fun j hj => ⟨hj, setRow_other w b j _ (fun e => hnG' (e ▸ hj))⟩
                have hG2 : ∀ j, G j → giveG G τ st kl j ∧ (w.setRow b (splicedA xs (row * k + off) y.cells.toList)).heap[j]? = w.heap[j]? := fun j hj => ⟨.inl hj, (hG' j (.inl hj)).2⟩
                refine ⟨Go.undef, w.setRow b (splicedA xs (row * k + off) y.cells.toList), giveG G τ st kl, τ, .inr ⟨run_u ?_, rfl⟩, by simp only [V.rep, V.repI], ?_, (Ext.give hm kl).trans (Ext.setRow (hmg.own id _ b hstid hb) hnG'), fun _ _ => rfl⟩
                · simpa [Instr.storeAt, Instr.sureAddr] using hrun
                · rw [putSt_append]
                  refine Mem.set hmg hstid hb (by simp) (fun j hj => setRow_other w b j _ hj) ?_
                  simp only [Obj.ok, rowsOk, List.length_set]
                  refine ⟨q1, q2, .inr ⟨b, _, u, fz, hb, e2, setRow_heap w b xs _ u fz e3, hnG', by rw [splicedA_size hle]; exact e5, by rw [splicedA_size hle]; exact e6, ?_⟩⟩
                  have hcell : ∀ j, (w.setRow b (splicedA xs (row * k + off) y.cells.toList)).cell? ⟨b, j, none⟩ = if row * k + off ≤ j ∧ j < row * k + off + y.cells.toList.length then y.cells.toList[j - (row * k + off)]? else w.cell? ⟨b, j, none⟩ := by
                    intro j
                    rw [cell_setRow_same w b j xs _ u fz e3, splicedA_get hle, cell_of_heap e3]
                  refine repRows_of fun i q hq => ?_
                  rw [List.getElem?_set] at hq
                  by_cases hir : row = i
                  · subst hir
                    rw [if_pos rfl, if_pos hrlt] at hq
                    cases hq
                    refine ⟨by simp; omega, ?_⟩
                    have hlt1 : (rc.take off).length = off := by simp; omega
                    have hrc2 : repCells w G b (row * k) (rc.take off ++ rc.drop off) := by rw [List.take_append_drop]; simpa using hrc
                    rw [repCells_append, hlt1] at hrc2
                    have hdrop : rc.drop off = (rc.drop off).take sc.length ++ rc.drop (off + sc.length) := by rw [← List.drop_drop, List.take_append_drop]
                    have hrc3 := hrc2.2
                    rw [hdrop, repCells_append] at hrc3
                    have hlt2 : ((rc.drop off).take sc.length).length = sc.length := by simp; omega
                    rw [hlt2] at hrc3
                    simp only [Nat.zero_add]
                    rw [List.append_assoc, repCells_append, repCells_append, hlt1]
                    refine ⟨repCells_eq hG2 (fun i hi => ?_) hrc2.1, repCells_of _ (repIL_mono hG' hsr) (fun i z hz => ?_), repCells_eq hG2 (fun i hi => ?_) hrc3.2⟩
                    · rw [hcell, if_neg (by rw [hlt1] at hi; omega)]
                    · have hi : i < y.cells.toList.length := (List.getElem?_eq_some_iff.1 hz).1
                      rw [hcell, if_pos ⟨by omega, by omega⟩, show row * k + off + i - (row * k + off) = i by omega]; exact hz
                    · rw [hcell, if_neg (by omega)]
                  · rw [if_neg hir] at hq
                    obtain ⟨hql, hqc⟩ := repRows_get e7 i q hq
                    refine ⟨hql, repCells_eq hG2 (fun j hj => ?_) hqc⟩
                    rw [hcell, if_neg]
                    rintro ⟨p1, p2⟩
                    rcases Nat.lt_or_gt_of_ne hir with hlt | hlt
                    · have : (row + 1) * k ≤ i * k := Nat.mul_le_mul_right k hlt
                      rw [Nat.add_mul] at this; omega
                    · have : (i + 1) * k ≤ row * k := Nat.mul_le_mul_right k hlt
                      rw [Nat.add_mul] at this; omega
          · simp [T.run] at h4
      · simp [T.run] at h
  · simp [T.run] at h

end Go.Proofs.Ytfpdlamjlbpmkaa.E
