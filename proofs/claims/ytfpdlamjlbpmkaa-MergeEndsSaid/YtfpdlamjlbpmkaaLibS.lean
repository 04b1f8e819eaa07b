/- Strings in their order, and what is compared by several parts. -/
import Derived.Test.YtfpdlamjlbpmkaaLibD
import Derived.Laws.Strings
namespace Go.Proofs.Ytfpdlamjlbpmkaa
open E
set_option maxRecDepth 100000

theorem bytesLess_lt : ∀ (x y : List UInt8), Op.bytesLess x y = true ↔ x < y
  | x, [] => by cases x <;> simp [Op.bytesLess]
  | [], _ :: _ => by simp [Op.bytesLess]
  | a :: x, b :: y => by simp [Op.bytesLess, List.cons_lt_cons_iff, bytesLess_lt x y]

def ltS (s t : ByteArray) : Bool := Op.bytesLess s.toList t.toList
/-- How two texts stand to one another: -1, 0, 1. -/
def cmpS (s t : ByteArray) : Int := bif ltS s t then -1 else bif (!(ltS s t || s.toList == t.toList)) then 1 else 0
def orI (a b : Int) : Int := bif a != 0 then a else b

theorem toList_inj {s t : ByteArray} (h : s.toList = t.toList) : s = t := by
  rw [ByteArray.toList_eq, ByteArray.toList_eq] at h
  have : s.data = t.data := Array.toList_inj.1 h
  cases s; cases t; simp_all

theorem ltS_iff (s t : ByteArray) : ltS s t = true ↔ s.toList < t.toList := bytesLess_lt _ _
theorem ltS_irrefl (s : ByteArray) : ltS s s = false := by
  rw [Bool.eq_false_iff, ne_eq, ltS_iff]; exact List.lt_irrefl _
theorem ltS_trans {s t u : ByteArray} (h : ltS s t = true) (k : ltS t u = true) : ltS s u = true := by
  rw [ltS_iff] at h k ⊢; exact List.lt_trans h k
theorem ltS_total {s t : ByteArray} (h : ltS s t = false) (k : ltS t s = false) : s = t := by
  rw [Bool.eq_false_iff, ne_eq, ltS_iff] at h k
  exact toList_inj (List.le_antisymm (List.not_lt.1 k) (List.not_lt.1 h))
theorem ltS_asymm {s t : ByteArray} (h : ltS s t = true) : ltS t s = false := by
  cases k : ltS t s with
  | false => rfl
  | true => have := ltS_trans h k; rw [ltS_irrefl] at this; cases this

theorem cmpS_cases (s t : ByteArray) : (cmpS s t = -1 ∧ ltS s t = true) ∨ (cmpS s t = 0 ∧ s = t) ∨ (cmpS s t = 1 ∧ ltS t s = true) := by
  unfold cmpS
  cases h : ltS s t with
  | true => left; simp
  | false =>
    right
    by_cases e : s = t
    · left; subst e; simp
    · right
      have hne : (s.toList == t.toList) = false := by
        rw [beq_eq_false_iff_ne]; exact fun h => e (toList_inj h)
      refine ⟨by simp [hne], ?_⟩
      cases k : ltS t s with
      | true => rfl
      | false => exact absurd (ltS_total h k) e

theorem cmpS_self (s : ByteArray) : cmpS s s = 0 := by
  rcases cmpS_cases s s with ⟨_, h⟩ | ⟨h, _⟩ | ⟨_, h⟩
  · rw [ltS_irrefl] at h; cases h
  · exact h
  · rw [ltS_irrefl] at h; cases h
theorem cmpS_zero {s t : ByteArray} : cmpS s t = 0 ↔ s = t := by
  constructor
  · intro h
    rcases cmpS_cases s t with ⟨k, _⟩ | ⟨_, e⟩ | ⟨k, _⟩
    · omega
    · exact e
    · omega
  · rintro rfl; exact cmpS_self s
theorem cmpS_neg {s t : ByteArray} : cmpS s t < 0 ↔ ltS s t = true := by
  constructor
  · intro h
    rcases cmpS_cases s t with ⟨_, e⟩ | ⟨k, _⟩ | ⟨k, _⟩
    · exact e
    · omega
    · omega
  · intro h
    rcases cmpS_cases s t with ⟨k, _⟩ | ⟨_, e⟩ | ⟨_, k⟩
    · omega
    · subst e; rw [ltS_irrefl] at h; cases h
    · rw [ltS_asymm h] at k; cases k
theorem cmpS_flip (s t : ByteArray) : cmpS t s = - cmpS s t := by
  rcases cmpS_cases s t with ⟨k, e⟩ | ⟨k, e⟩ | ⟨k, e⟩
  · rcases cmpS_cases t s with ⟨k2, e2⟩ | ⟨k2, e2⟩ | ⟨k2, e2⟩
    · rw [ltS_asymm e] at e2; cases e2
    · subst e2; rw [ltS_irrefl] at e; cases e
    · omega
  · subst e; rw [k]; rfl
  · rcases cmpS_cases t s with ⟨k2, e2⟩ | ⟨k2, e2⟩ | ⟨k2, e2⟩
    · omega
    · subst e2; rw [ltS_irrefl] at e; cases e
    · rw [ltS_asymm e] at e2; cases e2

theorem ba_beq (s t : ByteArray) : (s == t) = true ↔ s = t := by
  cases s with | mk a => cases t with | mk b =>
  show (a == b) = true ↔ _
  simp
theorem ba_refl (s : ByteArray) : (s == s) = true := (ba_beq s s).2 rfl

def FNaN : List V → Option V := fun _ => some (Bo false)
def FCmp : List V → Option V
  | [.val (.string a), .val (.string b)] => some (I (cmpS a b))
  | _ => none
def FOr : List V → Option V
  | [.sl _ [[.val (.int _ a)], [.val (.int _ b)]]] => some (I (orI a b))
  | [.sl _ [[.val (.int _ a)], [.val (.int _ b)], [.val (.int _ c)]]] => some (I (orI a (orI b c)))
  | [.sl _ [[.val (.int _ a)], [.val (.int _ b)], [.val (.int _ c)], [.val (.int _ d)]]] => some (I (orI a (orI b (orI c d))))
  | _ => none
end Go.Proofs.Ytfpdlamjlbpmkaa
