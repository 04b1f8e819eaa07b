/- What all texts of a seat use. -/
import Derived.Test.YtieffigehkjifaaChecked
import Derived.Laws.Strings
import Derived.Test.YtieffigehkjifaaEdChainP2
namespace Go.Proofs.Ytieffigehkjifaa
open E
set_option maxRecDepth 100000

theorem hmix : Try.prog.follows .mixedOrders = true := by kernel_rfl

def U (n : Int) : V := .val (.int .u64 n)
end Go.Proofs.Ytieffigehkjifaa

/- Strings in their order, and what is compared by several parts. -/
namespace Go.Proofs.Ytieffigehkjifaa
open E
set_option maxRecDepth 100000

theorem bytesLess_lt : ∀ (x y : List UInt8), Op.bytesLess x y = true ↔ x < y
  | x, [] => by cases x <;> simp [Op.bytesLess]
  | [], _ :: _ => by simp [Op.bytesLess]
  | a :: x, b :: y => by simp [Op.bytesLess, List.cons_lt_cons_iff, bytesLess_lt x y]

def ltS (s t : ByteArray) : Bool := Op.bytesLess s.toList t.toList
/-- How two texts stand to one another: -1, 0, 1. -/
def cmpS (s t : ByteArray) : Int := bif ltS s t then -1 else bif (!(ltS s t || s.toList == t.toList)) then 1 else 0
def orI (a b : Int) : Int := bif a != 0 then a else b

theorem toList_inj {s t : ByteArray} (h : s.toList = t.toList) : s = t := by
  rw [ByteArray.toList_eq, ByteArray.toList_eq] at h
  have : s.data = t.data := Array.toList_inj.1 h
  cases s; cases t; simp_all

theorem ltS_iff (s t : ByteArray) : ltS s t = true ↔ s.toList < t.toList := bytesLess_lt _ _
theorem ltS_irrefl (s : ByteArray) : ltS s s = false := by
  rw [Bool.eq_false_iff, ne_eq, ltS_iff]; exact List.lt_irrefl _
theorem ltS_trans {s t u : ByteArray} (h : ltS s t = true) (k : ltS t u = true) : ltS s u = true := by
  rw [ltS_iff] at h k ⊢; exact List.lt_trans h k
theorem ltS_total {s t : ByteArray} (h : ltS s t = false) (k : ltS t s = false) : s = t := by
  rw [Bool.eq_false_iff, ne_eq, ltS_iff] at h k
  exact toList_inj (List.le_antisymm (List.not_lt.1 k) (List.not_lt.1 h))
theorem ltS_asymm {s t : ByteArray} (h : ltS s t = true) : ltS t s = false := by
  cases k : ltS t s with
  | false => rfl
  | true => have := ltS_trans h k; rw [ltS_irrefl] at this; cases this

theorem cmpS_cases (s t : ByteArray) : (cmpS s t = -1 ∧ ltS s t = true) ∨ (cmpS s t = 0 ∧ s = t) ∨ (cmpS s t = 1 ∧ ltS t s = true) := by
  unfold cmpS
  cases h : ltS s t with
  | true => left; simp
  | false =>
    right
    by_cases e : s = t
    · left; subst e; simp
    · right
      have hne : (s.toList == t.toList) = false := by
        rw [beq_eq_false_iff_ne]; exact fun h => e (toList_inj h)
      refine ⟨by simp [hne], ?_⟩
      cases k : ltS t s with
      | true => rfl
      | false => exact absurd (ltS_total h k) e

theorem cmpS_self (s : ByteArray) : cmpS s s = 0 := by
  rcases cmpS_cases s s with ⟨_, h⟩ | ⟨h, _⟩ | ⟨_, h⟩
  · rw [ltS_irrefl] at h; cases h
  · exact h
  · rw [ltS_irrefl] at h; cases h
theorem cmpS_zero {s t : ByteArray} : cmpS s t = 0 ↔ s = t := by
  constructor
  · intro h
    rcases cmpS_cases s t with ⟨k, _⟩ | ⟨_, e⟩ | ⟨k, _⟩
    · omega
    · exact e
    · omega
  · rintro rfl; exact cmpS_self s
theorem cmpS_neg {s t : ByteArray} : cmpS s t < 0 ↔ ltS s t = true := by
  constructor
  · intro h
    rcases cmpS_cases s t with ⟨_, e⟩ | ⟨k, _⟩ | ⟨k, _⟩
    · exact e
    · omega
    · omega
  · intro h
    rcases cmpS_cases s t with ⟨k, _⟩ | ⟨_, e⟩ | ⟨_, k⟩
    · omega
    · subst e; rw [ltS_irrefl] at h; cases h
    · rw [ltS_asymm h] at k; cases k
theorem cmpS_flip (s t : ByteArray) : cmpS t s = - cmpS s t := by
  rcases cmpS_cases s t with ⟨k, e⟩ | ⟨k, e⟩ | ⟨k, e⟩
  · rcases cmpS_cases t s with ⟨k2, e2⟩ | ⟨k2, e2⟩ | ⟨k2, e2⟩
    · rw [ltS_asymm e] at e2; cases e2
    · subst e2; rw [ltS_irrefl] at e; cases e
    · omega
  · subst e; rw [k]; rfl
  · rcases cmpS_cases t s with ⟨k2, e2⟩ | ⟨k2, e2⟩ | ⟨k2, e2⟩
    · omega
    · subst e2; rw [ltS_irrefl] at e; cases e
    · rw [ltS_asymm e] at e2; cases e2

theorem ba_beq (s t : ByteArray) : (s == t) = true ↔ s = t := by
  cases s with | mk a => cases t with | mk b =>
  show (a == b) = true ↔ _
  simp
theorem ba_refl (s : ByteArray) : (s == s) = true := (ba_beq s s).2 rfl

def FNaN : List V → Option V := fun _ => some (Bo false)
def FCmp : List V → Option V
  | [.val (.string a), .val (.string b)] => some (I (cmpS a b))
  | _ => none
def FOr : List V → Option V
  | [.sl _ [[.val (.int _ a)], [.val (.int _ b)]]] => some (I (orI a b))
  | [.sl _ [[.val (.int _ a)], [.val (.int _ b)], [.val (.int _ c)]]] => some (I (orI a (orI b c)))
  | [.sl _ [[.val (.int _ a)], [.val (.int _ b)], [.val (.int _ c)], [.val (.int _ d)]]] => some (I (orI a (orI b (orI c d))))
  | _ => none
end Go.Proofs.Ytieffigehkjifaa

/- edges: what compares, and what adds. -/
namespace Go.Proofs.Ytieffigehkjifaa
open E
set_option maxRecDepth 100000
set_option linter.unusedVariables false
set_option linter.unusedSimpArgs false


/-- An edge. -/
structure Ed where
  fr : ByteArray
  to : ByteArray
  cnt : Int
  errs : Int
def Ed.row (e : Ed) : List V := [Sg e.fr, Sg e.to, I e.cnt, I e.errs]
def Ed.v (e : Ed) : V := .agg e.row
/-- How two edges stand to one another. -/
def cmpD (a b : Ed) : Int := orI (cmpS a.fr b.fr) (cmpS a.to b.to)
/-- An attribute. -/
structure At where
  key : ByteArray
  val : ByteArray
def At.row (a : At) : List V := [Sg a.key, Sg a.val]
def At.v (a : At) : V := .agg a.row
/-- A span. -/
structure Sp where
  hi : Int
  lo : Int
  id : Int
  par : Int
  svc : ByteArray
  op : ByteArray
  start : Int
  dur : Int
  err : Bool
  attrs : List At
def Sp.row (s : Sp) : List V := [U s.hi, U s.lo, U s.id, U s.par, Sg s.svc, Sg s.op, I s.start, I s.dur, Bo s.err, .sl 2 (s.attrs.map At.row)]
def Sp.v (s : Sp) : V := .agg s.row
def nameB (s : ByteArray) : Bool := bif decide (1 ≤ (s.size : Int)) then decide ((s.size : Int) ≤ 16) else false
def mn (a b : Int) : Int := if b < a then b else a
def mx (a b : Int) : Int := if a < b then b else a
def plusR (a b most : Int) : Int :=
  let m := mx 0 most
  let a := mx 0 (mn a m)
  let b := mx 0 (mn b m)
  IntKind.i64.wrap (a + mn b (IntKind.i64.wrap (m - a)))
def pEq (e y : Ed) : Bool := cmpD y e == 0
def pGt (e y : Ed) : Bool := decide (0 < cmpD y e)
def pKey (a y : At) : Bool := y.key.toList == a.key.toList
theorem cNaN (s : ByteArray) : Contract Try.prog 31 [Sg s] [] (Bo false) [] :=
  vcP hmix [.reg 1 [(2, [], some false)]] [] [
      (!ByteArray.toList s == ByteArray.toList s) = false] (by kernel_rfl)
    (by simp [allP])

theorem cCmp (s t : ByteArray) : Contract Try.prog 27 [Sg s, Sg t] [] (I (cmpS s t)) [] := by
  unfold cmpS
  cases h1 : ltS s t with
  | true => exact vcP hmix [.reg 9 [(2, [], some true)], .tab [(31, FNaN)]] [] [
      Contract Try.prog (31 : Nat) [Sg s] [] (Bo false) [],
      Contract Try.prog (31 : Nat) [Sg t] [] (Bo false) [],
      Op.bytesLess (ByteArray.toList s) (ByteArray.toList t) = true] (by kernel_rfl) ⟨cNaN s, cNaN t, h1⟩
  | false =>
    cases h2 : (!(ltS s t || s.toList == t.toList)) with
    | true => rw [h1] at h2; simp only [h2]; exact vcP hmix [.reg 9 [(2, [], some false)], .reg 11 [(2, [], some true)], .tab [(31, FNaN)]] [] [
      Contract Try.prog (31 : Nat) [Sg s] [] (Bo false) [],
      Contract Try.prog (31 : Nat) [Sg t] [] (Bo false) [],
      Op.bytesLess (ByteArray.toList s) (ByteArray.toList t) = false,
      (!(Op.bytesLess (ByteArray.toList s) (ByteArray.toList t) || ByteArray.toList s == ByteArray.toList t)) = true] (by kernel_rfl) ⟨cNaN s, cNaN t, h1, (by unfold ltS at h1; simp only [allP, h1]; exact h2)⟩
    | false => rw [h1] at h2; simp only [h2]; exact vcP hmix [.reg 9 [(2, [], some false)], .reg 11 [(2, [], some false)], .tab [(31, FNaN)]] [] [
      Contract Try.prog (31 : Nat) [Sg s] [] (Bo false) [],
      Contract Try.prog (31 : Nat) [Sg t] [] (Bo false) [],
      Op.bytesLess (ByteArray.toList s) (ByteArray.toList t) = false,
      (!(Op.bytesLess (ByteArray.toList s) (ByteArray.toList t) || ByteArray.toList s == ByteArray.toList t)) = false] (by kernel_rfl) ⟨cNaN s, cNaN t, h1, (by unfold ltS at h1; simp only [allP, h1]; exact h2)⟩

theorem cOr (a b : Int) : Contract Try.prog 26 [.sl 1 [[I a], [I b]]] [] (I (orI a b)) [] := by
  unfold orI
  cases h1 : a != 0 with
  | true => exact vcP hmix [.unroll 3, .reg 5 [(2, [], some true)]] [] [
      (0 : Int) ≤ (0 : Int),
      (0 : Int) < (2 : Int),
      (a != (0 : Int)) = true] (by kernel_rfl) (by
      simp only [allP]
      and_intros <;> first
        | omega
        | with_reducible assumption
        | exact h1
        | (simp; done)
        | decide)
  | false =>
    cases h2 : b != 0 with
    | true => exact vcP hmix [.unroll 3, .reg 5 [(2, [], some false)], .reg 5 [(2, [], some true)]] [] [
      (0 : Int) ≤ (0 : Int),
      (0 : Int) < (2 : Int),
      (a != (0 : Int)) = false,
      (0 : Int) ≤ (1 : Int),
      (1 : Int) < (2 : Int),
      (b != (0 : Int)) = true] (by kernel_rfl) (by
      simp only [allP]
      and_intros <;> first
        | omega
        | with_reducible assumption
        | exact h1
        | (simp; done)
        | decide)
    | false =>
      have hb : b = 0 := by simpa using h2
      subst hb
      exact vcP hmix [.unroll 3, .reg 5 [(2, [], some false)]] [] [
      (0 : Int) ≤ (0 : Int),
      (0 : Int) < (2 : Int),
      (a != (0 : Int)) = false,
      (0 : Int) ≤ (1 : Int),
      (1 : Int) < (2 : Int)] (by kernel_rfl) (by
      simp only [allP]
      and_intros <;> first
        | omega
        | with_reducible assumption
        | exact h1
        | (simp; done)
        | decide)

theorem cCompare (a b : Ed) : Contract Try.prog 20 [a.v, b.v] [] (I (cmpD a b)) [] :=
  vcP hmix [.tab [(31, FNaN), (27, FCmp), (26, FOr)]] [] [
      Contract Try.prog (27 : Nat) [Sg (Ed.fr a), Sg (Ed.fr b)] [] (I (cmpS (Ed.fr a) (Ed.fr b))) [],
      Contract Try.prog (27 : Nat) [Sg (Ed.to a), Sg (Ed.to b)] [] (I (cmpS (Ed.to a) (Ed.to b))) [],
      Contract Try.prog (26 : Nat) [V.sl (1 : Nat) [[I (cmpS (Ed.fr a) (Ed.fr b))], [I (cmpS (Ed.to a) (Ed.to b))]]] [] (I (orI (cmpS (Ed.fr a) (Ed.fr b)) (cmpS (Ed.to a) (Ed.to b)))) [],
      true = true] (by kernel_rfl)
    ⟨cCmp _ _, cCmp _ _, cOr _ _, rfl⟩

theorem cEq1 (x e : Ed) : Contract Try.prog 19 [x.v, .ptr 0 0 0 0] [.box e.row] (Bo (pEq e x)) [some (.box e.row)] :=
  vcP hmix [.tab [(20, fun _ => some (I (cmpD x e)))]] [] [
      Contract Try.prog (20 : Nat) [V.agg [Sg (Ed.fr x), Sg (Ed.to x), I (Ed.cnt x), I (Ed.errs x)], V.agg [Sg (Ed.fr e), Sg (Ed.to e), I (Ed.cnt e), I (Ed.errs e)]] [] (I (cmpD x e)) []] (by kernel_rfl)
    (cCompare x e)

theorem cGt1 (x e : Ed) : Contract Try.prog 21 [x.v, .ptr 0 0 0 0] [.box e.row] (Bo (pGt e x)) [some (.box e.row)] :=
  vcP hmix [.tab [(20, fun _ => some (I (cmpD x e)))]] [] [
      Contract Try.prog (20 : Nat) [V.agg [Sg (Ed.fr x), Sg (Ed.to x), I (Ed.cnt x), I (Ed.errs x)], V.agg [Sg (Ed.fr e), Sg (Ed.to e), I (Ed.cnt e), I (Ed.errs e)]] [] (I (cmpD x e)) []] (by kernel_rfl)
    (cCompare x e)

theorem cKey1 (x a : At) : Contract Try.prog 25 [x.v, .ptr 0 0 0 0] [.box a.row] (Bo (pKey a x)) [some (.box a.row)] :=
  vcP hmix [] [] [
      ] (by kernel_rfl)
    trivial

theorem cPlus (a b m : Int) : Contract Try.prog 23 [I a, I b, I m] [] (I (plusR a b m)) [] :=
  vcP hmix [] [] [
      ] (by kernel_rfl)
    trivial

theorem cNameT (s : ByteArray) (h : decide (1 ≤ (s.size : Int)) = true) : Contract Try.prog 16 [Sg s] [] (Bo (nameB s)) [] := by
  unfold nameB
  rw [h]
  exact vcP hmix [.reg 1 [(2, [], some true)]] [] [
      decide (Int.ofNat (ByteArray.size s) ≥ (1 : Int)) = true] (by kernel_rfl) (by
      simp only [allP]
      and_intros <;> first
        | omega
        | with_reducible assumption
        | exact h
        | (simp; done)
        | decide)

theorem cNameF (s : ByteArray) (h : decide (1 ≤ (s.size : Int)) = false) : Contract Try.prog 16 [Sg s] [] (Bo (nameB s)) [] := by
  unfold nameB
  rw [h]
  exact vcP hmix [.reg 1 [(2, [], some false)]] [] [
      decide (Int.ofNat (ByteArray.size s) ≥ (1 : Int)) = false] (by kernel_rfl) (by
      simp only [allP]
      and_intros <;> first
        | omega
        | with_reducible assumption
        | exact h
        | (simp; done)
        | decide)

theorem cName (s : ByteArray) : Contract Try.prog 16 [Sg s] [] (Bo (nameB s)) [] := by
  cases h : decide (1 ≤ (s.size : Int)) with
  | true => exact cNameT s h
  | false => exact cNameF s h
theorem flatEd (l : List Ed) : FlatRows (l.map Ed.row) := by
  intro r hr
  obtain ⟨e, _, rfl⟩ := List.mem_map.1 hr
  rfl
end Go.Proofs.Ytieffigehkjifaa

/- slices.Insert at []gleaning/api.Edge. -/
namespace Go.Proofs.Ytieffigehkjifaa
open E
set_option maxRecDepth 100000
set_option linter.unusedVariables false
set_option linter.unusedSimpArgs false

theorem insOv : IsOverlaps Try.prog 28 4 := ⟨_, 25, 4, 41, Try.func28, by kernel_rfl, by kernel_rfl, by kernel_rfl, by kernel_rfl, by kernel_rfl, by kernel_rfl, by omega⟩

theorem insA (rows : List (List V)) (row : List V) (k c : Nat) (hc : rows.length ≤ c) (hk : k = rows.length) (hb : (rows.length + 1) * 48 ≤ 140737488355328) : Contract Try.prog 22 [.vw 0 4 0 rows.length, I (k : Int), .own 1] [.blk 4 rows c, .arr 4 [row]] (.own 2) [none, some (.arr 4 [row]), some (.arr 4 (rows.take k ++ row :: rows.drop k))] :=
  vcP hmix [.reg 6 [(2, [], some true)], .reg 7 [(0, [.idx 0], none), (2, [.beO (rows.take k ++ row :: rows.drop k)], none)]] [1403000] [
      (0 : Int) ≤ Int.ofNat k,
      Int.ofNat k ≤ Int.ofNat (List.length rows),
      (0 : Nat) + List.length rows ≤ c,
      (Int.ofNat k == Int.ofNat (List.length rows)) = true,
      List.length rows ≤ List.length rows,
      (List.length (List.take (List.length rows) rows) + (1 : Nat)) * (48 : Nat) ≤ (140737488355328 : Nat),
      List.take (List.length rows) rows ++ [row] = List.take k rows ++ row :: List.drop k rows] (by kernel_rfl)
    (by
    subst hk
    have e1 : List.take rows.length rows ++ [row] = List.take rows.length rows ++ row :: List.drop rows.length rows := by simp
    exact (by
      simp only [allP]
      and_intros <;> first
        | assumption
        | exact insOv
        | omega
        | (simp; done)
        | (simp; omega)
        | exact i64_small (by simp; omega)
        | (rw [i64_small (by simp; omega)]; simp; omega)
        | exact ins1 (by simp) (by omega) (by simp; omega)
        | exact ins2 (by simp) (by simp) (by omega) (by simp; omega)
        | exact ins3 (by simp) (by simp) (by omega) (by simp; omega)
        | exact ins4 (by simp) (by omega) (by simp; omega)
        | (apply List.take_of_length_le; simp; omega)))

theorem insB (rows : List (List V)) (row : List V) (k c : Nat) (hc : rows.length ≤ c) (hk : k < rows.length) (hcc : c < rows.length + 1) (hb : (rows.length + 1) * 48 ≤ 140737488355328) : Contract Try.prog 22 [.vw 0 4 0 rows.length, I (k : Int), .own 1] [.blk 4 rows c, .arr 4 [row]] (.own 2) [some (.blk 4 rows c), some (.arr 4 [row]), some (.arr 4 (rows.take k ++ row :: rows.drop k))] :=
  vcP hmix [.reg 6 [(2, [], some false)], .reg 8 [(2, [.be (I (rows.length + 1 : Nat))], none), (5, [], some true)], .reg 9 [(5, [.be (I (rows.length + 1 : Nat))], none), (7, [.be (I (rows.length + 1 - k : Nat))], none), (8, [.beO (rows.take k ++ List.replicate (rows.length + 1 - k) [Sg ByteArray.empty, Sg ByteArray.empty, I 0, I 0])], none)], .reg 10 [(2, [.idx 0], none), (4, [.beO (rows.take k ++ row :: List.replicate (rows.length - k) [Sg ByteArray.empty, Sg ByteArray.empty, I 0, I 0])], none)], .reg 11 [(3, [.be (I (k + 1 : Nat))], none), (4, [.idx 0], none), (8, [.beO (rows.take k ++ row :: rows.drop k)], none)]] [1809000] [
      (0 : Int) ≤ Int.ofNat k,
      Int.ofNat k ≤ Int.ofNat (List.length rows),
      (0 : Nat) + List.length rows ≤ c,
      (Int.ofNat k == Int.ofNat (List.length rows)) = false,
      IntKind.wrap IntKind.i64 (Int.ofNat (List.length rows + (1 : Nat))) = Int.ofNat (List.length rows + (1 : Nat)),
      decide (Int.ofNat (List.length rows + (1 : Nat)) > Int.ofNat c) = true,
      (0 : Int) ≤ (0 : Int),
      (0 : Int) ≤ Int.ofNat k,
      (0 : Nat) + k ≤ c,
      IntKind.wrap IntKind.i64 (Int.ofNat (List.length rows + (1 : Nat))) = Int.ofNat (List.length rows + (1 : Nat)),
      IntKind.wrap IntKind.i64 (Int.ofNat (List.length rows + (1 : Nat)) + -Int.ofNat k) = Int.ofNat (List.length rows + (1 : Nat) - k),
      (0 : Nat) + k ≤ List.length rows,
      (0 : Int) ≤ Int.ofNat (List.length rows + (1 : Nat) - k),
      c < (0 : Nat) + k + (List.length rows + (1 : Nat) - k),
      ((0 : Nat) + k + (List.length rows + (1 : Nat) - k)) * (48 : Nat) ≤ (140737488355328 : Nat),
      List.take ((0 : Nat) + k) rows ++ List.replicate (List.length rows + (1 : Nat) - k) [Sg { data := { toList := [] } }, Sg { data := { toList := [] } }, I (0 : Int), I (0 : Int)] = List.take k rows ++ List.replicate (List.length rows + (1 : Nat) - k) [Sg { data := { toList := [] } }, Sg { data := { toList := [] } }, I (0 : Int), I (0 : Int)],
      (0 : Int) ≤ Int.ofNat k,
      Int.ofNat k ≤ Int.ofNat (List.length (List.take k rows ++ List.replicate (List.length rows + (1 : Nat) - k) [Sg { data := { toList := [] } }, Sg { data := { toList := [] } }, I (0 : Int), I (0 : Int)])),
      List.length (List.take k rows ++ List.replicate (List.length rows + (1 : Nat) - k) [Sg { data := { toList := [] } }, Sg { data := { toList := [] } }, I (0 : Int), I (0 : Int)]) ≤ List.length (List.take k rows ++ List.replicate (List.length rows + (1 : Nat) - k) [Sg { data := { toList := [] } }, Sg { data := { toList := [] } }, I (0 : Int), I (0 : Int)]),
      k ≤ List.length (List.take k rows ++ List.replicate (List.length rows + (1 : Nat) - k) [Sg { data := { toList := [] } }, Sg { data := { toList := [] } }, I (0 : Int), I (0 : Int)]),
      List.length (List.take k rows ++ List.replicate (List.length rows + (1 : Nat) - k) [Sg { data := { toList := [] } }, Sg { data := { toList := [] } }, I (0 : Int), I (0 : Int)]) ≤ List.length (List.take k rows ++ List.replicate (List.length rows + (1 : Nat) - k) [Sg { data := { toList := [] } }, Sg { data := { toList := [] } }, I (0 : Int), I (0 : Int)]),
      over (List.take k rows ++ List.replicate (List.length rows + (1 : Nat) - k) [Sg { data := { toList := [] } }, Sg { data := { toList := [] } }, I (0 : Int), I (0 : Int)]) k (List.take (List.length (List.take k rows ++ List.replicate (List.length rows + (1 : Nat) - k) [Sg { data := { toList := [] } }, Sg { data := { toList := [] } }, I (0 : Int), I (0 : Int)]) - k) [row]) = List.take k rows ++ row :: List.replicate (List.length rows - k) [Sg { data := { toList := [] } }, Sg { data := { toList := [] } }, I (0 : Int), I (0 : Int)],
      IntKind.wrap IntKind.i64 (Int.ofNat (k + (1 : Nat))) = Int.ofNat (k + (1 : Nat)),
      (0 : Int) ≤ Int.ofNat (k + (1 : Nat)),
      Int.ofNat (k + (1 : Nat)) ≤ Int.ofNat (List.length (List.take k rows ++ row :: List.replicate (List.length rows - k) [Sg { data := { toList := [] } }, Sg { data := { toList := [] } }, I (0 : Int), I (0 : Int)])),
      List.length (List.take k rows ++ row :: List.replicate (List.length rows - k) [Sg { data := { toList := [] } }, Sg { data := { toList := [] } }, I (0 : Int), I (0 : Int)]) ≤ List.length (List.take k rows ++ row :: List.replicate (List.length rows - k) [Sg { data := { toList := [] } }, Sg { data := { toList := [] } }, I (0 : Int), I (0 : Int)]),
      (0 : Int) ≤ Int.ofNat k,
      Int.ofNat k ≤ Int.ofNat (List.length rows),
      (0 : Nat) + List.length rows ≤ c,
      Int.toNat (Int.ofNat (k + (1 : Nat))) ≤ List.length (List.take k rows ++ row :: List.replicate (List.length rows - k) [Sg { data := { toList := [] } }, Sg { data := { toList := [] } }, I (0 : Int), I (0 : Int)]),
      List.length (List.take k rows ++ row :: List.replicate (List.length rows - k) [Sg { data := { toList := [] } }, Sg { data := { toList := [] } }, I (0 : Int), I (0 : Int)]) ≤ List.length (List.take k rows ++ row :: List.replicate (List.length rows - k) [Sg { data := { toList := [] } }, Sg { data := { toList := [] } }, I (0 : Int), I (0 : Int)]),
      (0 : Nat) + k + min (List.length (List.take k rows ++ row :: List.replicate (List.length rows - k) [Sg { data := { toList := [] } }, Sg { data := { toList := [] } }, I (0 : Int), I (0 : Int)]) - Int.toNat (Int.ofNat (k + (1 : Nat)))) ((0 : Nat) + List.length rows - ((0 : Nat) + k)) ≤ List.length rows,
      over (List.take k rows ++ row :: List.replicate (List.length rows - k) [Sg { data := { toList := [] } }, Sg { data := { toList := [] } }, I (0 : Int), I (0 : Int)]) (Int.toNat (Int.ofNat (k + (1 : Nat)))) (List.take (min (List.length (List.take k rows ++ row :: List.replicate (List.length rows - k) [Sg { data := { toList := [] } }, Sg { data := { toList := [] } }, I (0 : Int), I (0 : Int)]) - Int.toNat (Int.ofNat (k + (1 : Nat)))) ((0 : Nat) + List.length rows - ((0 : Nat) + k))) (List.drop ((0 : Nat) + k) rows)) = List.take k rows ++ row :: List.drop k rows] (by kernel_rfl)
    (by
      simp only [allP]
      and_intros <;> first
        | assumption
        | exact insOv
        | omega
        | (simp; done)
        | (simp; omega)
        | exact i64_small (by simp; omega)
        | (rw [i64_small (by simp; omega)]; simp; omega)
        | exact ins1 (by simp) (by omega) (by simp; omega)
        | exact ins2 (by simp) (by simp) (by omega) (by simp; omega)
        | exact ins3 (by simp) (by simp) (by omega) (by simp; omega)
        | exact ins4 (by simp) (by omega) (by simp; omega)
        | (apply List.take_of_length_le; simp; omega))

theorem insC (rows : List (List V)) (row : List V) (k c : Nat) (hk : k < rows.length) (hcc : rows.length + 1 ≤ c) (hb : (rows.length + 1) * 48 ≤ 140737488355328) : Contract Try.prog 22 [.vw 0 4 0 rows.length, I (k : Int), .own 1] [.blk 4 rows c, .arr 4 [row]] (.own 2) [none, some (.arr 4 [row]), some (.arr 4 (rows.take k ++ row :: rows.drop k))] :=
  vcP hmix [.reg 6 [(2, [], some false)], .reg 8 [(2, [.be (I (rows.length + 1 : Nat))], none), (5, [], some false)], .reg 13 [(3, [.be (I (rows.length + 1 : Nat))], none)], .reg 14 [(4, [.be (I (k + 1 : Nat))], none), (6, [.idx 0], none)], .reg 15 [(3, [.be (I (k + 1 : Nat))], none), (8, [.beO (rows.take (k + 1) ++ rows.drop k)], none)], .reg 16 [(4, [.beO (rows.take k ++ row :: rows.drop k)], none)], .reg 17 [(0, [.idx 0, .beO (rows.take k ++ row :: rows.drop k)], none)]] [3401000] [
      (0 : Int) ≤ Int.ofNat k,
      Int.ofNat k ≤ Int.ofNat (List.length rows),
      (0 : Nat) + List.length rows ≤ c,
      (Int.ofNat k == Int.ofNat (List.length rows)) = false,
      IntKind.wrap IntKind.i64 (Int.ofNat (List.length rows + (1 : Nat))) = Int.ofNat (List.length rows + (1 : Nat)),
      decide (Int.ofNat (List.length rows + (1 : Nat)) > Int.ofNat c) = false,
      IntKind.wrap IntKind.i64 (Int.ofNat (List.length rows + (1 : Nat))) = Int.ofNat (List.length rows + (1 : Nat)),
      (0 : Int) ≤ (0 : Int),
      (0 : Int) ≤ Int.ofNat (List.length rows + (1 : Nat)),
      (0 : Nat) + Int.toNat (Int.ofNat (List.length rows + (1 : Nat))) ≤ c,
      IntKind.wrap IntKind.i64 (Int.ofNat (k + (1 : Nat))) = Int.ofNat (k + (1 : Nat)),
      (0 : Int) ≤ Int.ofNat (k + (1 : Nat)),
      Int.ofNat (k + (1 : Nat)) ≤ Int.ofNat ((0 : Nat) + Int.toNat (Int.ofNat (List.length rows + (1 : Nat))) - (0 : Nat)),
      (0 : Nat) + Int.toNat (Int.ofNat ((0 : Nat) + Int.toNat (Int.ofNat (List.length rows + (1 : Nat))) - (0 : Nat))) ≤ c,
      IsOverlaps Try.prog (28 : Nat) (4 : Nat),
      (0 : Nat) < (1 : Nat),
      (0 : Nat) + Int.toNat (Int.ofNat (k + (1 : Nat))) < (0 : Nat) + Int.toNat (Int.ofNat ((0 : Nat) + Int.toNat (Int.ofNat (List.length rows + (1 : Nat))) - (0 : Nat))),
      IntKind.wrap IntKind.i64 (Int.ofNat (k + (1 : Nat))) = Int.ofNat (k + (1 : Nat)),
      (0 : Int) ≤ Int.ofNat (k + (1 : Nat)),
      Int.ofNat (k + (1 : Nat)) ≤ Int.ofNat ((0 : Nat) + Int.toNat (Int.ofNat (List.length rows + (1 : Nat))) - (0 : Nat)),
      (0 : Nat) + Int.toNat (Int.ofNat ((0 : Nat) + Int.toNat (Int.ofNat (List.length rows + (1 : Nat))) - (0 : Nat))) ≤ c,
      (0 : Int) ≤ Int.ofNat k,
      Int.ofNat k ≤ Int.ofNat ((0 : Nat) + Int.toNat (Int.ofNat (List.length rows + (1 : Nat))) - (0 : Nat)),
      (0 : Nat) + Int.toNat (Int.ofNat ((0 : Nat) + Int.toNat (Int.ofNat (List.length rows + (1 : Nat))) - (0 : Nat))) ≤ c,
      (0 : Nat) + Int.toNat (Int.ofNat (k + (1 : Nat))) ≤ List.length rows,
      (0 : Nat) + Int.toNat (Int.ofNat ((0 : Nat) + Int.toNat (Int.ofNat (List.length rows + (1 : Nat))) - (0 : Nat))) ≤ c,
      (0 : Nat) + k + min ((0 : Nat) + Int.toNat (Int.ofNat ((0 : Nat) + Int.toNat (Int.ofNat (List.length rows + (1 : Nat))) - (0 : Nat))) - ((0 : Nat) + Int.toNat (Int.ofNat (k + (1 : Nat))))) ((0 : Nat) + Int.toNat (Int.ofNat ((0 : Nat) + Int.toNat (Int.ofNat (List.length rows + (1 : Nat))) - (0 : Nat))) - ((0 : Nat) + k)) ≤ List.length rows,
      over rows ((0 : Nat) + Int.toNat (Int.ofNat (k + (1 : Nat)))) (List.take (min ((0 : Nat) + Int.toNat (Int.ofNat ((0 : Nat) + Int.toNat (Int.ofNat (List.length rows + (1 : Nat))) - (0 : Nat))) - ((0 : Nat) + Int.toNat (Int.ofNat (k + (1 : Nat))))) ((0 : Nat) + Int.toNat (Int.ofNat ((0 : Nat) + Int.toNat (Int.ofNat (List.length rows + (1 : Nat))) - (0 : Nat))) - ((0 : Nat) + k))) (List.drop ((0 : Nat) + k) rows)) = List.take (k + (1 : Nat)) rows ++ List.drop k rows,
      (0 : Int) ≤ Int.ofNat k,
      Int.ofNat k ≤ Int.ofNat ((0 : Nat) + Int.toNat (Int.ofNat (List.length rows + (1 : Nat))) - (0 : Nat)),
      (0 : Nat) + Int.toNat (Int.ofNat ((0 : Nat) + Int.toNat (Int.ofNat (List.length rows + (1 : Nat))) - (0 : Nat))) ≤ c,
      (0 : Nat) + k ≤ List.length (List.take (k + (1 : Nat)) rows ++ List.drop k rows),
      (0 : Nat) + Int.toNat (Int.ofNat ((0 : Nat) + Int.toNat (Int.ofNat (List.length rows + (1 : Nat))) - (0 : Nat))) ≤ c,
      over (List.take (k + (1 : Nat)) rows ++ List.drop k rows) ((0 : Nat) + k) (List.take ((0 : Nat) + Int.toNat (Int.ofNat ((0 : Nat) + Int.toNat (Int.ofNat (List.length rows + (1 : Nat))) - (0 : Nat))) - ((0 : Nat) + k)) [row]) = List.take k rows ++ row :: List.drop k rows,
      (0 : Nat) + Int.toNat (Int.ofNat (List.length rows + (1 : Nat))) ≤ List.length (List.take k rows ++ row :: List.drop k rows),
      List.take ((0 : Nat) + Int.toNat (Int.ofNat (List.length rows + (1 : Nat)))) (List.take k rows ++ row :: List.drop k rows) = List.take k rows ++ row :: List.drop k rows] (by kernel_rfl)
    (by
      simp only [allP]
      and_intros <;> first
        | assumption
        | exact insOv
        | omega
        | (simp; done)
        | (simp; omega)
        | exact i64_small (by simp; omega)
        | (rw [i64_small (by simp; omega)]; simp; omega)
        | exact ins1 (by simp) (by omega) (by simp; omega)
        | exact ins2 (by simp) (by simp) (by omega) (by simp; omega)
        | exact ins3 (by simp) (by simp) (by omega) (by simp; omega)
        | exact ins4 (by simp) (by omega) (by simp; omega)
        | (apply List.take_of_length_le; simp; omega))

theorem insO (rows : List (List V)) (row : List V) (k : Nat) (hk : k ≤ rows.length) (hb : (rows.length + 1) * 48 ≤ 140737488355328) : Contract Try.prog 22 [.own 0, I (k : Int), .own 1] [.arr 4 rows, .arr 4 [row]] (.own 2) [none, some (.arr 4 [row]), some (.arr 4 (rows.take k ++ row :: rows.drop k))] :=
  Contract.own fun c hc => by
    by_cases h1 : k = rows.length
    · exact insA rows row k c hc h1 hb
    · by_cases h2 : rows.length + 1 ≤ c
      · exact insC rows row k c (by omega) h2 hb
      · exact Contract.drop0 (insB rows row k c hc (by omega) (by omega) hb)

end Go.Proofs.Ytieffigehkjifaa

/- edges: what slices gives of edges and attributes. -/
namespace Go.Proofs.Ytieffigehkjifaa
open E
set_option maxRecDepth 100000
set_option linter.unusedVariables false
set_option linter.unusedSimpArgs false

theorem clnNil (c : Nat) : Contract Try.prog 12 [.val (.slice none 0 c)] [] (.own 0) [some (.arr 4 [])] :=
  vcP hmix [.reg 2 [(0, [.idx 4], none)]] [401000] [
      ] (by kernel_rfl)
    trivial

theorem clnVal (A : Addr) (c : Nat) : Contract Try.prog 12 [.val (.slice (some A) 0 c)] [] (.own 0) [some (.arr 4 [])] :=
  vcP hmix [] [603000] [
      (0 : Nat) ≤ (140737488355328 : Nat)] (by kernel_rfl)
    (by
      simp only [allP]
      and_intros <;> first
        | omega
        | with_reducible assumption
        | (simp; done)
        | decide)

theorem clnCons (rows : List (List V)) (h : rows ≠ []) (hb : rows.length * 48 ≤ 140737488355328) : Contract Try.prog 12 [.sl 4 rows] [] (.own 0) [some (.arr 4 rows)] :=
  vcP hmix [] [603000] [
      rows ≠ [],
      ((0 : Nat) + List.length rows) * (48 : Nat) ≤ (140737488355328 : Nat)] (by kernel_rfl)
    (by
      simp only [allP]
      and_intros <;> first
        | omega
        | with_reducible assumption
        | (simp; omega)
        | (simp; done)
        | decide)

theorem cln (rows : List (List V)) (hb : rows.length * 48 ≤ 140737488355328) : Contract Try.prog 12 [.sl 4 rows] [] (.own 0) [some (.arr 4 rows)] := by
  by_cases h : rows = []
  · subst h
    exact Contract.slNil clnNil clnVal
  · exact clnCons rows h hb

def ixES (l : List Ed) (e : Ed) (i : Nat) (r : Int) : SL := ⟨[(0, .sl 4 (l.map Ed.row)), (1, .clo (.func 19) [] [.ptr 0 0 0 0]), (4, I r), (7, I (l.length : Int)), (8, I (i : Int))], [(0, .box e.row)], [0, 0]⟩
noncomputable def ixEB : Code := codeAt Try.prog 18 [true, false, true, false, false]

theorem ixENo (l : List Ed) (e : Ed) (x : Ed) (i : Nat) (h : i < l.length) (hx : l[i]? = some x) (hs : l.length ≤ 1000000000000000) (hp : (pEq e) x = false) : CodeC Try.prog 1 19 ixEB (ixES l e i 0) .normal (ixES l e (i + 1) 0) :=
  runP hmix [.reg 2 [(0, [], some true)], .reg 4 [(4, [.row (Ed.row x)], none), (5, [.call [0] [] (Bo ((pEq e) x)) [some (.box e.row)]], some false)], .reg 6 [(0, [.be (I ((i + 1 : Nat) : Int))], none)]] ⟨[0, 1, 4, 7, 8], [(0, 0)], []⟩ [
      decide (Int.ofNat i < Int.ofNat (List.length l)) = true,
      (0 : Int) ≤ Int.ofNat i,
      Int.ofNat i < Int.ofNat (List.length (List.map Ed.row l)),
      (List.map Ed.row l)[i]? = some (Ed.row x),
      Contract Try.prog (19 : Nat) [V.agg [Sg (Ed.fr x), Sg (Ed.to x), I (Ed.cnt x), I (Ed.errs x)], V.ptr (0 : Nat) (0 : Nat) (0 : Nat) (0 : Nat)] [Obj.box [Sg (Ed.fr e), Sg (Ed.to e), I (Ed.cnt e), I (Ed.errs e)]] (Bo (pEq e x)) [some (Obj.box (Ed.row e))],
      pEq e x = false,
      IntKind.wrap IntKind.i64 (Int.ofNat (i + (1 : Nat))) = Int.ofNat (i + (1 : Nat))] (by kernel_rfl)
    (by
      simp only [allP]
      and_intros <;> first
        | omega
        | with_reducible assumption
        | exact cEq1 x e
        | (simp; omega)
        | (simp [hx]; done)
        | exact i64_small (by simp; omega)
        | (simp; done)
        | decide)

theorem ixEYes (l : List Ed) (e : Ed) (x : Ed) (i : Nat) (h : i < l.length) (hx : l[i]? = some x) (hs : l.length ≤ 1000000000000000) (hp : (pEq e) x = true) : CodeC Try.prog 1 19 ixEB (ixES l e i 0) .ret (ixES l e i (i : Int)) :=
  runP hmix [.reg 2 [(0, [], some true)], .reg 4 [(4, [.row (Ed.row x)], none), (5, [.call [0] [] (Bo ((pEq e) x)) [some (.box e.row)]], some true)]] ⟨[0, 1, 4, 7, 8], [(0, 0)], []⟩ [
      decide (Int.ofNat i < Int.ofNat (List.length l)) = true,
      (0 : Int) ≤ Int.ofNat i,
      Int.ofNat i < Int.ofNat (List.length (List.map Ed.row l)),
      (List.map Ed.row l)[i]? = some (Ed.row x),
      Contract Try.prog (19 : Nat) [V.agg [Sg (Ed.fr x), Sg (Ed.to x), I (Ed.cnt x), I (Ed.errs x)], V.ptr (0 : Nat) (0 : Nat) (0 : Nat) (0 : Nat)] [Obj.box [Sg (Ed.fr e), Sg (Ed.to e), I (Ed.cnt e), I (Ed.errs e)]] (Bo (pEq e x)) [some (Obj.box (Ed.row e))],
      pEq e x = true] (by kernel_rfl)
    (by
      simp only [allP]
      and_intros <;> first
        | omega
        | with_reducible assumption
        | exact cEq1 x e
        | (simp; omega)
        | (simp [hx]; done)
        | exact i64_small (by simp; omega)
        | (simp; done)
        | decide)

theorem ixEEnd (l : List Ed) (e : Ed) (i : Nat) (h : l.length ≤ i) : CodeC Try.prog 1 19 ixEB (ixES l e i 0) (.exit 0) (ixES l e i 0) :=
  runP hmix [.reg 2 [(0, [], some false)]] ⟨[0, 1, 4, 7, 8], [(0, 0)], []⟩ [
      decide (Int.ofNat i < Int.ofNat (List.length l)) = false] (by kernel_rfl)
    (by
      simp only [allP]
      and_intros <;> first
        | omega
        | with_reducible assumption
        | (simp; omega)
        | (simp; done)
        | decide)

theorem ixELoop (l : List Ed) (e : Ed) (hs : l.length ≤ 1000000000000000) : ∀ (n i : Nat), i + n = l.length →
    match (l.drop i).findIdx? (pEq e) with
    | some j => LoopC Try.prog 1 19 ixEB (ixES l e i 0) .ret (ixES l e (i + j) ((i + j : Nat) : Int))
    | none => LoopC Try.prog 1 19 ixEB (ixES l e i 0) (.exit 0) (ixES l e l.length 0)
  | 0, i, hi => by
    rw [List.drop_of_length_le (by omega)]
    have : i = l.length := by omega
    subst this
    exact LoopC.last (ixEEnd l e _ (by omega)) (by simp)
  | n + 1, i, hi => by
    have hlt : i < l.length := by omega
    have hx : l[i]? = some l[i] := by simp [hlt]
    have ih := ixELoop l e hs n (i + 1) (by omega)
    rw [List.drop_eq_getElem_cons hlt, List.findIdx?_cons]
    cases hp : (pEq e) l[i] with
    | true =>
      simp only [if_true, Nat.add_zero]
      exact LoopC.last (ixEYes l e l[i] i hlt hx hs hp) (by simp)
    | false =>
      have r := ixENo l e l[i] i hlt hx hs hp
      simp only [Bool.false_eq_true, if_false]
      cases hf : (l.drop (i + 1)).findIdx? (pEq e) with
      | none => rw [hf] at ih; exact LoopC.next r ih
      | some j =>
        rw [hf] at ih
        simp only [Option.map_some]
        rw [show i + (j + 1) = i + 1 + j by omega]
        exact LoopC.next r ih

theorem ixESome (l : List Ed) (e : Ed) (j : Nat) (hs : l.length ≤ 1000000000000000) (h : l.findIdx? (pEq e) = some j) : Contract Try.prog 18 [.sl 4 (l.map Ed.row), .clo (.func 19) [] [.ptr 0 0 0 0]] [.box e.row] (I (j : Int)) [some (.box e.row)] :=
  have hl := ixELoop l e hs l.length 0 (by omega)
  have hl : LoopC Try.prog 1 19 ixEB (ixES l e 0 0) .ret (ixES l e j ((j : Nat) : Int)) := by rw [List.drop_zero, h] at hl; simpa using hl
  vcP hmix [.reg 1 [(1, [.be (I (l.length : Int))], none)], .cut ⟨[0, 1, 4, 7, 8], [(0, 0)], []⟩ .ret (ixES l e j (j : Int))] [] [(((l.map Ed.row).length : Nat) : Int) = (l.length : Int), LoopC Try.prog 1 19 ixEB (ixES l e 0 0) .ret (ixES l e j ((j : Nat) : Int))] (by kernel_rfl) ⟨by simp, hl⟩

theorem ixENone (l : List Ed) (e : Ed) (hs : l.length ≤ 1000000000000000) (h : l.findIdx? (pEq e) = none) : Contract Try.prog 18 [.sl 4 (l.map Ed.row), .clo (.func 19) [] [.ptr 0 0 0 0]] [.box e.row] (I (-1)) [some (.box e.row)] :=
  have hl := ixELoop l e hs l.length 0 (by omega)
  have hl : LoopC Try.prog 1 19 ixEB (ixES l e 0 0) (.exit 0) (ixES l e l.length 0) := by rw [List.drop_zero, h] at hl; exact hl
  vcP hmix [.reg 1 [(1, [.be (I (l.length : Int))], none)], .cut ⟨[0, 1, 4, 7, 8], [(0, 0)], []⟩ (.exit 0) (ixES l e l.length 0)] [] [(((l.map Ed.row).length : Nat) : Int) = (l.length : Int), LoopC Try.prog 1 19 ixEB (ixES l e 0 0) (.exit 0) (ixES l e l.length 0)] (by kernel_rfl) ⟨by simp, hl⟩

theorem ixE (l : List Ed) (e : Ed) (hs : l.length ≤ 1000000000000000) : Contract Try.prog 18 [.sl 4 (l.map Ed.row), .clo (.func 19) [] [.ptr 0 0 0 0]] [.box e.row] (I (idxI (pEq e) l)) [some (.box e.row)] := by
  unfold idxI
  cases h : l.findIdx? (pEq e) with
  | none => exact ixENone l e hs h
  | some j => exact ixESome l e j hs h

def ixGS (l : List Ed) (e : Ed) (i : Nat) (r : Int) : SL := ⟨[(0, .sl 4 (l.map Ed.row)), (1, .clo (.func 21) [] [.ptr 0 0 0 0]), (4, I r), (7, I (l.length : Int)), (8, I (i : Int))], [(0, .box e.row)], [0, 0]⟩
noncomputable def ixGB : Code := codeAt Try.prog 18 [true, false, true, false, false]

theorem ixGNo (l : List Ed) (e : Ed) (x : Ed) (i : Nat) (h : i < l.length) (hx : l[i]? = some x) (hs : l.length ≤ 1000000000000000) (hp : (pGt e) x = false) : CodeC Try.prog 1 19 ixGB (ixGS l e i 0) .normal (ixGS l e (i + 1) 0) :=
  runP hmix [.reg 2 [(0, [], some true)], .reg 4 [(4, [.row (Ed.row x)], none), (5, [.call [0] [] (Bo ((pGt e) x)) [some (.box e.row)]], some false)], .reg 6 [(0, [.be (I ((i + 1 : Nat) : Int))], none)]] ⟨[0, 1, 4, 7, 8], [(0, 0)], []⟩ [
      decide (Int.ofNat i < Int.ofNat (List.length l)) = true,
      (0 : Int) ≤ Int.ofNat i,
      Int.ofNat i < Int.ofNat (List.length (List.map Ed.row l)),
      (List.map Ed.row l)[i]? = some (Ed.row x),
      Contract Try.prog (21 : Nat) [V.agg [Sg (Ed.fr x), Sg (Ed.to x), I (Ed.cnt x), I (Ed.errs x)], V.ptr (0 : Nat) (0 : Nat) (0 : Nat) (0 : Nat)] [Obj.box [Sg (Ed.fr e), Sg (Ed.to e), I (Ed.cnt e), I (Ed.errs e)]] (Bo (pGt e x)) [some (Obj.box (Ed.row e))],
      pGt e x = false,
      IntKind.wrap IntKind.i64 (Int.ofNat (i + (1 : Nat))) = Int.ofNat (i + (1 : Nat))] (by kernel_rfl)
    (by
      simp only [allP]
      and_intros <;> first
        | omega
        | with_reducible assumption
        | exact cGt1 x e
        | (simp; omega)
        | (simp [hx]; done)
        | exact i64_small (by simp; omega)
        | (simp; done)
        | decide)

theorem ixGYes (l : List Ed) (e : Ed) (x : Ed) (i : Nat) (h : i < l.length) (hx : l[i]? = some x) (hs : l.length ≤ 1000000000000000) (hp : (pGt e) x = true) : CodeC Try.prog 1 19 ixGB (ixGS l e i 0) .ret (ixGS l e i (i : Int)) :=
  runP hmix [.reg 2 [(0, [], some true)], .reg 4 [(4, [.row (Ed.row x)], none), (5, [.call [0] [] (Bo ((pGt e) x)) [some (.box e.row)]], some true)]] ⟨[0, 1, 4, 7, 8], [(0, 0)], []⟩ [
      decide (Int.ofNat i < Int.ofNat (List.length l)) = true,
      (0 : Int) ≤ Int.ofNat i,
      Int.ofNat i < Int.ofNat (List.length (List.map Ed.row l)),
      (List.map Ed.row l)[i]? = some (Ed.row x),
      Contract Try.prog (21 : Nat) [V.agg [Sg (Ed.fr x), Sg (Ed.to x), I (Ed.cnt x), I (Ed.errs x)], V.ptr (0 : Nat) (0 : Nat) (0 : Nat) (0 : Nat)] [Obj.box [Sg (Ed.fr e), Sg (Ed.to e), I (Ed.cnt e), I (Ed.errs e)]] (Bo (pGt e x)) [some (Obj.box (Ed.row e))],
      pGt e x = true] (by kernel_rfl)
    (by
      simp only [allP]
      and_intros <;> first
        | omega
        | with_reducible assumption
        | exact cGt1 x e
        | (simp; omega)
        | (simp [hx]; done)
        | exact i64_small (by simp; omega)
        | (simp; done)
        | decide)

theorem ixGEnd (l : List Ed) (e : Ed) (i : Nat) (h : l.length ≤ i) : CodeC Try.prog 1 19 ixGB (ixGS l e i 0) (.exit 0) (ixGS l e i 0) :=
  runP hmix [.reg 2 [(0, [], some false)]] ⟨[0, 1, 4, 7, 8], [(0, 0)], []⟩ [
      decide (Int.ofNat i < Int.ofNat (List.length l)) = false] (by kernel_rfl)
    (by
      simp only [allP]
      and_intros <;> first
        | omega
        | with_reducible assumption
        | (simp; omega)
        | (simp; done)
        | decide)

theorem ixGLoop (l : List Ed) (e : Ed) (hs : l.length ≤ 1000000000000000) : ∀ (n i : Nat), i + n = l.length →
    match (l.drop i).findIdx? (pGt e) with
    | some j => LoopC Try.prog 1 19 ixGB (ixGS l e i 0) .ret (ixGS l e (i + j) ((i + j : Nat) : Int))
    | none => LoopC Try.prog 1 19 ixGB (ixGS l e i 0) (.exit 0) (ixGS l e l.length 0)
  | 0, i, hi => by
    rw [List.drop_of_length_le (by omega)]
    have : i = l.length := by omega
    subst this
    exact LoopC.last (ixGEnd l e _ (by omega)) (by simp)
  | n + 1, i, hi => by
    have hlt : i < l.length := by omega
    have hx : l[i]? = some l[i] := by simp [hlt]
    have ih := ixGLoop l e hs n (i + 1) (by omega)
    rw [List.drop_eq_getElem_cons hlt, List.findIdx?_cons]
    cases hp : (pGt e) l[i] with
    | true =>
      simp only [if_true, Nat.add_zero]
      exact LoopC.last (ixGYes l e l[i] i hlt hx hs hp) (by simp)
    | false =>
      have r := ixGNo l e l[i] i hlt hx hs hp
      simp only [Bool.false_eq_true, if_false]
      cases hf : (l.drop (i + 1)).findIdx? (pGt e) with
      | none => rw [hf] at ih; exact LoopC.next r ih
      | some j =>
        rw [hf] at ih
        simp only [Option.map_some]
        rw [show i + (j + 1) = i + 1 + j by omega]
        exact LoopC.next r ih

theorem ixGSome (l : List Ed) (e : Ed) (j : Nat) (hs : l.length ≤ 1000000000000000) (h : l.findIdx? (pGt e) = some j) : Contract Try.prog 18 [.sl 4 (l.map Ed.row), .clo (.func 21) [] [.ptr 0 0 0 0]] [.box e.row] (I (j : Int)) [some (.box e.row)] :=
  have hl := ixGLoop l e hs l.length 0 (by omega)
  have hl : LoopC Try.prog 1 19 ixGB (ixGS l e 0 0) .ret (ixGS l e j ((j : Nat) : Int)) := by rw [List.drop_zero, h] at hl; simpa using hl
  vcP hmix [.reg 1 [(1, [.be (I (l.length : Int))], none)], .cut ⟨[0, 1, 4, 7, 8], [(0, 0)], []⟩ .ret (ixGS l e j (j : Int))] [] [(((l.map Ed.row).length : Nat) : Int) = (l.length : Int), LoopC Try.prog 1 19 ixGB (ixGS l e 0 0) .ret (ixGS l e j ((j : Nat) : Int))] (by kernel_rfl) ⟨by simp, hl⟩

theorem ixGNone (l : List Ed) (e : Ed) (hs : l.length ≤ 1000000000000000) (h : l.findIdx? (pGt e) = none) : Contract Try.prog 18 [.sl 4 (l.map Ed.row), .clo (.func 21) [] [.ptr 0 0 0 0]] [.box e.row] (I (-1)) [some (.box e.row)] :=
  have hl := ixGLoop l e hs l.length 0 (by omega)
  have hl : LoopC Try.prog 1 19 ixGB (ixGS l e 0 0) (.exit 0) (ixGS l e l.length 0) := by rw [List.drop_zero, h] at hl; exact hl
  vcP hmix [.reg 1 [(1, [.be (I (l.length : Int))], none)], .cut ⟨[0, 1, 4, 7, 8], [(0, 0)], []⟩ (.exit 0) (ixGS l e l.length 0)] [] [(((l.map Ed.row).length : Nat) : Int) = (l.length : Int), LoopC Try.prog 1 19 ixGB (ixGS l e 0 0) (.exit 0) (ixGS l e l.length 0)] (by kernel_rfl) ⟨by simp, hl⟩

theorem ixG (l : List Ed) (e : Ed) (hs : l.length ≤ 1000000000000000) : Contract Try.prog 18 [.sl 4 (l.map Ed.row), .clo (.func 21) [] [.ptr 0 0 0 0]] [.box e.row] (I (idxI (pGt e) l)) [some (.box e.row)] := by
  unfold idxI
  cases h : l.findIdx? (pGt e) with
  | none => exact ixGNone l e hs h
  | some j => exact ixGSome l e j hs h

def ixKS (l : List At) (a : At) (i : Nat) (r : Int) : SL := ⟨[(0, .sl 2 (l.map At.row)), (1, .clo (.func 25) [] [.ptr 0 0 0 0]), (4, I r), (7, I (l.length : Int)), (8, I (i : Int))], [(0, .box a.row)], [0, 0]⟩
noncomputable def ixKB : Code := codeAt Try.prog 30 [true, false, true, false, false]

theorem ixKNo (l : List At) (a : At) (x : At) (i : Nat) (h : i < l.length) (hx : l[i]? = some x) (hs : l.length ≤ 1000000000000000) (hp : (pKey a) x = false) : CodeC Try.prog 1 19 ixKB (ixKS l a i 0) .normal (ixKS l a (i + 1) 0) :=
  runP hmix [.reg 2 [(0, [], some true)], .reg 4 [(4, [.row (At.row x)], none), (5, [.call [0] [] (Bo ((pKey a) x)) [some (.box a.row)]], some false)], .reg 6 [(0, [.be (I ((i + 1 : Nat) : Int))], none)]] ⟨[0, 1, 4, 7, 8], [(0, 0)], []⟩ [
      decide (Int.ofNat i < Int.ofNat (List.length l)) = true,
      (0 : Int) ≤ Int.ofNat i,
      Int.ofNat i < Int.ofNat (List.length (List.map At.row l)),
      (List.map At.row l)[i]? = some (At.row x),
      Contract Try.prog (25 : Nat) [V.agg [Sg (At.key x), Sg (At.val x)], V.ptr (0 : Nat) (0 : Nat) (0 : Nat) (0 : Nat)] [Obj.box [Sg (At.key a), Sg (At.val a)]] (Bo (pKey a x)) [some (Obj.box (At.row a))],
      pKey a x = false,
      IntKind.wrap IntKind.i64 (Int.ofNat (i + (1 : Nat))) = Int.ofNat (i + (1 : Nat))] (by kernel_rfl)
    (by
      simp only [allP]
      and_intros <;> first
        | omega
        | with_reducible assumption
        | exact cKey1 x a
        | (simp; omega)
        | (simp [hx]; done)
        | exact i64_small (by simp; omega)
        | (simp; done)
        | decide)

theorem ixKYes (l : List At) (a : At) (x : At) (i : Nat) (h : i < l.length) (hx : l[i]? = some x) (hs : l.length ≤ 1000000000000000) (hp : (pKey a) x = true) : CodeC Try.prog 1 19 ixKB (ixKS l a i 0) .ret (ixKS l a i (i : Int)) :=
  runP hmix [.reg 2 [(0, [], some true)], .reg 4 [(4, [.row (At.row x)], none), (5, [.call [0] [] (Bo ((pKey a) x)) [some (.box a.row)]], some true)]] ⟨[0, 1, 4, 7, 8], [(0, 0)], []⟩ [
      decide (Int.ofNat i < Int.ofNat (List.length l)) = true,
      (0 : Int) ≤ Int.ofNat i,
      Int.ofNat i < Int.ofNat (List.length (List.map At.row l)),
      (List.map At.row l)[i]? = some (At.row x),
      Contract Try.prog (25 : Nat) [V.agg [Sg (At.key x), Sg (At.val x)], V.ptr (0 : Nat) (0 : Nat) (0 : Nat) (0 : Nat)] [Obj.box [Sg (At.key a), Sg (At.val a)]] (Bo (pKey a x)) [some (Obj.box (At.row a))],
      pKey a x = true] (by kernel_rfl)
    (by
      simp only [allP]
      and_intros <;> first
        | omega
        | with_reducible assumption
        | exact cKey1 x a
        | (simp; omega)
        | (simp [hx]; done)
        | exact i64_small (by simp; omega)
        | (simp; done)
        | decide)

theorem ixKEnd (l : List At) (a : At) (i : Nat) (h : l.length ≤ i) : CodeC Try.prog 1 19 ixKB (ixKS l a i 0) (.exit 0) (ixKS l a i 0) :=
  runP hmix [.reg 2 [(0, [], some false)]] ⟨[0, 1, 4, 7, 8], [(0, 0)], []⟩ [
      decide (Int.ofNat i < Int.ofNat (List.length l)) = false] (by kernel_rfl)
    (by
      simp only [allP]
      and_intros <;> first
        | omega
        | with_reducible assumption
        | (simp; omega)
        | (simp; done)
        | decide)

theorem ixKLoop (l : List At) (a : At) (hs : l.length ≤ 1000000000000000) : ∀ (n i : Nat), i + n = l.length →
    match (l.drop i).findIdx? (pKey a) with
    | some j => LoopC Try.prog 1 19 ixKB (ixKS l a i 0) .ret (ixKS l a (i + j) ((i + j : Nat) : Int))
    | none => LoopC Try.prog 1 19 ixKB (ixKS l a i 0) (.exit 0) (ixKS l a l.length 0)
  | 0, i, hi => by
    rw [List.drop_of_length_le (by omega)]
    have : i = l.length := by omega
    subst this
    exact LoopC.last (ixKEnd l a _ (by omega)) (by simp)
  | n + 1, i, hi => by
    have hlt : i < l.length := by omega
    have hx : l[i]? = some l[i] := by simp [hlt]
    have ih := ixKLoop l a hs n (i + 1) (by omega)
    rw [List.drop_eq_getElem_cons hlt, List.findIdx?_cons]
    cases hp : (pKey a) l[i] with
    | true =>
      simp only [if_true, Nat.add_zero]
      exact LoopC.last (ixKYes l a l[i] i hlt hx hs hp) (by simp)
    | false =>
      have r := ixKNo l a l[i] i hlt hx hs hp
      simp only [Bool.false_eq_true, if_false]
      cases hf : (l.drop (i + 1)).findIdx? (pKey a) with
      | none => rw [hf] at ih; exact LoopC.next r ih
      | some j =>
        rw [hf] at ih
        simp only [Option.map_some]
        rw [show i + (j + 1) = i + 1 + j by omega]
        exact LoopC.next r ih

theorem ixKSome (l : List At) (a : At) (j : Nat) (hs : l.length ≤ 1000000000000000) (h : l.findIdx? (pKey a) = some j) : Contract Try.prog 30 [.sl 2 (l.map At.row), .clo (.func 25) [] [.ptr 0 0 0 0]] [.box a.row] (I (j : Int)) [some (.box a.row)] :=
  have hl := ixKLoop l a hs l.length 0 (by omega)
  have hl : LoopC Try.prog 1 19 ixKB (ixKS l a 0 0) .ret (ixKS l a j ((j : Nat) : Int)) := by rw [List.drop_zero, h] at hl; simpa using hl
  vcP hmix [.reg 1 [(1, [.be (I (l.length : Int))], none)], .cut ⟨[0, 1, 4, 7, 8], [(0, 0)], []⟩ .ret (ixKS l a j (j : Int))] [] [(((l.map At.row).length : Nat) : Int) = (l.length : Int), LoopC Try.prog 1 19 ixKB (ixKS l a 0 0) .ret (ixKS l a j ((j : Nat) : Int))] (by kernel_rfl) ⟨by simp, hl⟩

theorem ixKNone (l : List At) (a : At) (hs : l.length ≤ 1000000000000000) (h : l.findIdx? (pKey a) = none) : Contract Try.prog 30 [.sl 2 (l.map At.row), .clo (.func 25) [] [.ptr 0 0 0 0]] [.box a.row] (I (-1)) [some (.box a.row)] :=
  have hl := ixKLoop l a hs l.length 0 (by omega)
  have hl : LoopC Try.prog 1 19 ixKB (ixKS l a 0 0) (.exit 0) (ixKS l a l.length 0) := by rw [List.drop_zero, h] at hl; exact hl
  vcP hmix [.reg 1 [(1, [.be (I (l.length : Int))], none)], .cut ⟨[0, 1, 4, 7, 8], [(0, 0)], []⟩ (.exit 0) (ixKS l a l.length 0)] [] [(((l.map At.row).length : Nat) : Int) = (l.length : Int), LoopC Try.prog 1 19 ixKB (ixKS l a 0 0) (.exit 0) (ixKS l a l.length 0)] (by kernel_rfl) ⟨by simp, hl⟩

theorem ixK (l : List At) (a : At) (hs : l.length ≤ 1000000000000000) : Contract Try.prog 30 [.sl 2 (l.map At.row), .clo (.func 25) [] [.ptr 0 0 0 0]] [.box a.row] (I (idxI (pKey a) l)) [some (.box a.row)] := by
  unfold idxI
  cases h : l.findIdx? (pKey a) with
  | none => exact ixKNone l a hs h
  | some j => exact ixKSome l a j hs h

end Go.Proofs.Ytieffigehkjifaa

/- edges: which spans may be, and who calls. -/
namespace Go.Proofs.Ytieffigehkjifaa
open E
set_option maxRecDepth 100000
set_option linter.unusedVariables false
set_option linter.unusedSimpArgs false


def badA (l : List At) (i : Nat) (a : At) : Bool := bif nameB a.key then (bif decide (16 < (a.val.size : Int)) then true else decide (0 ≤ idxI (pKey a) (l.take i))) else true
def attrsB (l : List At) : Bool := (List.range l.length).all (fun i => match l[i]? with
  | some a => !badA l i a
  | none => true) && decide ((l.length : Int) ≤ 4)
def rightS (s : Sp) : Bool := bif nameB s.svc then (bif nameB s.op then (bif decide (0 ≤ s.start) then (bif decide (s.start ≤ 1099511627776) then (bif decide (0 ≤ s.dur) then (bif decide (s.dur ≤ 1073741824) then (bif decide ((s.attrs.length : Int) ≤ 4) then attrsB s.attrs else false) else false) else false) else false) else false) else false) else false
def callM (s x : Sp) : Bool := bif (decide (x.hi = s.hi) && (decide (x.lo = s.lo) && true)) then (bif x.id == s.par then rightS x else false) else false
def callerS (batch : List Sp) (s : Sp) : ByteArray × Bool := match batch.find? (callM s) with
  | some x => (x.svc, !(x.svc.toList == s.svc.toList))
  | none => (ByteArray.empty, false)
def atS (l : List At) (r : Bool) (i : Nat) : SL := ⟨[(0, .sl 2 (l.map At.row)), (2, Bo r), (5, .sl 2 (l.map At.row)), (6, I (l.length : Int)), (7, I (i : Int))], [], []⟩
def caS (b : List Sp) (s : Sp) (r1 : ByteArray) (r2 : Bool) (i : Nat) : SL := ⟨[(3, .ptr 1000 0 0 0), (4, Sg r1), (5, Bo r2), (8, .sl 10 (b.map Sp.row)), (9, I (b.length : Int)), (10, I (i : Int))], [(1000, .box s.row)], [1000]⟩
noncomputable def atB : Code := codeAt Try.prog 17 [true, false, true, false, false]

noncomputable def caB : Code := codeAt Try.prog 14 [true, false, true, false, false]

theorem cKeys (l : List At) (a : At) (hs : l.length ≤ 1000000000000000) : Contract Try.prog 24 [.sl 2 (l.map At.row), .clo (.func 25) [] [.ptr 0 0 0 0]] [.box a.row] (Bo (decide (0 ≤ idxI (pKey a) l))) [some (.box a.row)] :=
  vcP hmix [.reg 1 [(2, [.call [0] [] (I (idxI (pKey a) l)) [some (.box a.row)]], none)]] [] [
      Contract Try.prog (30 : Nat) [V.sl (2 : Nat) (List.map At.row l), V.clo (Fn.func (25 : Nat)) [] [V.ptr (0 : Nat) (0 : Nat) (0 : Nat) (0 : Nat)]] [Obj.box [Sg (At.key a), Sg (At.val a)]] (I (idxI (pKey a) l)) [some (Obj.box (At.row a))]] (by kernel_rfl)
    (by
      simp only [allP]
      and_intros <;> first
        | omega
        | with_reducible assumption
        | exact ixK l a hs
        | (simp; done)
        | decide)

theorem atStopA (l : List At) (a : At) (i : Nat) (h : i < l.length) (hx : l[i]? = some a) (hs : l.length ≤ 1000000000) (h1 : nameB a.key = false) : CodeC Try.prog 0 33 atB (atS l false i) .ret (atS l false i) :=
  runP hmix [.reg 2 [(0, [], some true)], .reg 3 [(2, [.row (At.row a)], none)], .reg 4 [(2, [.call [] [] (Bo (nameB a.key)) []], some false)]] ⟨[0, 2, 5, 6, 7], [], []⟩ [
      decide (Int.ofNat i < Int.ofNat (List.length l)) = true,
      (0 : Int) ≤ Int.ofNat i,
      Int.ofNat i < Int.ofNat (List.length (List.map At.row l)),
      (List.map At.row l)[i]? = some (At.row a),
      Contract Try.prog (16 : Nat) [Sg (At.key a)] [] (Bo (nameB (At.key a))) [],
      nameB (At.key a) = false] (by kernel_rfl)
    (by
      simp only [allP]
      and_intros <;> first
        | omega
        | with_reducible assumption
        | exact cName a.key
        | exact cKeys (l.take i) a (by simp; omega)
        | (simp; omega)
        | (simp [hx]; done)
        | exact i64_small (by simp; omega)
        | (simp [List.map_take]; done)
        | (simp; done)
        | decide)

theorem atStopB (l : List At) (a : At) (i : Nat) (h : i < l.length) (hx : l[i]? = some a) (hs : l.length ≤ 1000000000) (h1 : nameB a.key = true) (h2 : decide (16 < (a.val.size : Int)) = true) : CodeC Try.prog 0 33 atB (atS l false i) .ret (atS l false i) :=
  runP hmix [.reg 2 [(0, [], some true)], .reg 3 [(2, [.row (At.row a)], none)], .reg 4 [(2, [.call [] [] (Bo (nameB a.key)) []], some true), (8, [], some true)]] ⟨[0, 2, 5, 6, 7], [], []⟩ [
      decide (Int.ofNat i < Int.ofNat (List.length l)) = true,
      (0 : Int) ≤ Int.ofNat i,
      Int.ofNat i < Int.ofNat (List.length (List.map At.row l)),
      (List.map At.row l)[i]? = some (At.row a),
      Contract Try.prog (16 : Nat) [Sg (At.key a)] [] (Bo (nameB (At.key a))) [],
      nameB (At.key a) = true,
      decide (Int.ofNat (ByteArray.size (At.val a)) > (16 : Int)) = true] (by kernel_rfl)
    (by
      simp only [allP]
      and_intros <;> first
        | omega
        | with_reducible assumption
        | exact cName a.key
        | exact cKeys (l.take i) a (by simp; omega)
        | (simp; omega)
        | (simp [hx]; done)
        | exact i64_small (by simp; omega)
        | (simp [List.map_take]; done)
        | (simp; done)
        | decide)

theorem atStopC (l : List At) (a : At) (i : Nat) (h : i < l.length) (hx : l[i]? = some a) (hs : l.length ≤ 1000000000) (h1 : nameB a.key = true) (h2 : decide (16 < (a.val.size : Int)) = false) (h3 : decide (0 ≤ idxI (pKey a) (l.take i)) = true) : CodeC Try.prog 0 33 atB (atS l false i) .ret (atS l false i) :=
  runP hmix [.reg 2 [(0, [], some true)], .reg 3 [(2, [.row (At.row a)], none)], .reg 4 [(2, [.call [] [] (Bo (nameB a.key)) []], some true), (8, [], some false), (13, [.be (.sl 2 ((l.take i).map At.row))], none), (15, [.call [604000] [] (Bo (decide (0 ≤ idxI (pKey a) (l.take i)))) [some (.box a.row)]], some true)]] ⟨[0, 2, 5, 6, 7], [], []⟩ [
      decide (Int.ofNat i < Int.ofNat (List.length l)) = true,
      (0 : Int) ≤ Int.ofNat i,
      Int.ofNat i < Int.ofNat (List.length (List.map At.row l)),
      (List.map At.row l)[i]? = some (At.row a),
      Contract Try.prog (16 : Nat) [Sg (At.key a)] [] (Bo (nameB (At.key a))) [],
      nameB (At.key a) = true,
      decide (Int.ofNat (ByteArray.size (At.val a)) > (16 : Int)) = false,
      (0 : Int) ≤ (0 : Int),
      (0 : Int) ≤ Int.ofNat i,
      Int.ofNat i ≤ Int.ofNat (List.length (List.map At.row l)),
      List.take i (List.map At.row l) = List.map At.row (List.take i l),
      Contract Try.prog (24 : Nat) [V.sl (2 : Nat) (List.map At.row (List.take i l)), V.clo (Fn.func (25 : Nat)) [] [V.ptr (0 : Nat) (0 : Nat) (0 : Nat) (0 : Nat)]] [Obj.box [Sg (At.key a), Sg (At.val a)]] (Bo (decide ((0 : Int) ≤ idxI (pKey a) (List.take i l)))) [some (Obj.box (At.row a))],
      decide ((0 : Int) ≤ idxI (pKey a) (List.take i l)) = true] (by kernel_rfl)
    (by
      simp only [allP]
      and_intros <;> first
        | omega
        | with_reducible assumption
        | exact cName a.key
        | exact cKeys (l.take i) a (by simp; omega)
        | (simp; omega)
        | (simp [hx]; done)
        | exact i64_small (by simp; omega)
        | (simp [List.map_take]; done)
        | (simp; done)
        | decide)

theorem atGo (l : List At) (a : At) (i : Nat) (h : i < l.length) (hx : l[i]? = some a) (hs : l.length ≤ 1000000000) (h1 : nameB a.key = true) (h2 : decide (16 < (a.val.size : Int)) = false) (h3 : decide (0 ≤ idxI (pKey a) (l.take i)) = false) : CodeC Try.prog 0 33 atB (atS l false i) .normal (atS l false (i + 1)) :=
  runP hmix [.reg 2 [(0, [], some true)], .reg 3 [(2, [.row (At.row a)], none)], .reg 4 [(2, [.call [] [] (Bo (nameB a.key)) []], some true), (8, [], some false), (13, [.be (.sl 2 ((l.take i).map At.row))], none), (15, [.call [604000] [] (Bo (decide (0 ≤ idxI (pKey a) (l.take i)))) [some (.box a.row)]], some false)], .reg 6 [(0, [.be (I ((i + 1 : Nat) : Int))], none)]] ⟨[0, 2, 5, 6, 7], [], []⟩ [
      decide (Int.ofNat i < Int.ofNat (List.length l)) = true,
      (0 : Int) ≤ Int.ofNat i,
      Int.ofNat i < Int.ofNat (List.length (List.map At.row l)),
      (List.map At.row l)[i]? = some (At.row a),
      Contract Try.prog (16 : Nat) [Sg (At.key a)] [] (Bo (nameB (At.key a))) [],
      nameB (At.key a) = true,
      decide (Int.ofNat (ByteArray.size (At.val a)) > (16 : Int)) = false,
      (0 : Int) ≤ (0 : Int),
      (0 : Int) ≤ Int.ofNat i,
      Int.ofNat i ≤ Int.ofNat (List.length (List.map At.row l)),
      List.take i (List.map At.row l) = List.map At.row (List.take i l),
      Contract Try.prog (24 : Nat) [V.sl (2 : Nat) (List.map At.row (List.take i l)), V.clo (Fn.func (25 : Nat)) [] [V.ptr (0 : Nat) (0 : Nat) (0 : Nat) (0 : Nat)]] [Obj.box [Sg (At.key a), Sg (At.val a)]] (Bo (decide ((0 : Int) ≤ idxI (pKey a) (List.take i l)))) [some (Obj.box (At.row a))],
      decide ((0 : Int) ≤ idxI (pKey a) (List.take i l)) = false,
      IntKind.wrap IntKind.i64 (Int.ofNat (i + (1 : Nat))) = Int.ofNat (i + (1 : Nat))] (by kernel_rfl)
    (by
      simp only [allP]
      and_intros <;> first
        | omega
        | with_reducible assumption
        | exact cName a.key
        | exact cKeys (l.take i) a (by simp; omega)
        | (simp; omega)
        | (simp [hx]; done)
        | exact i64_small (by simp; omega)
        | (simp [List.map_take]; done)
        | (simp; done)
        | decide)

theorem atEnd (l : List At) (i : Nat) (h : l.length ≤ i) : CodeC Try.prog 0 33 atB (atS l false i) (.exit 0) (atS l false i) :=
  runP hmix [.reg 2 [(0, [], some false)]] ⟨[0, 2, 5, 6, 7], [], []⟩ [
      decide (Int.ofNat i < Int.ofNat (List.length l)) = false] (by kernel_rfl)
    (by
      simp only [allP]
      and_intros <;> first
        | omega
        | with_reducible assumption
        | (simp; omega)
        | (simp; done)
        | decide)

theorem atBad (l : List At) (i : Nat) (hl : LoopC Try.prog 0 33 atB (atS l false 0) .ret (atS l false i)) : Contract Try.prog 17 [.sl 2 (l.map At.row)] [] (Bo false) [] :=
  vcP hmix [.reg 1 [(1, [.be (I (l.length : Int))], none)], .cut ⟨[0, 2, 5, 6, 7], [], []⟩ .ret (atS l false i)] [] [
      Int.ofNat (List.length (List.map At.row l)) = Int.ofNat (List.length l),
      LoopC Try.prog (0 : Nat) (33 : Nat) atB { env := [((0 : Nat), V.sl (2 : Nat) (List.map At.row l)), ((2 : Nat), Bo false), ((5 : Nat), V.sl (2 : Nat) (List.map At.row l)), ((6 : Nat), I (Int.ofNat (List.length l))), ((7 : Nat), I (0 : Int))], st := [], ids := [] } Ex.ret { env := [((0 : Nat), V.sl (2 : Nat) (List.map At.row l)), ((2 : Nat), Bo false), ((5 : Nat), V.sl (2 : Nat) (List.map At.row l)), ((6 : Nat), I (Int.ofNat (List.length l))), ((7 : Nat), I (Int.ofNat i))], st := [], ids := [] }] (by kernel_rfl)
    (by
      simp only [allP]
      and_intros <;> first
        | omega
        | with_reducible assumption
        | exact hl
        | (simp; done)
        | decide)

theorem atGood (l : List At) (hl : LoopC Try.prog 0 33 atB (atS l false 0) (.exit 0) (atS l false l.length)) : Contract Try.prog 17 [.sl 2 (l.map At.row)] [] (Bo (decide ((l.length : Int) ≤ 4))) [] :=
  vcP hmix [.reg 1 [(1, [.be (I (l.length : Int))], none)], .cut ⟨[0, 2, 5, 6, 7], [], []⟩ (.exit 0) (atS l false l.length), .reg 7 [(1, [.be (I (l.length : Int))], none)]] [] [
      Int.ofNat (List.length (List.map At.row l)) = Int.ofNat (List.length l),
      LoopC Try.prog (0 : Nat) (33 : Nat) atB { env := [((0 : Nat), V.sl (2 : Nat) (List.map At.row l)), ((2 : Nat), Bo false), ((5 : Nat), V.sl (2 : Nat) (List.map At.row l)), ((6 : Nat), I (Int.ofNat (List.length l))), ((7 : Nat), I (0 : Int))], st := [], ids := [] } (Ex.exit (0 : Nat)) { env := [((0 : Nat), V.sl (2 : Nat) (List.map At.row l)), ((2 : Nat), Bo false), ((5 : Nat), V.sl (2 : Nat) (List.map At.row l)), ((6 : Nat), I (Int.ofNat (List.length l))), ((7 : Nat), I (Int.ofNat (List.length l)))], st := [], ids := [] },
      Int.ofNat (List.length (List.map At.row l)) = Int.ofNat (List.length l)] (by kernel_rfl)
    (by
      simp only [allP]
      and_intros <;> first
        | omega
        | with_reducible assumption
        | exact hl
        | (simp; done)
        | decide)

theorem cAttrs (l : List At) (hs : l.length ≤ 1000000000) : Contract Try.prog 17 [.sl 2 (l.map At.row)] [] (Bo (attrsB l)) [] := by
  rcases LoopC.search (P := Try.prog) (k := 0) (n := 33) (c := atB) l (badA l) (fun i => atS l false i) (fun i => atS l false i) (e1 := .ret) (e2 := .exit 0) (by simp) (by simp)
    (fun i a hx hi hb => by
      unfold badA at hb
      cases h1 : nameB a.key with
      | false => rw [h1] at hb; cases hb
      | true =>
        cases h2 : decide (16 < (a.val.size : Int)) with
        | true => rw [h1, h2] at hb; cases hb
        | false => rw [h1, h2] at hb; exact atGo l a i hi hx hs h1 h2 hb)
    (fun i a hx hi hb => by
      unfold badA at hb
      cases h1 : nameB a.key with
      | false => exact atStopA l a i hi hx hs h1
      | true =>
        cases h2 : decide (16 < (a.val.size : Int)) with
        | true => exact atStopB l a i hi hx hs h1 h2
        | false => rw [h1, h2] at hb; exact atStopC l a i hi hx hs h1 h2 hb)
    (atEnd l _ (Nat.le_refl _)) with ⟨i, a, k1, k2, _, k4⟩ | ⟨k1, k2⟩
  · have : attrsB l = false := by
      unfold attrsB
      rw [Bool.and_eq_false_iff]
      left
      rw [List.all_eq_false]
      exact ⟨i, List.mem_range.2 (List.getElem?_eq_some_iff.1 k1).1, by rw [k1]; simp [k2]⟩
    rw [this]
    exact atBad l i k4
  · have : attrsB l = decide ((l.length : Int) ≤ 4) := by
      unfold attrsB
      have : ((List.range l.length).all fun i => match l[i]? with
        | some a => !badA l i a
        | none => true) = true := by
        rw [List.all_eq_true]
        intro i hi
        cases hx : l[i]? with
        | none => rfl
        | some a => simp [k1 i a hx]
      rw [this, Bool.true_and]
    rw [this]
    exact atGood l k2

theorem right0 (s : Sp) (hs : s.attrs.length ≤ 1000000000) (h0 : (nameB s.svc) = false) : Contract Try.prog 13 [s.v] [] (Bo (rightS s)) [] := by
  unfold rightS
  rw [h0]
  exact vcP hmix [.reg 1 [(2, [.call [] [] (Bo (nameB s.svc)) []], some false)]] [] [
      Contract Try.prog (16 : Nat) [Sg (Sp.svc s)] [] (Bo (nameB (Sp.svc s))) [],
      nameB (Sp.svc s) = false] (by kernel_rfl)
    (by
      simp only [allP]
      and_intros <;> first
        | omega
        | with_reducible assumption
        | exact cName _
        | exact cAttrs _ hs
        | (simp; done)
        | (simp; done)
        | decide)

theorem right1 (s : Sp) (hs : s.attrs.length ≤ 1000000000) (h0 : (nameB s.svc) = true) (h1 : (nameB s.op) = false) : Contract Try.prog 13 [s.v] [] (Bo (rightS s)) [] := by
  unfold rightS
  rw [h0, h1]
  exact vcP hmix [.reg 1 [(2, [.call [] [] (Bo (nameB s.svc)) []], some true), (6, [.call [] [] (Bo (nameB s.op)) []], some false)]] [] [
      Contract Try.prog (16 : Nat) [Sg (Sp.svc s)] [] (Bo (nameB (Sp.svc s))) [],
      nameB (Sp.svc s) = true,
      Contract Try.prog (16 : Nat) [Sg (Sp.op s)] [] (Bo (nameB (Sp.op s))) [],
      nameB (Sp.op s) = false] (by kernel_rfl)
    (by
      simp only [allP]
      and_intros <;> first
        | omega
        | with_reducible assumption
        | exact cName _
        | exact cAttrs _ hs
        | (simp; done)
        | (simp; done)
        | decide)

theorem right2 (s : Sp) (hs : s.attrs.length ≤ 1000000000) (h0 : (nameB s.svc) = true) (h1 : (nameB s.op) = true) (h2 : (decide (0 ≤ s.start)) = false) : Contract Try.prog 13 [s.v] [] (Bo (rightS s)) [] := by
  unfold rightS
  rw [h0, h1, h2]
  exact vcP hmix [.reg 1 [(2, [.call [] [] (Bo (nameB s.svc)) []], some true), (6, [.call [] [] (Bo (nameB s.op)) []], some true), (11, [], some false)]] [] [
      Contract Try.prog (16 : Nat) [Sg (Sp.svc s)] [] (Bo (nameB (Sp.svc s))) [],
      nameB (Sp.svc s) = true,
      Contract Try.prog (16 : Nat) [Sg (Sp.op s)] [] (Bo (nameB (Sp.op s))) [],
      nameB (Sp.op s) = true,
      decide (Sp.start s ≥ (0 : Int)) = false] (by kernel_rfl)
    (by
      simp only [allP]
      and_intros <;> first
        | omega
        | with_reducible assumption
        | exact cName _
        | exact cAttrs _ hs
        | (simp; done)
        | (simp; done)
        | decide)

theorem right3 (s : Sp) (hs : s.attrs.length ≤ 1000000000) (h0 : (nameB s.svc) = true) (h1 : (nameB s.op) = true) (h2 : (decide (0 ≤ s.start)) = true) (h3 : (decide (s.start ≤ 1099511627776)) = false) : Contract Try.prog 13 [s.v] [] (Bo (rightS s)) [] := by
  unfold rightS
  rw [h0, h1, h2, h3]
  exact vcP hmix [.reg 1 [(2, [.call [] [] (Bo (nameB s.svc)) []], some true), (6, [.call [] [] (Bo (nameB s.op)) []], some true), (11, [], some true), (16, [], some false)]] [] [
      Contract Try.prog (16 : Nat) [Sg (Sp.svc s)] [] (Bo (nameB (Sp.svc s))) [],
      nameB (Sp.svc s) = true,
      Contract Try.prog (16 : Nat) [Sg (Sp.op s)] [] (Bo (nameB (Sp.op s))) [],
      nameB (Sp.op s) = true,
      decide (Sp.start s ≥ (0 : Int)) = true,
      decide (Sp.start s ≤ (1099511627776 : Int)) = false] (by kernel_rfl)
    (by
      simp only [allP]
      and_intros <;> first
        | omega
        | with_reducible assumption
        | exact cName _
        | exact cAttrs _ hs
        | (simp; done)
        | (simp; done)
        | decide)

theorem right4 (s : Sp) (hs : s.attrs.length ≤ 1000000000) (h0 : (nameB s.svc) = true) (h1 : (nameB s.op) = true) (h2 : (decide (0 ≤ s.start)) = true) (h3 : (decide (s.start ≤ 1099511627776)) = true) (h4 : (decide (0 ≤ s.dur)) = false) : Contract Try.prog 13 [s.v] [] (Bo (rightS s)) [] := by
  unfold rightS
  rw [h0, h1, h2, h3, h4]
  exact vcP hmix [.reg 1 [(2, [.call [] [] (Bo (nameB s.svc)) []], some true), (6, [.call [] [] (Bo (nameB s.op)) []], some true), (11, [], some true), (16, [], some true), (21, [], some false)]] [] [
      Contract Try.prog (16 : Nat) [Sg (Sp.svc s)] [] (Bo (nameB (Sp.svc s))) [],
      nameB (Sp.svc s) = true,
      Contract Try.prog (16 : Nat) [Sg (Sp.op s)] [] (Bo (nameB (Sp.op s))) [],
      nameB (Sp.op s) = true,
      decide (Sp.start s ≥ (0 : Int)) = true,
      decide (Sp.start s ≤ (1099511627776 : Int)) = true,
      decide (Sp.dur s ≥ (0 : Int)) = false] (by kernel_rfl)
    (by
      simp only [allP]
      and_intros <;> first
        | omega
        | with_reducible assumption
        | exact cName _
        | exact cAttrs _ hs
        | (simp; done)
        | (simp; done)
        | decide)

theorem right5 (s : Sp) (hs : s.attrs.length ≤ 1000000000) (h0 : (nameB s.svc) = true) (h1 : (nameB s.op) = true) (h2 : (decide (0 ≤ s.start)) = true) (h3 : (decide (s.start ≤ 1099511627776)) = true) (h4 : (decide (0 ≤ s.dur)) = true) (h5 : (decide (s.dur ≤ 1073741824)) = false) : Contract Try.prog 13 [s.v] [] (Bo (rightS s)) [] := by
  unfold rightS
  rw [h0, h1, h2, h3, h4, h5]
  exact vcP hmix [.reg 1 [(2, [.call [] [] (Bo (nameB s.svc)) []], some true), (6, [.call [] [] (Bo (nameB s.op)) []], some true), (11, [], some true), (16, [], some true), (21, [], some true), (26, [], some false)]] [] [
      Contract Try.prog (16 : Nat) [Sg (Sp.svc s)] [] (Bo (nameB (Sp.svc s))) [],
      nameB (Sp.svc s) = true,
      Contract Try.prog (16 : Nat) [Sg (Sp.op s)] [] (Bo (nameB (Sp.op s))) [],
      nameB (Sp.op s) = true,
      decide (Sp.start s ≥ (0 : Int)) = true,
      decide (Sp.start s ≤ (1099511627776 : Int)) = true,
      decide (Sp.dur s ≥ (0 : Int)) = true,
      decide (Sp.dur s ≤ (1073741824 : Int)) = false] (by kernel_rfl)
    (by
      simp only [allP]
      and_intros <;> first
        | omega
        | with_reducible assumption
        | exact cName _
        | exact cAttrs _ hs
        | (simp; done)
        | (simp; done)
        | decide)

theorem right6 (s : Sp) (hs : s.attrs.length ≤ 1000000000) (h0 : (nameB s.svc) = true) (h1 : (nameB s.op) = true) (h2 : (decide (0 ≤ s.start)) = true) (h3 : (decide (s.start ≤ 1099511627776)) = true) (h4 : (decide (0 ≤ s.dur)) = true) (h5 : (decide (s.dur ≤ 1073741824)) = true) (h6 : (decide ((s.attrs.length : Int) ≤ 4)) = false) : Contract Try.prog 13 [s.v] [] (Bo (rightS s)) [] := by
  unfold rightS
  rw [h0, h1, h2, h3, h4, h5, h6]
  exact vcP hmix [.reg 1 [(2, [.call [] [] (Bo (nameB s.svc)) []], some true), (6, [.call [] [] (Bo (nameB s.op)) []], some true), (11, [], some true), (16, [], some true), (21, [], some true), (26, [], some true), (31, [.be (I (s.attrs.length : Int))], none), (32, [], some false)]] [] [
      Contract Try.prog (16 : Nat) [Sg (Sp.svc s)] [] (Bo (nameB (Sp.svc s))) [],
      nameB (Sp.svc s) = true,
      Contract Try.prog (16 : Nat) [Sg (Sp.op s)] [] (Bo (nameB (Sp.op s))) [],
      nameB (Sp.op s) = true,
      decide (Sp.start s ≥ (0 : Int)) = true,
      decide (Sp.start s ≤ (1099511627776 : Int)) = true,
      decide (Sp.dur s ≥ (0 : Int)) = true,
      decide (Sp.dur s ≤ (1073741824 : Int)) = true,
      Int.ofNat (List.length (List.map At.row (Sp.attrs s))) = Int.ofNat (List.length (Sp.attrs s)),
      decide (Int.ofNat (List.length (Sp.attrs s)) ≤ (4 : Int)) = false] (by kernel_rfl)
    (by
      simp only [allP]
      and_intros <;> first
        | omega
        | with_reducible assumption
        | exact cName _
        | exact cAttrs _ hs
        | (simp; done)
        | (simp; done)
        | decide)

theorem right7 (s : Sp) (hs : s.attrs.length ≤ 1000000000) (h0 : (nameB s.svc) = true) (h1 : (nameB s.op) = true) (h2 : (decide (0 ≤ s.start)) = true) (h3 : (decide (s.start ≤ 1099511627776)) = true) (h4 : (decide (0 ≤ s.dur)) = true) (h5 : (decide (s.dur ≤ 1073741824)) = true) (h6 : (decide ((s.attrs.length : Int) ≤ 4)) = true) : Contract Try.prog 13 [s.v] [] (Bo (rightS s)) [] := by
  unfold rightS
  rw [h0, h1, h2, h3, h4, h5, h6]
  exact vcP hmix [.reg 1 [(2, [.call [] [] (Bo (nameB s.svc)) []], some true), (6, [.call [] [] (Bo (nameB s.op)) []], some true), (11, [], some true), (16, [], some true), (21, [], some true), (26, [], some true), (31, [.be (I (s.attrs.length : Int))], none), (32, [], some true), (37, [.call [] [] (Bo (attrsB s.attrs)) []], none)]] [] [
      Contract Try.prog (16 : Nat) [Sg (Sp.svc s)] [] (Bo (nameB (Sp.svc s))) [],
      nameB (Sp.svc s) = true,
      Contract Try.prog (16 : Nat) [Sg (Sp.op s)] [] (Bo (nameB (Sp.op s))) [],
      nameB (Sp.op s) = true,
      decide (Sp.start s ≥ (0 : Int)) = true,
      decide (Sp.start s ≤ (1099511627776 : Int)) = true,
      decide (Sp.dur s ≥ (0 : Int)) = true,
      decide (Sp.dur s ≤ (1073741824 : Int)) = true,
      Int.ofNat (List.length (List.map At.row (Sp.attrs s))) = Int.ofNat (List.length (Sp.attrs s)),
      decide (Int.ofNat (List.length (Sp.attrs s)) ≤ (4 : Int)) = true,
      Contract Try.prog (17 : Nat) [V.sl (2 : Nat) (List.map At.row (Sp.attrs s))] [] (Bo (attrsB (Sp.attrs s))) []] (by kernel_rfl)
    (by
      simp only [allP]
      and_intros <;> first
        | omega
        | with_reducible assumption
        | exact cName _
        | exact cAttrs _ hs
        | (simp; done)
        | (simp; done)
        | decide)

theorem cRight (s : Sp) (hs : s.attrs.length ≤ 1000000000) : Contract Try.prog 13 [s.v] [] (Bo (rightS s)) [] := by
  cases h0 : (nameB s.svc) with
  | false => exact right0 s hs h0
  | true =>
    cases h1 : (nameB s.op) with
    | false => exact right1 s hs h0 h1
    | true =>
      cases h2 : (decide (0 ≤ s.start)) with
      | false => exact right2 s hs h0 h1 h2
      | true =>
        cases h3 : (decide (s.start ≤ 1099511627776)) with
        | false => exact right3 s hs h0 h1 h2 h3
        | true =>
          cases h4 : (decide (0 ≤ s.dur)) with
          | false => exact right4 s hs h0 h1 h2 h3 h4
          | true =>
            cases h5 : (decide (s.dur ≤ 1073741824)) with
            | false => exact right5 s hs h0 h1 h2 h3 h4 h5
            | true =>
              cases h6 : (decide ((s.attrs.length : Int) ≤ 4)) with
              | false => exact right6 s hs h0 h1 h2 h3 h4 h5 h6
              | true =>
                exact right7 s hs h0 h1 h2 h3 h4 h5 h6

theorem caGoA (b : List Sp) (s x : Sp) (i : Nat) (h : i < b.length) (hx : b[i]? = some x) (hs : b.length ≤ 1000000000) (ha : x.attrs.length ≤ 1000000000) (h1 : (decide (x.hi = s.hi) && (decide (x.lo = s.lo) && true)) = false) : CodeC Try.prog 0 38 caB (caS b s ByteArray.empty false i) .normal (caS b s ByteArray.empty false (i + 1)) :=
  runP hmix [.reg 2 [(0, [], some true)], .reg 3 [(1, [.row (Sp.row x)], none)], .reg 4 [(4, [], some false)], .reg 6 [(0, [.be (I ((i + 1 : Nat) : Int))], none)]] ⟨[3, 4, 5, 8, 9, 10], [(1000, 1000)], []⟩ [
      decide (Int.ofNat i < Int.ofNat (List.length b)) = true,
      (0 : Int) ≤ Int.ofNat i,
      Int.ofNat i < Int.ofNat (List.length (List.map Sp.row b)),
      (List.map Sp.row b)[i]? = some (Sp.row x),
      (decide (Sp.hi x = Sp.hi s) && (decide (Sp.lo x = Sp.lo s) && true)) = false,
      IntKind.wrap IntKind.i64 (Int.ofNat (i + (1 : Nat))) = Int.ofNat (i + (1 : Nat))] (by kernel_rfl)
    (by
      simp only [allP]
      and_intros <;> first
        | omega
        | with_reducible assumption
        | exact cRight x ha
        | (simp; omega)
        | (simp [hx]; done)
        | exact i64_small (by simp; omega)
        | exact h1
        | exact h2
        | exact h3
        | (simp; done)
        | decide)

theorem caGoB (b : List Sp) (s x : Sp) (i : Nat) (h : i < b.length) (hx : b[i]? = some x) (hs : b.length ≤ 1000000000) (ha : x.attrs.length ≤ 1000000000) (h1 : (decide (x.hi = s.hi) && (decide (x.lo = s.lo) && true)) = true) (h2 : (x.id == s.par) = false) : CodeC Try.prog 0 38 caB (caS b s ByteArray.empty false i) .normal (caS b s ByteArray.empty false (i + 1)) :=
  runP hmix [.reg 2 [(0, [], some true)], .reg 3 [(1, [.row (Sp.row x)], none)], .reg 4 [(4, [], some true), (10, [], some false)], .reg 6 [(0, [.be (I ((i + 1 : Nat) : Int))], none)]] ⟨[3, 4, 5, 8, 9, 10], [(1000, 1000)], []⟩ [
      decide (Int.ofNat i < Int.ofNat (List.length b)) = true,
      (0 : Int) ≤ Int.ofNat i,
      Int.ofNat i < Int.ofNat (List.length (List.map Sp.row b)),
      (List.map Sp.row b)[i]? = some (Sp.row x),
      (decide (Sp.hi x = Sp.hi s) && (decide (Sp.lo x = Sp.lo s) && true)) = true,
      (Sp.id x == Sp.par s) = false,
      IntKind.wrap IntKind.i64 (Int.ofNat (i + (1 : Nat))) = Int.ofNat (i + (1 : Nat))] (by kernel_rfl)
    (by
      simp only [allP]
      and_intros <;> first
        | omega
        | with_reducible assumption
        | exact cRight x ha
        | (simp; omega)
        | (simp [hx]; done)
        | exact i64_small (by simp; omega)
        | exact h1
        | exact h2
        | exact h3
        | (simp; done)
        | decide)

theorem caGoC (b : List Sp) (s x : Sp) (i : Nat) (h : i < b.length) (hx : b[i]? = some x) (hs : b.length ≤ 1000000000) (ha : x.attrs.length ≤ 1000000000) (h1 : (decide (x.hi = s.hi) && (decide (x.lo = s.lo) && true)) = true) (h2 : (x.id == s.par) = true) (h3 : rightS x = false) : CodeC Try.prog 0 38 caB (caS b s ByteArray.empty false i) .normal (caS b s ByteArray.empty false (i + 1)) :=
  runP hmix [.reg 2 [(0, [], some true)], .reg 3 [(1, [.row (Sp.row x)], none)], .reg 4 [(4, [], some true), (10, [], some true), (14, [.call [] [] (Bo (rightS x)) []], some false)], .reg 6 [(0, [.be (I ((i + 1 : Nat) : Int))], none)]] ⟨[3, 4, 5, 8, 9, 10], [(1000, 1000)], []⟩ [
      decide (Int.ofNat i < Int.ofNat (List.length b)) = true,
      (0 : Int) ≤ Int.ofNat i,
      Int.ofNat i < Int.ofNat (List.length (List.map Sp.row b)),
      (List.map Sp.row b)[i]? = some (Sp.row x),
      (decide (Sp.hi x = Sp.hi s) && (decide (Sp.lo x = Sp.lo s) && true)) = true,
      (Sp.id x == Sp.par s) = true,
      Contract Try.prog (13 : Nat) [V.agg [V.val (Value.int IntKind.u64 (Sp.hi x)), V.val (Value.int IntKind.u64 (Sp.lo x)), V.val (Value.int IntKind.u64 (Sp.id x)), V.val (Value.int IntKind.u64 (Sp.par x)), Sg (Sp.svc x), Sg (Sp.op x), I (Sp.start x), I (Sp.dur x), Bo (Sp.err x), V.sl (2 : Nat) (List.map At.row (Sp.attrs x))]] [] (Bo (rightS x)) [],
      rightS x = false,
      IntKind.wrap IntKind.i64 (Int.ofNat (i + (1 : Nat))) = Int.ofNat (i + (1 : Nat))] (by kernel_rfl)
    (by
      simp only [allP]
      and_intros <;> first
        | omega
        | with_reducible assumption
        | exact cRight x ha
        | (simp; omega)
        | (simp [hx]; done)
        | exact i64_small (by simp; omega)
        | exact h1
        | exact h2
        | exact h3
        | (simp; done)
        | decide)

theorem caStop (b : List Sp) (s x : Sp) (i : Nat) (h : i < b.length) (hx : b[i]? = some x) (hs : b.length ≤ 1000000000) (ha : x.attrs.length ≤ 1000000000) (h1 : (decide (x.hi = s.hi) && (decide (x.lo = s.lo) && true)) = true) (h2 : (x.id == s.par) = true) (h3 : rightS x = true) : CodeC Try.prog 0 38 caB (caS b s ByteArray.empty false i) .ret (caS b s x.svc (!(x.svc.toList == s.svc.toList)) i) :=
  runP hmix [.reg 2 [(0, [], some true)], .reg 3 [(1, [.row (Sp.row x)], none)], .reg 4 [(4, [], some true), (10, [], some true), (14, [.call [] [] (Bo (rightS x)) []], some true)]] ⟨[3, 4, 5, 8, 9, 10], [(1000, 1000)], []⟩ [
      decide (Int.ofNat i < Int.ofNat (List.length b)) = true,
      (0 : Int) ≤ Int.ofNat i,
      Int.ofNat i < Int.ofNat (List.length (List.map Sp.row b)),
      (List.map Sp.row b)[i]? = some (Sp.row x),
      (decide (Sp.hi x = Sp.hi s) && (decide (Sp.lo x = Sp.lo s) && true)) = true,
      (Sp.id x == Sp.par s) = true,
      Contract Try.prog (13 : Nat) [V.agg [V.val (Value.int IntKind.u64 (Sp.hi x)), V.val (Value.int IntKind.u64 (Sp.lo x)), V.val (Value.int IntKind.u64 (Sp.id x)), V.val (Value.int IntKind.u64 (Sp.par x)), Sg (Sp.svc x), Sg (Sp.op x), I (Sp.start x), I (Sp.dur x), Bo (Sp.err x), V.sl (2 : Nat) (List.map At.row (Sp.attrs x))]] [] (Bo (rightS x)) [],
      rightS x = true] (by kernel_rfl)
    (by
      simp only [allP]
      and_intros <;> first
        | omega
        | with_reducible assumption
        | exact cRight x ha
        | (simp; omega)
        | (simp [hx]; done)
        | exact i64_small (by simp; omega)
        | exact h1
        | exact h2
        | exact h3
        | (simp; done)
        | decide)

theorem caEnd (b : List Sp) (s : Sp) (i : Nat) (h : b.length ≤ i) : CodeC Try.prog 0 38 caB (caS b s ByteArray.empty false i) (.exit 0) (caS b s ByteArray.empty false i) :=
  runP hmix [.reg 2 [(0, [], some false)]] ⟨[3, 4, 5, 8, 9, 10], [(1000, 1000)], []⟩ [
      decide (Int.ofNat i < Int.ofNat (List.length b)) = false] (by kernel_rfl)
    (by
      simp only [allP]
      and_intros <;> first
        | omega
        | with_reducible assumption
        | (simp; omega)
        | (simp; done)
        | decide)

theorem caSome (b : List Sp) (s x : Sp) (i : Nat) (hl : LoopC Try.prog 0 38 caB (caS b s ByteArray.empty false 0) .ret (caS b s x.svc (!(x.svc.toList == s.svc.toList)) i)) : Contract Try.prog 14 [.sl 10 (b.map Sp.row), s.v] [] (.tup [Sg x.svc, Bo (!(x.svc.toList == s.svc.toList))]) [] :=
  vcP hmix [.reg 1 [(1, [.be (I (b.length : Int))], none)], .cut ⟨[3, 4, 5, 8, 9, 10], [(1000, 1000)], []⟩ .ret (caS b s x.svc (!(x.svc.toList == s.svc.toList)) i)] [] [
      Int.ofNat (List.length (List.map Sp.row b)) = Int.ofNat (List.length b),
      LoopC Try.prog (0 : Nat) (38 : Nat) caB { env := [((3 : Nat), V.ptr (1000 : Nat) (0 : Nat) (0 : Nat) (0 : Nat)), ((4 : Nat), Sg { data := { toList := [] } }), ((5 : Nat), Bo false), ((8 : Nat), V.sl (10 : Nat) (List.map Sp.row b)), ((9 : Nat), I (Int.ofNat (List.length b))), ((10 : Nat), I (0 : Int))], st := [((1000 : Nat), Obj.box [V.val (Value.int IntKind.u64 (Sp.hi s)), V.val (Value.int IntKind.u64 (Sp.lo s)), V.val (Value.int IntKind.u64 (Sp.id s)), V.val (Value.int IntKind.u64 (Sp.par s)), Sg (Sp.svc s), Sg (Sp.op s), I (Sp.start s), I (Sp.dur s), Bo (Sp.err s), V.sl (2 : Nat) (List.map At.row (Sp.attrs s))])], ids := [(1000 : Nat)] } Ex.ret { env := [((3 : Nat), V.ptr (1000 : Nat) (0 : Nat) (0 : Nat) (0 : Nat)), ((4 : Nat), Sg (Sp.svc x)), ((5 : Nat), Bo !ByteArray.toList (Sp.svc x) == ByteArray.toList (Sp.svc s)), ((8 : Nat), V.sl (10 : Nat) (List.map Sp.row b)), ((9 : Nat), I (Int.ofNat (List.length b))), ((10 : Nat), I (Int.ofNat i))], st := [((1000 : Nat), Obj.box (Sp.row s))], ids := [(1000 : Nat)] }] (by kernel_rfl)
    (by
      simp only [allP]
      and_intros <;> first
        | omega
        | with_reducible assumption
        | exact hl
        | (simp; done)
        | (simp; done)
        | decide)

theorem caNone (b : List Sp) (s : Sp) (hl : LoopC Try.prog 0 38 caB (caS b s ByteArray.empty false 0) (.exit 0) (caS b s ByteArray.empty false b.length)) : Contract Try.prog 14 [.sl 10 (b.map Sp.row), s.v] [] (.tup [Sg ByteArray.empty, Bo false]) [] :=
  vcP hmix [.reg 1 [(1, [.be (I (b.length : Int))], none)], .cut ⟨[3, 4, 5, 8, 9, 10], [(1000, 1000)], []⟩ (.exit 0) (caS b s ByteArray.empty false b.length)] [] [
      Int.ofNat (List.length (List.map Sp.row b)) = Int.ofNat (List.length b),
      LoopC Try.prog (0 : Nat) (38 : Nat) caB { env := [((3 : Nat), V.ptr (1000 : Nat) (0 : Nat) (0 : Nat) (0 : Nat)), ((4 : Nat), Sg { data := { toList := [] } }), ((5 : Nat), Bo false), ((8 : Nat), V.sl (10 : Nat) (List.map Sp.row b)), ((9 : Nat), I (Int.ofNat (List.length b))), ((10 : Nat), I (0 : Int))], st := [((1000 : Nat), Obj.box [V.val (Value.int IntKind.u64 (Sp.hi s)), V.val (Value.int IntKind.u64 (Sp.lo s)), V.val (Value.int IntKind.u64 (Sp.id s)), V.val (Value.int IntKind.u64 (Sp.par s)), Sg (Sp.svc s), Sg (Sp.op s), I (Sp.start s), I (Sp.dur s), Bo (Sp.err s), V.sl (2 : Nat) (List.map At.row (Sp.attrs s))])], ids := [(1000 : Nat)] } (Ex.exit (0 : Nat)) { env := [((3 : Nat), V.ptr (1000 : Nat) (0 : Nat) (0 : Nat) (0 : Nat)), ((4 : Nat), Sg { data := { toList := [] } }), ((5 : Nat), Bo false), ((8 : Nat), V.sl (10 : Nat) (List.map Sp.row b)), ((9 : Nat), I (Int.ofNat (List.length b))), ((10 : Nat), I (Int.ofNat (List.length b)))], st := [((1000 : Nat), Obj.box (Sp.row s))], ids := [(1000 : Nat)] }] (by kernel_rfl)
    (by
      simp only [allP]
      and_intros <;> first
        | omega
        | with_reducible assumption
        | exact hl
        | (simp; done)
        | (simp; done)
        | decide)

theorem cCaller (b : List Sp) (s : Sp) (hs : b.length ≤ 1000000000) (ha : ∀ x ∈ b, x.attrs.length ≤ 1000000000) : Contract Try.prog 14 [.sl 10 (b.map Sp.row), s.v] [] (.tup [Sg (callerS b s).1, Bo (callerS b s).2]) [] := by
  rcases LoopC.search (P := Try.prog) (k := 0) (n := 38) (c := caB) b (fun _ x => callM s x) (fun i => caS b s ByteArray.empty false i) (fun i => match b[i]? with
      | some x => caS b s x.svc (!(x.svc.toList == s.svc.toList)) i
      | none => caS b s ByteArray.empty false i) (e1 := .ret) (e2 := .exit 0) (by simp) (by simp)
    (fun i x hx hi hb => by
      have hax := ha x (List.mem_of_getElem? hx)
      unfold callM at hb
      cases h1 : (decide (x.hi = s.hi) && (decide (x.lo = s.lo) && true)) with
      | false => exact caGoA b s x i hi hx hs hax h1
      | true =>
        cases h2 : x.id == s.par with
        | false => exact caGoB b s x i hi hx hs hax h1 h2
        | true => rw [h1, h2] at hb; exact caGoC b s x i hi hx hs hax h1 h2 hb)
    (fun i x hx hi hb => by
      have hax := ha x (List.mem_of_getElem? hx)
      unfold callM at hb
      simp only [hx]
      cases h1 : (decide (x.hi = s.hi) && (decide (x.lo = s.lo) && true)) with
      | false => rw [h1] at hb; cases hb
      | true =>
        cases h2 : x.id == s.par with
        | false => rw [h1, h2] at hb; cases hb
        | true => rw [h1, h2] at hb; exact caStop b s x i hi hx hs hax h1 h2 hb)
    (caEnd b s _ (Nat.le_refl _)) with ⟨i, x, k1, k2, k3, k4⟩ | ⟨k1, k2⟩
  · unfold callerS
    rw [find_first k1 k2 fun j y hj hy => k3 j y hj hy]
    simp only [k1] at k4
    exact caSome b s x i k4
  · unfold callerS
    rw [find_none fun i x hx => k1 i x hx]
    exact caNone b s k2

end Go.Proofs.Ytieffigehkjifaa

/- edges: calls are counted. -/
namespace Go.Proofs.Ytieffigehkjifaa
open E
set_option maxRecDepth 100000
set_option linter.unusedVariables false
set_option linter.unusedSimpArgs false


def insE {α : Type} (l : List α) (i : Nat) (e : α) : List α := l.take i ++ e :: l.drop i
def errN (err : Bool) : Int := bif err then 1 else 0
def bumpE (m : Int) (err : Bool) (e : Ed) : Ed := Ed.mk e.fr e.to (plusR e.cnt 1 m) (plusR e.errs (errN err) m)
/-- A call counted. -/
def countE (l : List Ed) (key : Ed) (err : Bool) (m : Int) : List Ed := match l.findIdx? (pEq key) with
  | some j => l.modify j (bumpE m err)
  | none => (insE l ((l.findIdx? (pGt key)).getD l.length) key).modify ((l.findIdx? (pGt key)).getD l.length) (bumpE m err)
def stepE (batch : List Sp) (m : Int) (l : List Ed) (s : Sp) : List Ed := bif rightS s then (bif (callerS batch s).2 then countE l (Ed.mk (callerS batch s).1 s.svc 0 0) s.err m else l) else l
def adS (b : List Sp) (m : Int) (l : List Ed) (i : Nat) : SL := ⟨[(0, .own 900), (1, .sl 10 (b.map Sp.row)), (2, I m), (13, .sl 10 (b.map Sp.row)), (14, I (b.length : Int)), (15, I (i : Int))], [(900, .arr 4 (l.map Ed.row))], [900]⟩
noncomputable def adB : Code := codeAt Try.prog 8 [true, true, false, true, false, false]

theorem insE_len {α : Type} (l : List α) (i : Nat) (e : α) : (insE l i e).length = l.length + 1 := by
  simp [insE]; omega
theorem insO' (l : List Ed) (e : Ed) (k : Nat) (hk : k ≤ l.length) (hb : l.length ≤ 1000000000) : Contract Try.prog 22 [.own 0, I (k : Int), .own 1] [.arr 4 (l.map Ed.row), .arr 4 [e.row]] (.own 2) [none, some (.arr 4 [e.row]), some (.arr 4 ((insE l k e).map Ed.row))] := by
  have h := insO (l.map Ed.row) e.row k (by simpa using hk) (by rw [List.length_map]; omega)
  rw [show (insE l k e).map Ed.row = (l.map Ed.row).take k ++ e.row :: (l.map Ed.row).drop k by simp [insE, List.map_take, List.map_drop]]
  exact h
theorem setRow2 (l : List Ed) (j : Nat) (a b : Ed) : ((l.set j a).map Ed.row).set j b.row = (l.set j b).map Ed.row := by
  rw [setRow, List.set_set]
theorem getRow2 (l : List Ed) (j : Nat) (a : Ed) (h : j < l.length) : ((l.set j a).map Ed.row)[j]? = some a.row := by simp [h]

theorem cntA1 (l : List Ed) (key x : Ed) (m : Int) (j : Nat) (hs : l.length ≤ 1000000000) (hf : idxI (pEq key) l = (j : Int)) (hx : l[j]? = some x) (hT : j < l.length) : Contract Try.prog 15 [.own 0, key.v, Bo true, I m] [.arr 4 (l.map Ed.row)] (.own 1) [none, some (.arr 4 ((l.set j (Ed.mk x.fr x.to (plusR x.cnt 1 m) (plusR x.errs 1 m))).map Ed.row))] :=
  vcP hmix [.reg 1 [(2, [.call [1000] [] (I (idxI (pEq key) l)) [some (.box key.row)], .be (I (j : Int))], none)], .reg 10 [(8, [.row (Ed.row x)], none), (10, [.call [] [] (I (plusR x.cnt 1 m)) []], none), (15, [.row (Ed.row x)], none), (18, [.call [] [] (I (plusR x.errs 1 m)) []], none), (21, [.row (Ed.row x), .beO ((l.set j (Ed.mk x.fr x.to (plusR x.cnt 1 m) x.errs)).map Ed.row)], none), (24, [.row (Ed.row (Ed.mk x.fr x.to (plusR x.cnt 1 m) x.errs)), .beO ((l.set j (Ed.mk x.fr x.to (plusR x.cnt 1 m) (plusR x.errs 1 m))).map Ed.row)], none)], .reg 11 [(0, [.idx 0], none)]] [2201000] [
      Contract Try.prog (18 : Nat) [V.sl (4 : Nat) (List.map Ed.row l), V.clo (Fn.func (19 : Nat)) [] [V.ptr (0 : Nat) (0 : Nat) (0 : Nat) (0 : Nat)]] [Obj.box [Sg (Ed.fr key), Sg (Ed.to key), I (Ed.cnt key), I (Ed.errs key)]] (I (idxI (pEq key) l)) [some (Obj.box (Ed.row key))],
      true = true,
      true = true,
      idxI (pEq key) l = Int.ofNat j,
      (0 : Int) ≤ Int.ofNat j,
      Int.ofNat j < Int.ofNat (List.length (List.map Ed.row l)),
      (List.map Ed.row l)[j]? = some (Ed.row x),
      Contract Try.prog (23 : Nat) [I (Ed.cnt x), I (1 : Int), I m] [] (I (plusR (Ed.cnt x) (1 : Int) m)) [],
      (0 : Int) ≤ Int.ofNat j,
      Int.ofNat j < Int.ofNat (List.length (List.map Ed.row l)),
      (List.map Ed.row l)[j]? = some (Ed.row x),
      Contract Try.prog (23 : Nat) [I (Ed.errs x), I (1 : Int), I m] [] (I (plusR (Ed.errs x) (1 : Int) m)) [],
      (0 : Int) ≤ Int.ofNat j,
      Int.ofNat j < Int.ofNat (List.length (List.map Ed.row l)),
      (List.map Ed.row l)[j]? = some (Ed.row x),
      List.set (List.map Ed.row l) j [Sg (Ed.fr x), Sg (Ed.to x), I (plusR (Ed.cnt x) (1 : Int) m), I (Ed.errs x)] = List.map Ed.row (List.set l j { fr := Ed.fr x, to := Ed.to x, cnt := plusR (Ed.cnt x) (1 : Int) m, errs := Ed.errs x }),
      (0 : Int) ≤ Int.ofNat j,
      Int.ofNat j < Int.ofNat (List.length (List.map Ed.row (List.set l j { fr := Ed.fr x, to := Ed.to x, cnt := plusR (Ed.cnt x) (1 : Int) m, errs := Ed.errs x }))),
      (List.map Ed.row (List.set l j { fr := Ed.fr x, to := Ed.to x, cnt := plusR (Ed.cnt x) (1 : Int) m, errs := Ed.errs x }))[j]? = some (Ed.row { fr := Ed.fr x, to := Ed.to x, cnt := plusR (Ed.cnt x) (1 : Int) m, errs := Ed.errs x }),
      List.set (List.map Ed.row (List.set l j { fr := Ed.fr x, to := Ed.to x, cnt := plusR (Ed.cnt x) (1 : Int) m, errs := Ed.errs x })) j [Sg (Ed.fr x), Sg (Ed.to x), I (plusR (Ed.cnt x) (1 : Int) m), I (plusR (Ed.errs x) (1 : Int) m)] = List.map Ed.row (List.set l j { fr := Ed.fr x, to := Ed.to x, cnt := plusR (Ed.cnt x) (1 : Int) m, errs := plusR (Ed.errs x) (1 : Int) m })] (by kernel_rfl)
    (by
      simp only [allP]
      and_intros <;> first
        | omega
        | with_reducible assumption
        | exact ixE l key (by omega)
        | exact ixG l key (by omega)
        | exact cPlus _ _ _
        | exact flatEd _
        | exact setRow Ed.row l j (Ed.mk x.fr x.to (plusR x.cnt 1 m) x.errs)
        | exact setRow2 l j (Ed.mk x.fr x.to (plusR x.cnt 1 m) x.errs) (Ed.mk x.fr x.to (plusR x.cnt 1 m) (plusR x.errs 1 m))
        | exact getRow2 l j (Ed.mk x.fr x.to (plusR x.cnt 1 m) x.errs) hT
        | (simp; omega)
        | (simp [hx]; done)
        | (simp; done)
        | decide)

theorem cntB1 (l : List Ed) (x : Ed) (m : Int) (j : Nat) (hs : l.length ≤ 1000000000) (hf : idxI (pEq x) l = -1) (hg : idxI (pGt x) l = (j : Int)) (hj : j ≤ l.length) (hx : (insE l j x)[j]? = some x) (hT : j < (insE l j x).length) : Contract Try.prog 15 [.own 0, x.v, Bo true, I m] [.arr 4 (l.map Ed.row)] (.own 1) [none, some (.arr 4 (((insE l j x).set j (Ed.mk x.fr x.to (plusR x.cnt 1 m) (plusR x.errs 1 m))).map Ed.row))] :=
  vcP hmix [.reg 1 [(2, [.call [1000] [] (I (idxI (pEq x) l)) [some (.box x.row)], .be (I (-1))], none)], .reg 3 [(2, [.call [1000] [] (I (idxI (pGt x) l)) [some (.box x.row)], .be (I (j : Int))], none)], .reg 6 [(4, [.call [0, 1204000] [] (.own 2) [none, some (.arr 4 [x.row]), some (.arr 4 ((insE l j x).map Ed.row))]], none)], .reg 10 [(8, [.row (Ed.row x)], none), (10, [.call [] [] (I (plusR x.cnt 1 m)) []], none), (15, [.row (Ed.row x)], none), (18, [.call [] [] (I (plusR x.errs 1 m)) []], none), (21, [.row (Ed.row x), .beO (((insE l j x).set j (Ed.mk x.fr x.to (plusR x.cnt 1 m) x.errs)).map Ed.row)], none), (24, [.row (Ed.row (Ed.mk x.fr x.to (plusR x.cnt 1 m) x.errs)), .beO (((insE l j x).set j (Ed.mk x.fr x.to (plusR x.cnt 1 m) (plusR x.errs 1 m))).map Ed.row)], none)], .reg 11 [(0, [.idx 0], none)]] [2201000] [
      Contract Try.prog (18 : Nat) [V.sl (4 : Nat) (List.map Ed.row l), V.clo (Fn.func (19 : Nat)) [] [V.ptr (0 : Nat) (0 : Nat) (0 : Nat) (0 : Nat)]] [Obj.box [Sg (Ed.fr x), Sg (Ed.to x), I (Ed.cnt x), I (Ed.errs x)]] (I (idxI (pEq x) l)) [some (Obj.box (Ed.row x))],
      true = true,
      true = true,
      idxI (pEq x) l = (-1 : Int),
      Contract Try.prog (18 : Nat) [V.sl (4 : Nat) (List.map Ed.row l), V.clo (Fn.func (21 : Nat)) [] [V.ptr (0 : Nat) (0 : Nat) (0 : Nat) (0 : Nat)]] [Obj.box [Sg (Ed.fr x), Sg (Ed.to x), I (Ed.cnt x), I (Ed.errs x)]] (I (idxI (pGt x) l)) [some (Obj.box (Ed.row x))],
      true = true,
      true = true,
      idxI (pGt x) l = Int.ofNat j,
      Contract Try.prog (22 : Nat) [V.own (0 : Nat), I (Int.ofNat j), V.own (1 : Nat)] [Obj.arr (4 : Nat) (List.map Ed.row l), Obj.arr (4 : Nat) [[Sg (Ed.fr x), Sg (Ed.to x), I (Ed.cnt x), I (Ed.errs x)]]] (V.own (2 : Nat)) [none, some (Obj.arr (4 : Nat) [Ed.row x]), some (Obj.arr (4 : Nat) (List.map Ed.row (insE l j x)))],
      (0 : Int) ≤ Int.ofNat j,
      Int.ofNat j < Int.ofNat (List.length (List.map Ed.row (insE l j x))),
      (List.map Ed.row (insE l j x))[j]? = some (Ed.row x),
      Contract Try.prog (23 : Nat) [I (Ed.cnt x), I (1 : Int), I m] [] (I (plusR (Ed.cnt x) (1 : Int) m)) [],
      (0 : Int) ≤ Int.ofNat j,
      Int.ofNat j < Int.ofNat (List.length (List.map Ed.row (insE l j x))),
      (List.map Ed.row (insE l j x))[j]? = some (Ed.row x),
      Contract Try.prog (23 : Nat) [I (Ed.errs x), I (1 : Int), I m] [] (I (plusR (Ed.errs x) (1 : Int) m)) [],
      (0 : Int) ≤ Int.ofNat j,
      Int.ofNat j < Int.ofNat (List.length (List.map Ed.row (insE l j x))),
      (List.map Ed.row (insE l j x))[j]? = some (Ed.row x),
      List.set (List.map Ed.row (insE l j x)) j [Sg (Ed.fr x), Sg (Ed.to x), I (plusR (Ed.cnt x) (1 : Int) m), I (Ed.errs x)] = List.map Ed.row (List.set (insE l j x) j { fr := Ed.fr x, to := Ed.to x, cnt := plusR (Ed.cnt x) (1 : Int) m, errs := Ed.errs x }),
      (0 : Int) ≤ Int.ofNat j,
      Int.ofNat j < Int.ofNat (List.length (List.map Ed.row (List.set (insE l j x) j { fr := Ed.fr x, to := Ed.to x, cnt := plusR (Ed.cnt x) (1 : Int) m, errs := Ed.errs x }))),
      (List.map Ed.row (List.set (insE l j x) j { fr := Ed.fr x, to := Ed.to x, cnt := plusR (Ed.cnt x) (1 : Int) m, errs := Ed.errs x }))[j]? = some (Ed.row { fr := Ed.fr x, to := Ed.to x, cnt := plusR (Ed.cnt x) (1 : Int) m, errs := Ed.errs x }),
      List.set (List.map Ed.row (List.set (insE l j x) j { fr := Ed.fr x, to := Ed.to x, cnt := plusR (Ed.cnt x) (1 : Int) m, errs := Ed.errs x })) j [Sg (Ed.fr x), Sg (Ed.to x), I (plusR (Ed.cnt x) (1 : Int) m), I (plusR (Ed.errs x) (1 : Int) m)] = List.map Ed.row (List.set (insE l j x) j { fr := Ed.fr x, to := Ed.to x, cnt := plusR (Ed.cnt x) (1 : Int) m, errs := plusR (Ed.errs x) (1 : Int) m })] (by kernel_rfl)
    (by
      simp only [allP]
      and_intros <;> first
        | omega
        | with_reducible assumption
        | exact ixE l x (by omega)
        | exact ixG l x (by omega)
        | exact cPlus _ _ _
        | exact flatEd _
        | exact setRow Ed.row (insE l j x) j (Ed.mk x.fr x.to (plusR x.cnt 1 m) x.errs)
        | exact setRow2 (insE l j x) j (Ed.mk x.fr x.to (plusR x.cnt 1 m) x.errs) (Ed.mk x.fr x.to (plusR x.cnt 1 m) (plusR x.errs 1 m))
        | exact getRow2 (insE l j x) j (Ed.mk x.fr x.to (plusR x.cnt 1 m) x.errs) hT
        | (simp; omega)
        | (simp [hx]; done)
        | exact insO' l x j (by omega) hs
        | (simp; done)
        | decide)

theorem cntC1 (l : List Ed) (x : Ed) (m : Int) (j : Nat) (hs : l.length ≤ 1000000000) (hf : idxI (pEq x) l = -1) (hg : idxI (pGt x) l = -1) (hj : j = l.length) (hx : (insE l j x)[j]? = some x) (hT : j < (insE l j x).length) : Contract Try.prog 15 [.own 0, x.v, Bo true, I m] [.arr 4 (l.map Ed.row)] (.own 1) [none, some (.arr 4 (((insE l j x).set j (Ed.mk x.fr x.to (plusR x.cnt 1 m) (plusR x.errs 1 m))).map Ed.row))] :=
  vcP hmix [.reg 1 [(2, [.call [1000] [] (I (idxI (pEq x) l)) [some (.box x.row)], .be (I (-1))], none)], .reg 3 [(2, [.call [1000] [] (I (idxI (pGt x) l)) [some (.box x.row)], .be (I (-1))], none)], .reg 5 [(1, [.be (I (j : Int))], none)], .reg 6 [(4, [.call [0, 1204000] [] (.own 2) [none, some (.arr 4 [x.row]), some (.arr 4 ((insE l j x).map Ed.row))]], none)], .reg 10 [(8, [.row (Ed.row x)], none), (10, [.call [] [] (I (plusR x.cnt 1 m)) []], none), (15, [.row (Ed.row x)], none), (18, [.call [] [] (I (plusR x.errs 1 m)) []], none), (21, [.row (Ed.row x), .beO (((insE l j x).set j (Ed.mk x.fr x.to (plusR x.cnt 1 m) x.errs)).map Ed.row)], none), (24, [.row (Ed.row (Ed.mk x.fr x.to (plusR x.cnt 1 m) x.errs)), .beO (((insE l j x).set j (Ed.mk x.fr x.to (plusR x.cnt 1 m) (plusR x.errs 1 m))).map Ed.row)], none)], .reg 11 [(0, [.idx 0], none)]] [2201000] [
      Contract Try.prog (18 : Nat) [V.sl (4 : Nat) (List.map Ed.row l), V.clo (Fn.func (19 : Nat)) [] [V.ptr (0 : Nat) (0 : Nat) (0 : Nat) (0 : Nat)]] [Obj.box [Sg (Ed.fr x), Sg (Ed.to x), I (Ed.cnt x), I (Ed.errs x)]] (I (idxI (pEq x) l)) [some (Obj.box (Ed.row x))],
      true = true,
      true = true,
      idxI (pEq x) l = (-1 : Int),
      Contract Try.prog (18 : Nat) [V.sl (4 : Nat) (List.map Ed.row l), V.clo (Fn.func (21 : Nat)) [] [V.ptr (0 : Nat) (0 : Nat) (0 : Nat) (0 : Nat)]] [Obj.box [Sg (Ed.fr x), Sg (Ed.to x), I (Ed.cnt x), I (Ed.errs x)]] (I (idxI (pGt x) l)) [some (Obj.box (Ed.row x))],
      true = true,
      true = true,
      idxI (pGt x) l = (-1 : Int),
      Int.ofNat (List.length (List.map Ed.row l)) = Int.ofNat j,
      Contract Try.prog (22 : Nat) [V.own (0 : Nat), I (Int.ofNat j), V.own (1 : Nat)] [Obj.arr (4 : Nat) (List.map Ed.row l), Obj.arr (4 : Nat) [[Sg (Ed.fr x), Sg (Ed.to x), I (Ed.cnt x), I (Ed.errs x)]]] (V.own (2 : Nat)) [none, some (Obj.arr (4 : Nat) [Ed.row x]), some (Obj.arr (4 : Nat) (List.map Ed.row (insE l j x)))],
      (0 : Int) ≤ Int.ofNat j,
      Int.ofNat j < Int.ofNat (List.length (List.map Ed.row (insE l j x))),
      (List.map Ed.row (insE l j x))[j]? = some (Ed.row x),
      Contract Try.prog (23 : Nat) [I (Ed.cnt x), I (1 : Int), I m] [] (I (plusR (Ed.cnt x) (1 : Int) m)) [],
      (0 : Int) ≤ Int.ofNat j,
      Int.ofNat j < Int.ofNat (List.length (List.map Ed.row (insE l j x))),
      (List.map Ed.row (insE l j x))[j]? = some (Ed.row x),
      Contract Try.prog (23 : Nat) [I (Ed.errs x), I (1 : Int), I m] [] (I (plusR (Ed.errs x) (1 : Int) m)) [],
      (0 : Int) ≤ Int.ofNat j,
      Int.ofNat j < Int.ofNat (List.length (List.map Ed.row (insE l j x))),
      (List.map Ed.row (insE l j x))[j]? = some (Ed.row x),
      List.set (List.map Ed.row (insE l j x)) j [Sg (Ed.fr x), Sg (Ed.to x), I (plusR (Ed.cnt x) (1 : Int) m), I (Ed.errs x)] = List.map Ed.row (List.set (insE l j x) j { fr := Ed.fr x, to := Ed.to x, cnt := plusR (Ed.cnt x) (1 : Int) m, errs := Ed.errs x }),
      (0 : Int) ≤ Int.ofNat j,
      Int.ofNat j < Int.ofNat (List.length (List.map Ed.row (List.set (insE l j x) j { fr := Ed.fr x, to := Ed.to x, cnt := plusR (Ed.cnt x) (1 : Int) m, errs := Ed.errs x }))),
      (List.map Ed.row (List.set (insE l j x) j { fr := Ed.fr x, to := Ed.to x, cnt := plusR (Ed.cnt x) (1 : Int) m, errs := Ed.errs x }))[j]? = some (Ed.row { fr := Ed.fr x, to := Ed.to x, cnt := plusR (Ed.cnt x) (1 : Int) m, errs := Ed.errs x }),
      List.set (List.map Ed.row (List.set (insE l j x) j { fr := Ed.fr x, to := Ed.to x, cnt := plusR (Ed.cnt x) (1 : Int) m, errs := Ed.errs x })) j [Sg (Ed.fr x), Sg (Ed.to x), I (plusR (Ed.cnt x) (1 : Int) m), I (plusR (Ed.errs x) (1 : Int) m)] = List.map Ed.row (List.set (insE l j x) j { fr := Ed.fr x, to := Ed.to x, cnt := plusR (Ed.cnt x) (1 : Int) m, errs := plusR (Ed.errs x) (1 : Int) m })] (by kernel_rfl)
    (by
      simp only [allP]
      and_intros <;> first
        | omega
        | with_reducible assumption
        | exact ixE l x (by omega)
        | exact ixG l x (by omega)
        | exact cPlus _ _ _
        | exact flatEd _
        | exact setRow Ed.row (insE l j x) j (Ed.mk x.fr x.to (plusR x.cnt 1 m) x.errs)
        | exact setRow2 (insE l j x) j (Ed.mk x.fr x.to (plusR x.cnt 1 m) x.errs) (Ed.mk x.fr x.to (plusR x.cnt 1 m) (plusR x.errs 1 m))
        | exact getRow2 (insE l j x) j (Ed.mk x.fr x.to (plusR x.cnt 1 m) x.errs) hT
        | (simp; omega)
        | (simp [hx]; done)
        | exact insO' l x j (by omega) hs
        | (simp; done)
        | decide)

theorem cntA0 (l : List Ed) (key x : Ed) (m : Int) (j : Nat) (hs : l.length ≤ 1000000000) (hf : idxI (pEq key) l = (j : Int)) (hx : l[j]? = some x) (hT : j < l.length) : Contract Try.prog 15 [.own 0, key.v, Bo false, I m] [.arr 4 (l.map Ed.row)] (.own 1) [none, some (.arr 4 ((l.set j (Ed.mk x.fr x.to (plusR x.cnt 1 m) (plusR x.errs 0 m))).map Ed.row))] :=
  vcP hmix [.reg 1 [(2, [.call [1000] [] (I (idxI (pEq key) l)) [some (.box key.row)], .be (I (j : Int))], none)], .reg 10 [(8, [.row (Ed.row x)], none), (10, [.call [] [] (I (plusR x.cnt 1 m)) []], none), (15, [.row (Ed.row x)], none), (18, [.call [] [] (I (plusR x.errs 0 m)) []], none), (21, [.row (Ed.row x), .beO ((l.set j (Ed.mk x.fr x.to (plusR x.cnt 1 m) x.errs)).map Ed.row)], none), (24, [.row (Ed.row (Ed.mk x.fr x.to (plusR x.cnt 1 m) x.errs)), .beO ((l.set j (Ed.mk x.fr x.to (plusR x.cnt 1 m) (plusR x.errs 0 m))).map Ed.row)], none)], .reg 11 [(0, [.idx 0], none)]] [2201000] [
      Contract Try.prog (18 : Nat) [V.sl (4 : Nat) (List.map Ed.row l), V.clo (Fn.func (19 : Nat)) [] [V.ptr (0 : Nat) (0 : Nat) (0 : Nat) (0 : Nat)]] [Obj.box [Sg (Ed.fr key), Sg (Ed.to key), I (Ed.cnt key), I (Ed.errs key)]] (I (idxI (pEq key) l)) [some (Obj.box (Ed.row key))],
      true = true,
      true = true,
      idxI (pEq key) l = Int.ofNat j,
      (0 : Int) ≤ Int.ofNat j,
      Int.ofNat j < Int.ofNat (List.length (List.map Ed.row l)),
      (List.map Ed.row l)[j]? = some (Ed.row x),
      Contract Try.prog (23 : Nat) [I (Ed.cnt x), I (1 : Int), I m] [] (I (plusR (Ed.cnt x) (1 : Int) m)) [],
      (0 : Int) ≤ Int.ofNat j,
      Int.ofNat j < Int.ofNat (List.length (List.map Ed.row l)),
      (List.map Ed.row l)[j]? = some (Ed.row x),
      Contract Try.prog (23 : Nat) [I (Ed.errs x), I (0 : Int), I m] [] (I (plusR (Ed.errs x) (0 : Int) m)) [],
      (0 : Int) ≤ Int.ofNat j,
      Int.ofNat j < Int.ofNat (List.length (List.map Ed.row l)),
      (List.map Ed.row l)[j]? = some (Ed.row x),
      List.set (List.map Ed.row l) j [Sg (Ed.fr x), Sg (Ed.to x), I (plusR (Ed.cnt x) (1 : Int) m), I (Ed.errs x)] = List.map Ed.row (List.set l j { fr := Ed.fr x, to := Ed.to x, cnt := plusR (Ed.cnt x) (1 : Int) m, errs := Ed.errs x }),
      (0 : Int) ≤ Int.ofNat j,
      Int.ofNat j < Int.ofNat (List.length (List.map Ed.row (List.set l j { fr := Ed.fr x, to := Ed.to x, cnt := plusR (Ed.cnt x) (1 : Int) m, errs := Ed.errs x }))),
      (List.map Ed.row (List.set l j { fr := Ed.fr x, to := Ed.to x, cnt := plusR (Ed.cnt x) (1 : Int) m, errs := Ed.errs x }))[j]? = some (Ed.row { fr := Ed.fr x, to := Ed.to x, cnt := plusR (Ed.cnt x) (1 : Int) m, errs := Ed.errs x }),
      List.set (List.map Ed.row (List.set l j { fr := Ed.fr x, to := Ed.to x, cnt := plusR (Ed.cnt x) (1 : Int) m, errs := Ed.errs x })) j [Sg (Ed.fr x), Sg (Ed.to x), I (plusR (Ed.cnt x) (1 : Int) m), I (plusR (Ed.errs x) (0 : Int) m)] = List.map Ed.row (List.set l j { fr := Ed.fr x, to := Ed.to x, cnt := plusR (Ed.cnt x) (1 : Int) m, errs := plusR (Ed.errs x) (0 : Int) m })] (by kernel_rfl)
    (by
      simp only [allP]
      and_intros <;> first
        | omega
        | with_reducible assumption
        | exact ixE l key (by omega)
        | exact ixG l key (by omega)
        | exact cPlus _ _ _
        | exact flatEd _
        | exact setRow Ed.row l j (Ed.mk x.fr x.to (plusR x.cnt 1 m) x.errs)
        | exact setRow2 l j (Ed.mk x.fr x.to (plusR x.cnt 1 m) x.errs) (Ed.mk x.fr x.to (plusR x.cnt 1 m) (plusR x.errs 0 m))
        | exact getRow2 l j (Ed.mk x.fr x.to (plusR x.cnt 1 m) x.errs) hT
        | (simp; omega)
        | (simp [hx]; done)
        | (simp; done)
        | decide)

theorem cntB0 (l : List Ed) (x : Ed) (m : Int) (j : Nat) (hs : l.length ≤ 1000000000) (hf : idxI (pEq x) l = -1) (hg : idxI (pGt x) l = (j : Int)) (hj : j ≤ l.length) (hx : (insE l j x)[j]? = some x) (hT : j < (insE l j x).length) : Contract Try.prog 15 [.own 0, x.v, Bo false, I m] [.arr 4 (l.map Ed.row)] (.own 1) [none, some (.arr 4 (((insE l j x).set j (Ed.mk x.fr x.to (plusR x.cnt 1 m) (plusR x.errs 0 m))).map Ed.row))] :=
  vcP hmix [.reg 1 [(2, [.call [1000] [] (I (idxI (pEq x) l)) [some (.box x.row)], .be (I (-1))], none)], .reg 3 [(2, [.call [1000] [] (I (idxI (pGt x) l)) [some (.box x.row)], .be (I (j : Int))], none)], .reg 6 [(4, [.call [0, 1204000] [] (.own 2) [none, some (.arr 4 [x.row]), some (.arr 4 ((insE l j x).map Ed.row))]], none)], .reg 10 [(8, [.row (Ed.row x)], none), (10, [.call [] [] (I (plusR x.cnt 1 m)) []], none), (15, [.row (Ed.row x)], none), (18, [.call [] [] (I (plusR x.errs 0 m)) []], none), (21, [.row (Ed.row x), .beO (((insE l j x).set j (Ed.mk x.fr x.to (plusR x.cnt 1 m) x.errs)).map Ed.row)], none), (24, [.row (Ed.row (Ed.mk x.fr x.to (plusR x.cnt 1 m) x.errs)), .beO (((insE l j x).set j (Ed.mk x.fr x.to (plusR x.cnt 1 m) (plusR x.errs 0 m))).map Ed.row)], none)], .reg 11 [(0, [.idx 0], none)]] [2201000] [
      Contract Try.prog (18 : Nat) [V.sl (4 : Nat) (List.map Ed.row l), V.clo (Fn.func (19 : Nat)) [] [V.ptr (0 : Nat) (0 : Nat) (0 : Nat) (0 : Nat)]] [Obj.box [Sg (Ed.fr x), Sg (Ed.to x), I (Ed.cnt x), I (Ed.errs x)]] (I (idxI (pEq x) l)) [some (Obj.box (Ed.row x))],
      true = true,
      true = true,
      idxI (pEq x) l = (-1 : Int),
      Contract Try.prog (18 : Nat) [V.sl (4 : Nat) (List.map Ed.row l), V.clo (Fn.func (21 : Nat)) [] [V.ptr (0 : Nat) (0 : Nat) (0 : Nat) (0 : Nat)]] [Obj.box [Sg (Ed.fr x), Sg (Ed.to x), I (Ed.cnt x), I (Ed.errs x)]] (I (idxI (pGt x) l)) [some (Obj.box (Ed.row x))],
      true = true,
      true = true,
      idxI (pGt x) l = Int.ofNat j,
      Contract Try.prog (22 : Nat) [V.own (0 : Nat), I (Int.ofNat j), V.own (1 : Nat)] [Obj.arr (4 : Nat) (List.map Ed.row l), Obj.arr (4 : Nat) [[Sg (Ed.fr x), Sg (Ed.to x), I (Ed.cnt x), I (Ed.errs x)]]] (V.own (2 : Nat)) [none, some (Obj.arr (4 : Nat) [Ed.row x]), some (Obj.arr (4 : Nat) (List.map Ed.row (insE l j x)))],
      (0 : Int) ≤ Int.ofNat j,
      Int.ofNat j < Int.ofNat (List.length (List.map Ed.row (insE l j x))),
      (List.map Ed.row (insE l j x))[j]? = some (Ed.row x),
      Contract Try.prog (23 : Nat) [I (Ed.cnt x), I (1 : Int), I m] [] (I (plusR (Ed.cnt x) (1 : Int) m)) [],
      (0 : Int) ≤ Int.ofNat j,
      Int.ofNat j < Int.ofNat (List.length (List.map Ed.row (insE l j x))),
      (List.map Ed.row (insE l j x))[j]? = some (Ed.row x),
      Contract Try.prog (23 : Nat) [I (Ed.errs x), I (0 : Int), I m] [] (I (plusR (Ed.errs x) (0 : Int) m)) [],
      (0 : Int) ≤ Int.ofNat j,
      Int.ofNat j < Int.ofNat (List.length (List.map Ed.row (insE l j x))),
      (List.map Ed.row (insE l j x))[j]? = some (Ed.row x),
      List.set (List.map Ed.row (insE l j x)) j [Sg (Ed.fr x), Sg (Ed.to x), I (plusR (Ed.cnt x) (1 : Int) m), I (Ed.errs x)] = List.map Ed.row (List.set (insE l j x) j { fr := Ed.fr x, to := Ed.to x, cnt := plusR (Ed.cnt x) (1 : Int) m, errs := Ed.errs x }),
      (0 : Int) ≤ Int.ofNat j,
      Int.ofNat j < Int.ofNat (List.length (List.map Ed.row (List.set (insE l j x) j { fr := Ed.fr x, to := Ed.to x, cnt := plusR (Ed.cnt x) (1 : Int) m, errs := Ed.errs x }))),
      (List.map Ed.row (List.set (insE l j x) j { fr := Ed.fr x, to := Ed.to x, cnt := plusR (Ed.cnt x) (1 : Int) m, errs := Ed.errs x }))[j]? = some (Ed.row { fr := Ed.fr x, to := Ed.to x, cnt := plusR (Ed.cnt x) (1 : Int) m, errs := Ed.errs x }),
      List.set (List.map Ed.row (List.set (insE l j x) j { fr := Ed.fr x, to := Ed.to x, cnt := plusR (Ed.cnt x) (1 : Int) m, errs := Ed.errs x })) j [Sg (Ed.fr x), Sg (Ed.to x), I (plusR (Ed.cnt x) (1 : Int) m), I (plusR (Ed.errs x) (0 : Int) m)] = List.map Ed.row (List.set (insE l j x) j { fr := Ed.fr x, to := Ed.to x, cnt := plusR (Ed.cnt x) (1 : Int) m, errs := plusR (Ed.errs x) (0 : Int) m })] (by kernel_rfl)
    (by
      simp only [allP]
      and_intros <;> first
        | omega
        | with_reducible assumption
        | exact ixE l x (by omega)
        | exact ixG l x (by omega)
        | exact cPlus _ _ _
        | exact flatEd _
        | exact setRow Ed.row (insE l j x) j (Ed.mk x.fr x.to (plusR x.cnt 1 m) x.errs)
        | exact setRow2 (insE l j x) j (Ed.mk x.fr x.to (plusR x.cnt 1 m) x.errs) (Ed.mk x.fr x.to (plusR x.cnt 1 m) (plusR x.errs 0 m))
        | exact getRow2 (insE l j x) j (Ed.mk x.fr x.to (plusR x.cnt 1 m) x.errs) hT
        | (simp; omega)
        | (simp [hx]; done)
        | exact insO' l x j (by omega) hs
        | (simp; done)
        | decide)

theorem cntC0 (l : List Ed) (x : Ed) (m : Int) (j : Nat) (hs : l.length ≤ 1000000000) (hf : idxI (pEq x) l = -1) (hg : idxI (pGt x) l = -1) (hj : j = l.length) (hx : (insE l j x)[j]? = some x) (hT : j < (insE l j x).length) : Contract Try.prog 15 [.own 0, x.v, Bo false, I m] [.arr 4 (l.map Ed.row)] (.own 1) [none, some (.arr 4 (((insE l j x).set j (Ed.mk x.fr x.to (plusR x.cnt 1 m) (plusR x.errs 0 m))).map Ed.row))] :=
  vcP hmix [.reg 1 [(2, [.call [1000] [] (I (idxI (pEq x) l)) [some (.box x.row)], .be (I (-1))], none)], .reg 3 [(2, [.call [1000] [] (I (idxI (pGt x) l)) [some (.box x.row)], .be (I (-1))], none)], .reg 5 [(1, [.be (I (j : Int))], none)], .reg 6 [(4, [.call [0, 1204000] [] (.own 2) [none, some (.arr 4 [x.row]), some (.arr 4 ((insE l j x).map Ed.row))]], none)], .reg 10 [(8, [.row (Ed.row x)], none), (10, [.call [] [] (I (plusR x.cnt 1 m)) []], none), (15, [.row (Ed.row x)], none), (18, [.call [] [] (I (plusR x.errs 0 m)) []], none), (21, [.row (Ed.row x), .beO (((insE l j x).set j (Ed.mk x.fr x.to (plusR x.cnt 1 m) x.errs)).map Ed.row)], none), (24, [.row (Ed.row (Ed.mk x.fr x.to (plusR x.cnt 1 m) x.errs)), .beO (((insE l j x).set j (Ed.mk x.fr x.to (plusR x.cnt 1 m) (plusR x.errs 0 m))).map Ed.row)], none)], .reg 11 [(0, [.idx 0], none)]] [2201000] [
      Contract Try.prog (18 : Nat) [V.sl (4 : Nat) (List.map Ed.row l), V.clo (Fn.func (19 : Nat)) [] [V.ptr (0 : Nat) (0 : Nat) (0 : Nat) (0 : Nat)]] [Obj.box [Sg (Ed.fr x), Sg (Ed.to x), I (Ed.cnt x), I (Ed.errs x)]] (I (idxI (pEq x) l)) [some (Obj.box (Ed.row x))],
      true = true,
      true = true,
      idxI (pEq x) l = (-1 : Int),
      Contract Try.prog (18 : Nat) [V.sl (4 : Nat) (List.map Ed.row l), V.clo (Fn.func (21 : Nat)) [] [V.ptr (0 : Nat) (0 : Nat) (0 : Nat) (0 : Nat)]] [Obj.box [Sg (Ed.fr x), Sg (Ed.to x), I (Ed.cnt x), I (Ed.errs x)]] (I (idxI (pGt x) l)) [some (Obj.box (Ed.row x))],
      true = true,
      true = true,
      idxI (pGt x) l = (-1 : Int),
      Int.ofNat (List.length (List.map Ed.row l)) = Int.ofNat j,
      Contract Try.prog (22 : Nat) [V.own (0 : Nat), I (Int.ofNat j), V.own (1 : Nat)] [Obj.arr (4 : Nat) (List.map Ed.row l), Obj.arr (4 : Nat) [[Sg (Ed.fr x), Sg (Ed.to x), I (Ed.cnt x), I (Ed.errs x)]]] (V.own (2 : Nat)) [none, some (Obj.arr (4 : Nat) [Ed.row x]), some (Obj.arr (4 : Nat) (List.map Ed.row (insE l j x)))],
      (0 : Int) ≤ Int.ofNat j,
      Int.ofNat j < Int.ofNat (List.length (List.map Ed.row (insE l j x))),
      (List.map Ed.row (insE l j x))[j]? = some (Ed.row x),
      Contract Try.prog (23 : Nat) [I (Ed.cnt x), I (1 : Int), I m] [] (I (plusR (Ed.cnt x) (1 : Int) m)) [],
      (0 : Int) ≤ Int.ofNat j,
      Int.ofNat j < Int.ofNat (List.length (List.map Ed.row (insE l j x))),
      (List.map Ed.row (insE l j x))[j]? = some (Ed.row x),
      Contract Try.prog (23 : Nat) [I (Ed.errs x), I (0 : Int), I m] [] (I (plusR (Ed.errs x) (0 : Int) m)) [],
      (0 : Int) ≤ Int.ofNat j,
      Int.ofNat j < Int.ofNat (List.length (List.map Ed.row (insE l j x))),
      (List.map Ed.row (insE l j x))[j]? = some (Ed.row x),
      List.set (List.map Ed.row (insE l j x)) j [Sg (Ed.fr x), Sg (Ed.to x), I (plusR (Ed.cnt x) (1 : Int) m), I (Ed.errs x)] = List.map Ed.row (List.set (insE l j x) j { fr := Ed.fr x, to := Ed.to x, cnt := plusR (Ed.cnt x) (1 : Int) m, errs := Ed.errs x }),
      (0 : Int) ≤ Int.ofNat j,
      Int.ofNat j < Int.ofNat (List.length (List.map Ed.row (List.set (insE l j x) j { fr := Ed.fr x, to := Ed.to x, cnt := plusR (Ed.cnt x) (1 : Int) m, errs := Ed.errs x }))),
      (List.map Ed.row (List.set (insE l j x) j { fr := Ed.fr x, to := Ed.to x, cnt := plusR (Ed.cnt x) (1 : Int) m, errs := Ed.errs x }))[j]? = some (Ed.row { fr := Ed.fr x, to := Ed.to x, cnt := plusR (Ed.cnt x) (1 : Int) m, errs := Ed.errs x }),
      List.set (List.map Ed.row (List.set (insE l j x) j { fr := Ed.fr x, to := Ed.to x, cnt := plusR (Ed.cnt x) (1 : Int) m, errs := Ed.errs x })) j [Sg (Ed.fr x), Sg (Ed.to x), I (plusR (Ed.cnt x) (1 : Int) m), I (plusR (Ed.errs x) (0 : Int) m)] = List.map Ed.row (List.set (insE l j x) j { fr := Ed.fr x, to := Ed.to x, cnt := plusR (Ed.cnt x) (1 : Int) m, errs := plusR (Ed.errs x) (0 : Int) m })] (by kernel_rfl)
    (by
      simp only [allP]
      and_intros <;> first
        | omega
        | with_reducible assumption
        | exact ixE l x (by omega)
        | exact ixG l x (by omega)
        | exact cPlus _ _ _
        | exact flatEd _
        | exact setRow Ed.row (insE l j x) j (Ed.mk x.fr x.to (plusR x.cnt 1 m) x.errs)
        | exact setRow2 (insE l j x) j (Ed.mk x.fr x.to (plusR x.cnt 1 m) x.errs) (Ed.mk x.fr x.to (plusR x.cnt 1 m) (plusR x.errs 0 m))
        | exact getRow2 (insE l j x) j (Ed.mk x.fr x.to (plusR x.cnt 1 m) x.errs) hT
        | (simp; omega)
        | (simp [hx]; done)
        | exact insO' l x j (by omega) hs
        | (simp; done)
        | decide)

theorem modify_set {α : Type} (f : α → α) (l : List α) (j : Nat) (x : α) (h : l[j]? = some x) : l.modify j f = l.set j (f x) := by
  apply List.ext_getElem?
  intro i
  rw [List.getElem?_modify, List.getElem?_set]
  by_cases e : j = i
  · subst e
    have h1 := (List.getElem?_eq_some_iff.1 h).1
    have h2 := (List.getElem?_eq_some_iff.1 h).2
    simp [h, h1, h2]
  · simp [e]
theorem insE_at {α : Type} (l : List α) (j : Nat) (x : α) (h : j ≤ l.length) : (insE l j x)[j]? = some x := by
  unfold insE
  rw [List.getElem?_append_right (by simp; omega)]
  simp [show min j l.length = j by omega]

theorem cCount (l : List Ed) (key : Ed) (err : Bool) (m : Int) (hs : l.length ≤ 1000000000) : Contract Try.prog 15 [.own 0, key.v, Bo err, I m] [.arr 4 (l.map Ed.row)] (.own 1) [none, some (.arr 4 ((countE l key err m).map Ed.row))] := by
  unfold countE
  cases hf : l.findIdx? (pEq key) with
  | some j =>
    have hi : idxI (pEq key) l = (j : Int) := by unfold idxI; rw [hf]
    have hlt := (List.findIdx?_eq_some_iff_getElem.1 hf).1
    have hx : l[j]? = some l[j] := List.getElem?_eq_getElem hlt
    simp only
    rw [modify_set _ l j l[j] hx]
    cases err with
    | true => exact cntA1 l key l[j] m j hs hi hx hlt
    | false => exact cntA0 l key l[j] m j hs hi hx hlt
  | none =>
    have hi : idxI (pEq key) l = -1 := by unfold idxI; rw [hf]
    simp only
    cases hg : l.findIdx? (pGt key) with
    | some j =>
      have hi2 : idxI (pGt key) l = (j : Int) := by unfold idxI; rw [hg]
      have hlt := (List.findIdx?_eq_some_iff_getElem.1 hg).1
      simp only [Option.getD_some]
      have hx := insE_at l j key (by omega)
      rw [modify_set _ _ j key hx]
      have hT : j < (insE l j key).length := by rw [insE_len]; omega
      cases err with
      | true => exact cntB1 l key m j hs hi hi2 (by omega) hx hT
      | false => exact cntB0 l key m j hs hi hi2 (by omega) hx hT
    | none =>
      have hi2 : idxI (pGt key) l = -1 := by unfold idxI; rw [hg]
      simp only [Option.getD_none]
      have hx := insE_at l l.length key (Nat.le_refl _)
      rw [modify_set _ _ _ key hx]
      have hT : l.length < (insE l l.length key).length := by rw [insE_len]; omega
      cases err with
      | true => exact cntC1 l key m l.length hs hi hi2 rfl hx hT
      | false => exact cntC0 l key m l.length hs hi hi2 rfl hx hT

theorem countE_len (l : List Ed) (key : Ed) (err : Bool) (m : Int) : (countE l key err m).length ≤ l.length + 1 := by
  unfold countE
  split
  · rw [List.length_modify]; omega
  · rw [List.length_modify, insE_len]; omega
theorem stepE_len (b : List Sp) (m : Int) (l : List Ed) (s : Sp) : (stepE b m l s).length ≤ l.length + 1 := by
  unfold stepE
  have := countE_len l (Ed.mk (callerS b s).1 s.svc 0 0) s.err m
  cases rightS s
  · simp only [cond_false]; omega
  · simp only [cond_true]
    cases (callerS b s).2
    · simp only [cond_false]; omega
    · simp only [cond_true]; exact this

theorem adWrong (b : List Sp) (m : Int) (l : List Ed) (s : Sp) (i : Nat) (h : i < b.length) (hx : b[i]? = some s) (hs : b.length ≤ 1000000000) (hl : l.length ≤ 1000000000) (ha : ∀ x ∈ b, x.attrs.length ≤ 1000000000) (has : s.attrs.length ≤ 1000000000) (h1 : rightS s = false) : CodeC Try.prog 0 40 adB (adS b m l i) .normal (adS b m l (i + 1)) :=
  runP hmix [.reg 3 [(0, [], some true)], .reg 4 [(1, [.row (Sp.row s)], none)], .reg 5 [(1, [.call [] [] (Bo (rightS s)) []], some false)], .reg 9 [(0, [.be (I ((i + 1 : Nat) : Int))], none)]] ⟨[0, 1, 2, 13, 14, 15], [(900, 900)], []⟩ [
      decide (Int.ofNat i < Int.ofNat (List.length b)) = true,
      (0 : Int) ≤ Int.ofNat i,
      Int.ofNat i < Int.ofNat (List.length (List.map Sp.row b)),
      (List.map Sp.row b)[i]? = some (Sp.row s),
      Contract Try.prog (13 : Nat) [V.agg [V.val (Value.int IntKind.u64 (Sp.hi s)), V.val (Value.int IntKind.u64 (Sp.lo s)), V.val (Value.int IntKind.u64 (Sp.id s)), V.val (Value.int IntKind.u64 (Sp.par s)), Sg (Sp.svc s), Sg (Sp.op s), I (Sp.start s), I (Sp.dur s), Bo (Sp.err s), V.sl (2 : Nat) (List.map At.row (Sp.attrs s))]] [] (Bo (rightS s)) [],
      rightS s = false,
      IntKind.wrap IntKind.i64 (Int.ofNat (i + (1 : Nat))) = Int.ofNat (i + (1 : Nat))] (by kernel_rfl)
    (by
      simp only [allP]
      and_intros <;> first
        | omega
        | with_reducible assumption
        | exact cRight s has
        | exact cCaller b s hs ha
        | exact cCount l (Ed.mk (callerS b s).1 s.svc 0 0) s.err m hl
        | (simp; omega)
        | (simp [hx]; done)
        | exact i64_small (by simp; omega)
        | (simp; done)
        | decide)

theorem adNoCall (b : List Sp) (m : Int) (l : List Ed) (s : Sp) (i : Nat) (h : i < b.length) (hx : b[i]? = some s) (hs : b.length ≤ 1000000000) (hl : l.length ≤ 1000000000) (ha : ∀ x ∈ b, x.attrs.length ≤ 1000000000) (has : s.attrs.length ≤ 1000000000) (h1 : rightS s = true) (h2 : (callerS b s).2 = false) : CodeC Try.prog 0 40 adB (adS b m l i) .normal (adS b m l (i + 1)) :=
  runP hmix [.reg 3 [(0, [], some true)], .reg 4 [(1, [.row (Sp.row s)], none)], .reg 5 [(1, [.call [] [] (Bo (rightS s)) []], some true)], .reg 6 [(2, [.call [] [] (.tup [Sg (callerS b s).1, Bo (callerS b s).2]) []], none), (5, [], some false)], .reg 9 [(0, [.be (I ((i + 1 : Nat) : Int))], none)]] ⟨[0, 1, 2, 13, 14, 15], [(900, 900)], []⟩ [
      decide (Int.ofNat i < Int.ofNat (List.length b)) = true,
      (0 : Int) ≤ Int.ofNat i,
      Int.ofNat i < Int.ofNat (List.length (List.map Sp.row b)),
      (List.map Sp.row b)[i]? = some (Sp.row s),
      Contract Try.prog (13 : Nat) [V.agg [V.val (Value.int IntKind.u64 (Sp.hi s)), V.val (Value.int IntKind.u64 (Sp.lo s)), V.val (Value.int IntKind.u64 (Sp.id s)), V.val (Value.int IntKind.u64 (Sp.par s)), Sg (Sp.svc s), Sg (Sp.op s), I (Sp.start s), I (Sp.dur s), Bo (Sp.err s), V.sl (2 : Nat) (List.map At.row (Sp.attrs s))]] [] (Bo (rightS s)) [],
      rightS s = true,
      Contract Try.prog (14 : Nat) [V.sl (10 : Nat) (List.map Sp.row b), V.agg [V.val (Value.int IntKind.u64 (Sp.hi s)), V.val (Value.int IntKind.u64 (Sp.lo s)), V.val (Value.int IntKind.u64 (Sp.id s)), V.val (Value.int IntKind.u64 (Sp.par s)), Sg (Sp.svc s), Sg (Sp.op s), I (Sp.start s), I (Sp.dur s), Bo (Sp.err s), V.sl (2 : Nat) (List.map At.row (Sp.attrs s))]] [] (V.tup [Sg (Prod.fst (callerS b s)), Bo (Prod.snd (callerS b s))]) [],
      Prod.snd (callerS b s) = false,
      IntKind.wrap IntKind.i64 (Int.ofNat (i + (1 : Nat))) = Int.ofNat (i + (1 : Nat))] (by kernel_rfl)
    (by
      simp only [allP]
      and_intros <;> first
        | omega
        | with_reducible assumption
        | exact cRight s has
        | exact cCaller b s hs ha
        | exact cCount l (Ed.mk (callerS b s).1 s.svc 0 0) s.err m hl
        | (simp; omega)
        | (simp [hx]; done)
        | exact i64_small (by simp; omega)
        | (simp; done)
        | decide)

theorem adCall (b : List Sp) (m : Int) (l : List Ed) (s : Sp) (i : Nat) (h : i < b.length) (hx : b[i]? = some s) (hs : b.length ≤ 1000000000) (hl : l.length ≤ 1000000000) (ha : ∀ x ∈ b, x.attrs.length ≤ 1000000000) (has : s.attrs.length ≤ 1000000000) (h1 : rightS s = true) (h2 : (callerS b s).2 = true) : CodeC Try.prog 0 40 adB (adS b m l i) .normal (adS b m (countE l (Ed.mk (callerS b s).1 s.svc 0 0) s.err m) (i + 1)) :=
  runP hmix [.reg 3 [(0, [], some true)], .reg 4 [(1, [.row (Sp.row s)], none)], .reg 5 [(1, [.call [] [] (Bo (rightS s)) []], some true)], .reg 6 [(2, [.call [] [] (.tup [Sg (callerS b s).1, Bo (callerS b s).2]) []], none), (5, [], some true)], .reg 8 [(8, [.call [900] [] (.own 1) [none, some (.arr 4 ((countE l (Ed.mk (callerS b s).1 s.svc 0 0) s.err m).map Ed.row))]], none)], .reg 9 [(0, [.be (I ((i + 1 : Nat) : Int))], none)]] ⟨[0, 1, 2, 13, 14, 15], [(1609001, 900)], []⟩ [
      decide (Int.ofNat i < Int.ofNat (List.length b)) = true,
      (0 : Int) ≤ Int.ofNat i,
      Int.ofNat i < Int.ofNat (List.length (List.map Sp.row b)),
      (List.map Sp.row b)[i]? = some (Sp.row s),
      Contract Try.prog (13 : Nat) [V.agg [V.val (Value.int IntKind.u64 (Sp.hi s)), V.val (Value.int IntKind.u64 (Sp.lo s)), V.val (Value.int IntKind.u64 (Sp.id s)), V.val (Value.int IntKind.u64 (Sp.par s)), Sg (Sp.svc s), Sg (Sp.op s), I (Sp.start s), I (Sp.dur s), Bo (Sp.err s), V.sl (2 : Nat) (List.map At.row (Sp.attrs s))]] [] (Bo (rightS s)) [],
      rightS s = true,
      Contract Try.prog (14 : Nat) [V.sl (10 : Nat) (List.map Sp.row b), V.agg [V.val (Value.int IntKind.u64 (Sp.hi s)), V.val (Value.int IntKind.u64 (Sp.lo s)), V.val (Value.int IntKind.u64 (Sp.id s)), V.val (Value.int IntKind.u64 (Sp.par s)), Sg (Sp.svc s), Sg (Sp.op s), I (Sp.start s), I (Sp.dur s), Bo (Sp.err s), V.sl (2 : Nat) (List.map At.row (Sp.attrs s))]] [] (V.tup [Sg (Prod.fst (callerS b s)), Bo (Prod.snd (callerS b s))]) [],
      Prod.snd (callerS b s) = true,
      Contract Try.prog (15 : Nat) [V.own (0 : Nat), V.agg [Sg (Prod.fst (callerS b s)), Sg (Sp.svc s), I (0 : Int), I (0 : Int)], Bo (Sp.err s), I m] [Obj.arr (4 : Nat) (List.map Ed.row l)] (V.own (1 : Nat)) [none, some (Obj.arr (4 : Nat) (List.map Ed.row (countE l { fr := Prod.fst (callerS b s), to := Sp.svc s, cnt := (0 : Int), errs := (0 : Int) } (Sp.err s) m)))],
      IntKind.wrap IntKind.i64 (Int.ofNat (i + (1 : Nat))) = Int.ofNat (i + (1 : Nat))] (by kernel_rfl)
    (by
      simp only [allP]
      and_intros <;> first
        | omega
        | with_reducible assumption
        | exact cRight s has
        | exact cCaller b s hs ha
        | exact cCount l (Ed.mk (callerS b s).1 s.svc 0 0) s.err m hl
        | (simp; omega)
        | (simp [hx]; done)
        | exact i64_small (by simp; omega)
        | (simp; done)
        | decide)

theorem adEnd (b : List Sp) (m : Int) (l : List Ed) (i : Nat) (h : b.length ≤ i) : CodeC Try.prog 0 40 adB (adS b m l i) (.exit 0) (adS b m l i) :=
  runP hmix [.reg 3 [(0, [], some false)]] ⟨[0, 1, 2, 13, 14, 15], [(900, 900)], []⟩ [
      decide (Int.ofNat i < Int.ofNat (List.length b)) = false] (by kernel_rfl)
    (by
      simp only [allP]
      and_intros <;> first
        | omega
        | with_reducible assumption
        | (simp; omega)
        | (simp; done)
        | decide)

theorem adLoop (b : List Sp) (m : Int) (l : List Ed) (hb : l.length + b.length ≤ 1000000000) (ha : ∀ x ∈ b, x.attrs.length ≤ 1000000000) : LoopC Try.prog 0 40 adB (adS b m l 0) (.exit 0) (adS b m (b.foldl (stepE b m) l) b.length) :=
  LoopC.fold (P := Try.prog) (k := 0) (n := 40) (c := adB) b (stepE b m) (fun i s => s.length ≤ l.length + i) (fun s i => adS b m s i) (e := .exit 0) (by simp)
    (fun i t s hx hi h => by
      have h : t.length ≤ l.length + i := h
      have h3 := stepE_len b m t s
      have hs : b.length ≤ 1000000000 := by omega
      have hl : t.length ≤ 1000000000 := by omega
      have has := ha s (List.mem_of_getElem? hx)
      refine ⟨?_, (by omega : (stepE b m t s).length ≤ l.length + (i + 1))⟩
      unfold stepE
      cases h1 : rightS s with
      | false => exact adWrong b m t s i hi hx hs hl ha has h1
      | true =>
        cases h2 : (callerS b s).2 with
        | false => exact adNoCall b m t s i hi hx hs hl ha has h1 h2
        | true => exact adCall b m t s i hi hx hs hl ha has h1 h2)
    (fun s h => adEnd b m s _ (Nat.le_refl _)) l (by omega)

def addE (l : List Ed) (b : List Sp) (m : Int) : List Ed := b.foldl (stepE b m) l
theorem addE_len (l : List Ed) (b : List Sp) (m : Int) : (addE l b m).length ≤ l.length + b.length := by
  have := foldl_inv (stepE b m) (fun i s => s.length ≤ l.length + i) b 0 l (by omega) (fun i s x _ h => by have := stepE_len b m s x; have h : s.length ≤ l.length + i := h; show _ ≤ _; omega)
  simpa [addE] using this

theorem cAdd (l : List Ed) (b : List Sp) (m : Int) (hb : l.length + b.length ≤ 1000000000) (ha : ∀ x ∈ b, x.attrs.length ≤ 1000000000) : Contract Try.prog 8 [.sl 4 (l.map Ed.row), .sl 10 (b.map Sp.row), I m] [] (.own 0) [some (.arr 4 ((addE l b m).map Ed.row))] :=
  vcP hmix [.reg 1 [(1, [.call [] [] (.own 0) [some (.arr 4 (l.map Ed.row))]], none)], .reg 2 [(1, [.be (I (b.length : Int))], none)], .cut ⟨[0, 1, 2, 13, 14, 15], [(202001, 900)], []⟩ (.exit 0) (adS b m (addE l b m) b.length)] [900] [
      Contract Try.prog (12 : Nat) [V.sl (4 : Nat) (List.map Ed.row l)] [] (V.own (0 : Nat)) [some (Obj.arr (4 : Nat) (List.map Ed.row l))],
      Int.ofNat (List.length (List.map Sp.row b)) = Int.ofNat (List.length b),
      LoopC Try.prog (0 : Nat) (40 : Nat) adB { env := [((0 : Nat), V.own (900 : Nat)), ((1 : Nat), V.sl (10 : Nat) (List.map Sp.row b)), ((2 : Nat), I m), ((13 : Nat), V.sl (10 : Nat) (List.map Sp.row b)), ((14 : Nat), I (Int.ofNat (List.length b))), ((15 : Nat), I (0 : Int))], st := [((900 : Nat), Obj.arr (4 : Nat) (List.map Ed.row l))], ids := [(900 : Nat)] } (Ex.exit (0 : Nat)) { env := [((0 : Nat), V.own (900 : Nat)), ((1 : Nat), V.sl (10 : Nat) (List.map Sp.row b)), ((2 : Nat), I m), ((13 : Nat), V.sl (10 : Nat) (List.map Sp.row b)), ((14 : Nat), I (Int.ofNat (List.length b))), ((15 : Nat), I (Int.ofNat (List.length b)))], st := [((900 : Nat), Obj.arr (4 : Nat) (List.map Ed.row (addE l b m)))], ids := [(900 : Nat)] }] (by kernel_rfl)
    (by
      simp only [allP]
      and_intros <;> first
        | omega
        | with_reducible assumption
        | exact cln _ (by rw [List.length_map]; omega)
        | exact adLoop b m l hb ha
        | (simp; done)
        | (simp; done)
        | decide)

end Go.Proofs.Ytieffigehkjifaa

/- edges: few spans, the same edges, edges in order. -/
namespace Go.Proofs.Ytieffigehkjifaa
open E
set_option maxRecDepth 100000
set_option linter.unusedVariables false
set_option linter.unusedSimpArgs false


def longA (a : At) : Bool := bif decide (100 < (a.key.size : Int)) then true else decide (100 < (a.val.size : Int))
def fewS (s : Sp) : Bool := bif decide (100 < (s.svc.size : Int)) then false else (bif decide (100 < (s.op.size : Int)) then false else (bif decide (20 < (s.attrs.length : Int)) then false else s.attrs.all (fun a => !longA a)))
def fewAll (l : List Sp) : Bool := bif decide (60 < (l.length : Int)) then false else l.all fewS
def feS (s : Sp) (r : Bool) (i : Nat) : SL := ⟨[(1, .ptr 1000 0 0 0), (2, Bo r), (3, I (i : Int))], [(1000, .box s.row)], [1000]⟩
def faS (l : List Sp) (r : Bool) (i : Nat) : SL := ⟨[(0, .sl 10 (l.map Sp.row)), (2, Bo r), (3, I (i : Int))], [], []⟩
def ssS (l : List Ed) (i : Nat) : SL := ⟨[(0, .sl 4 (l.map Ed.row)), (1, .sl 4 (l.map Ed.row)), (5, I (i : Int))], [], []⟩
def orS (l : List Ed) (j : Nat) : SL := ⟨[(0, .sl 4 (l.map Ed.row)), (3, I ((j + 1 : Nat) : Int))], [], []⟩
/-- Edges stand by their pairs, each once. -/
def ltE (a b : Ed) : Prop := ltS b.fr a.fr = false ∧ (b.fr.toList == a.fr.toList) = false ∨ ltS b.fr a.fr = false ∧ (b.fr.toList == a.fr.toList) = true ∧ (ltS b.to a.to || b.to.toList == a.to.toList) = false
noncomputable def feB : Code := codeAt Try.prog 11 [true, true, false, true, false, false]

noncomputable def faB : Code := codeAt Try.prog 7 [true, true, false, true, false, false]

noncomputable def ssB : Code := codeAt Try.prog 9 [true, true, false, true, false, false]

noncomputable def orB : Code := codeAt Try.prog 10 [true, false, true, false, false]

theorem feStopA (s : Sp) (a : At) (i : Nat) (h : i < s.attrs.length) (hx : s.attrs[i]? = some a) (hs : s.attrs.length ≤ 20) (h1 : decide (100 < (a.key.size : Int)) = true) : CodeC Try.prog 0 45 feB (feS s false i) .ret (feS s false i) :=
  runP hmix [.reg 4 [(3, [.be (I (s.attrs.length : Int))], none), (4, [], some true)], .reg 6 [(5, [.row (At.row a)], none), (8, [], some true)]] ⟨[1, 2, 3], [(1000, 1000)], []⟩ [
      Int.ofNat (List.length (List.map At.row (Sp.attrs s))) = Int.ofNat (List.length (Sp.attrs s)),
      decide (Int.ofNat i < Int.ofNat (List.length (Sp.attrs s))) = true,
      (0 : Int) ≤ Int.ofNat i,
      Int.ofNat i < Int.ofNat (List.length (List.map At.row (Sp.attrs s))),
      (List.map At.row (Sp.attrs s))[i]? = some (At.row a),
      decide (Int.ofNat (ByteArray.size (At.key a)) > (100 : Int)) = true] (by kernel_rfl)
    (by
      simp only [allP]
      and_intros <;> first
        | omega
        | with_reducible assumption
        | (simp; omega)
        | (simp [hx]; done)
        | exact i64_small (by simp; omega)
        | (simp; done)
        | decide)

theorem feStopB (s : Sp) (a : At) (i : Nat) (h : i < s.attrs.length) (hx : s.attrs[i]? = some a) (hs : s.attrs.length ≤ 20) (h1 : decide (100 < (a.key.size : Int)) = false) (h2 : decide (100 < (a.val.size : Int)) = true) : CodeC Try.prog 0 45 feB (feS s false i) .ret (feS s false i) :=
  runP hmix [.reg 4 [(3, [.be (I (s.attrs.length : Int))], none), (4, [], some true)], .reg 6 [(5, [.row (At.row a)], none), (8, [], some false), (14, [.row (At.row a)], none), (16, [], some true)]] ⟨[1, 2, 3], [(1000, 1000)], []⟩ [
      Int.ofNat (List.length (List.map At.row (Sp.attrs s))) = Int.ofNat (List.length (Sp.attrs s)),
      decide (Int.ofNat i < Int.ofNat (List.length (Sp.attrs s))) = true,
      (0 : Int) ≤ Int.ofNat i,
      Int.ofNat i < Int.ofNat (List.length (List.map At.row (Sp.attrs s))),
      (List.map At.row (Sp.attrs s))[i]? = some (At.row a),
      decide (Int.ofNat (ByteArray.size (At.key a)) > (100 : Int)) = false,
      (0 : Int) ≤ Int.ofNat i,
      Int.ofNat i < Int.ofNat (List.length (List.map At.row (Sp.attrs s))),
      (List.map At.row (Sp.attrs s))[i]? = some (At.row a),
      decide (Int.ofNat (ByteArray.size (At.val a)) > (100 : Int)) = true] (by kernel_rfl)
    (by
      simp only [allP]
      and_intros <;> first
        | omega
        | with_reducible assumption
        | (simp; omega)
        | (simp [hx]; done)
        | exact i64_small (by simp; omega)
        | (simp; done)
        | decide)

theorem feGo (s : Sp) (a : At) (i : Nat) (h : i < s.attrs.length) (hx : s.attrs[i]? = some a) (hs : s.attrs.length ≤ 20) (h1 : decide (100 < (a.key.size : Int)) = false) (h2 : decide (100 < (a.val.size : Int)) = false) : CodeC Try.prog 0 45 feB (feS s false i) .normal (feS s false (i + 1)) :=
  runP hmix [.reg 4 [(3, [.be (I (s.attrs.length : Int))], none), (4, [], some true)], .reg 6 [(5, [.row (At.row a)], none), (8, [], some false), (14, [.row (At.row a)], none), (16, [], some false)], .reg 5 [(1, [.be (I ((i + 1 : Nat) : Int))], none)]] ⟨[1, 2, 3], [(1000, 1000)], []⟩ [
      Int.ofNat (List.length (List.map At.row (Sp.attrs s))) = Int.ofNat (List.length (Sp.attrs s)),
      decide (Int.ofNat i < Int.ofNat (List.length (Sp.attrs s))) = true,
      (0 : Int) ≤ Int.ofNat i,
      Int.ofNat i < Int.ofNat (List.length (List.map At.row (Sp.attrs s))),
      (List.map At.row (Sp.attrs s))[i]? = some (At.row a),
      decide (Int.ofNat (ByteArray.size (At.key a)) > (100 : Int)) = false,
      (0 : Int) ≤ Int.ofNat i,
      Int.ofNat i < Int.ofNat (List.length (List.map At.row (Sp.attrs s))),
      (List.map At.row (Sp.attrs s))[i]? = some (At.row a),
      decide (Int.ofNat (ByteArray.size (At.val a)) > (100 : Int)) = false,
      IntKind.wrap IntKind.i64 (Int.ofNat (i + (1 : Nat))) = Int.ofNat (i + (1 : Nat))] (by kernel_rfl)
    (by
      simp only [allP]
      and_intros <;> first
        | omega
        | with_reducible assumption
        | (simp; omega)
        | (simp [hx]; done)
        | exact i64_small (by simp; omega)
        | (simp; done)
        | decide)

theorem feEnd (s : Sp) (i : Nat) (h : s.attrs.length ≤ i) : CodeC Try.prog 0 45 feB (feS s false i) (.exit 0) (feS s false i) :=
  runP hmix [.reg 4 [(3, [.be (I (s.attrs.length : Int))], none), (4, [], some false)]] ⟨[1, 2, 3], [(1000, 1000)], []⟩ [
      Int.ofNat (List.length (List.map At.row (Sp.attrs s))) = Int.ofNat (List.length (Sp.attrs s)),
      decide (Int.ofNat i < Int.ofNat (List.length (Sp.attrs s))) = false] (by kernel_rfl)
    (by
      simp only [allP]
      and_intros <;> first
        | omega
        | with_reducible assumption
        | (simp; omega)
        | (simp; done)
        | decide)

theorem few1 (s : Sp) (h1 : decide (100 < (s.svc.size : Int)) = true) : Contract Try.prog 11 [s.v] [] (Bo false) [] :=
  vcP hmix [.reg 1 [(4, [], some true)]] [] [
      decide (Int.ofNat (ByteArray.size (Sp.svc s)) > (100 : Int)) = true] (by kernel_rfl)
    (by
      simp only [allP]
      and_intros <;> first
        | omega
        | with_reducible assumption
        | (simp; done)
        | decide)

theorem few2 (s : Sp) (h1 : decide (100 < (s.svc.size : Int)) = false) (h2 : decide (100 < (s.op.size : Int)) = true) : Contract Try.prog 11 [s.v] [] (Bo false) [] :=
  vcP hmix [.reg 1 [(4, [], some false), (8, [], some true)]] [] [
      decide (Int.ofNat (ByteArray.size (Sp.svc s)) > (100 : Int)) = false,
      decide (Int.ofNat (ByteArray.size (Sp.op s)) > (100 : Int)) = true] (by kernel_rfl)
    (by
      simp only [allP]
      and_intros <;> first
        | omega
        | with_reducible assumption
        | (simp; done)
        | decide)

theorem few3 (s : Sp) (h1 : decide (100 < (s.svc.size : Int)) = false) (h2 : decide (100 < (s.op.size : Int)) = false) (h3 : decide (20 < (s.attrs.length : Int)) = true) : Contract Try.prog 11 [s.v] [] (Bo false) [] :=
  vcP hmix [.reg 1 [(4, [], some false), (8, [], some false), (13, [.be (I (s.attrs.length : Int))], none), (14, [], some true)]] [] [
      decide (Int.ofNat (ByteArray.size (Sp.svc s)) > (100 : Int)) = false,
      decide (Int.ofNat (ByteArray.size (Sp.op s)) > (100 : Int)) = false,
      Int.ofNat (List.length (List.map At.row (Sp.attrs s))) = Int.ofNat (List.length (Sp.attrs s)),
      decide (Int.ofNat (List.length (Sp.attrs s)) > (20 : Int)) = true] (by kernel_rfl)
    (by
      simp only [allP]
      and_intros <;> first
        | omega
        | with_reducible assumption
        | (simp; done)
        | decide)

theorem few4 (s : Sp) (i : Nat) (h1 : decide (100 < (s.svc.size : Int)) = false) (h2 : decide (100 < (s.op.size : Int)) = false) (h3 : decide (20 < (s.attrs.length : Int)) = false) (hl : LoopC Try.prog 0 45 feB (feS s false 0) .ret (feS s false i)) : Contract Try.prog 11 [s.v] [] (Bo false) [] :=
  vcP hmix [.reg 1 [(4, [], some false), (8, [], some false), (13, [.be (I (s.attrs.length : Int))], none), (14, [], some false)], .cut ⟨[1, 2, 3], [(1000, 1000)], []⟩ .ret (feS s false i)] [] [
      decide (Int.ofNat (ByteArray.size (Sp.svc s)) > (100 : Int)) = false,
      decide (Int.ofNat (ByteArray.size (Sp.op s)) > (100 : Int)) = false,
      Int.ofNat (List.length (List.map At.row (Sp.attrs s))) = Int.ofNat (List.length (Sp.attrs s)),
      decide (Int.ofNat (List.length (Sp.attrs s)) > (20 : Int)) = false,
      LoopC Try.prog (0 : Nat) (45 : Nat) feB { env := [((1 : Nat), V.ptr (1000 : Nat) (0 : Nat) (0 : Nat) (0 : Nat)), ((2 : Nat), Bo false), ((3 : Nat), I (0 : Int))], st := [((1000 : Nat), Obj.box [V.val (Value.int IntKind.u64 (Sp.hi s)), V.val (Value.int IntKind.u64 (Sp.lo s)), V.val (Value.int IntKind.u64 (Sp.id s)), V.val (Value.int IntKind.u64 (Sp.par s)), Sg (Sp.svc s), Sg (Sp.op s), I (Sp.start s), I (Sp.dur s), Bo (Sp.err s), V.sl (2 : Nat) (List.map At.row (Sp.attrs s))])], ids := [(1000 : Nat)] } Ex.ret { env := [((1 : Nat), V.ptr (1000 : Nat) (0 : Nat) (0 : Nat) (0 : Nat)), ((2 : Nat), Bo false), ((3 : Nat), I (Int.ofNat i))], st := [((1000 : Nat), Obj.box (Sp.row s))], ids := [(1000 : Nat)] }] (by kernel_rfl)
    (by
      simp only [allP]
      and_intros <;> first
        | omega
        | with_reducible assumption
        | exact hl
        | (simp; done)
        | decide)

theorem few5 (s : Sp) (h1 : decide (100 < (s.svc.size : Int)) = false) (h2 : decide (100 < (s.op.size : Int)) = false) (h3 : decide (20 < (s.attrs.length : Int)) = false) (hl : LoopC Try.prog 0 45 feB (feS s false 0) (.exit 0) (feS s false s.attrs.length)) : Contract Try.prog 11 [s.v] [] (Bo true) [] :=
  vcP hmix [.reg 1 [(4, [], some false), (8, [], some false), (13, [.be (I (s.attrs.length : Int))], none), (14, [], some false)], .cut ⟨[1, 2, 3], [(1000, 1000)], []⟩ (.exit 0) (feS s false s.attrs.length)] [] [
      decide (Int.ofNat (ByteArray.size (Sp.svc s)) > (100 : Int)) = false,
      decide (Int.ofNat (ByteArray.size (Sp.op s)) > (100 : Int)) = false,
      Int.ofNat (List.length (List.map At.row (Sp.attrs s))) = Int.ofNat (List.length (Sp.attrs s)),
      decide (Int.ofNat (List.length (Sp.attrs s)) > (20 : Int)) = false,
      LoopC Try.prog (0 : Nat) (45 : Nat) feB { env := [((1 : Nat), V.ptr (1000 : Nat) (0 : Nat) (0 : Nat) (0 : Nat)), ((2 : Nat), Bo false), ((3 : Nat), I (0 : Int))], st := [((1000 : Nat), Obj.box [V.val (Value.int IntKind.u64 (Sp.hi s)), V.val (Value.int IntKind.u64 (Sp.lo s)), V.val (Value.int IntKind.u64 (Sp.id s)), V.val (Value.int IntKind.u64 (Sp.par s)), Sg (Sp.svc s), Sg (Sp.op s), I (Sp.start s), I (Sp.dur s), Bo (Sp.err s), V.sl (2 : Nat) (List.map At.row (Sp.attrs s))])], ids := [(1000 : Nat)] } (Ex.exit (0 : Nat)) { env := [((1 : Nat), V.ptr (1000 : Nat) (0 : Nat) (0 : Nat) (0 : Nat)), ((2 : Nat), Bo false), ((3 : Nat), I (Int.ofNat (List.length (Sp.attrs s))))], st := [((1000 : Nat), Obj.box (Sp.row s))], ids := [(1000 : Nat)] }] (by kernel_rfl)
    (by
      simp only [allP]
      and_intros <;> first
        | omega
        | with_reducible assumption
        | exact hl
        | (simp; done)
        | decide)

theorem all_of_idx {α : Type} {p : α → Bool} {l : List α} (h : ∀ (i : Nat) (x : α), l[i]? = some x → p x = false) : l.all (fun a => !p a) = true := by
  rw [List.all_eq_true]
  intro x hx
  obtain ⟨i, hi⟩ := List.mem_iff_getElem?.1 hx
  rw [h i x hi]; rfl
theorem all_not {α : Type} {p : α → Bool} {l : List α} {i : Nat} {x : α} (h : l[i]? = some x) (hp : p x = true) : l.all (fun a => !p a) = false := by
  rw [List.all_eq_false]
  exact ⟨x, List.mem_of_getElem? h, by rw [hp]; simp⟩
theorem cFew (s : Sp) : Contract Try.prog 11 [s.v] [] (Bo (fewS s)) [] := by
  unfold fewS
  cases h1 : decide (100 < (s.svc.size : Int)) with
  | true => exact few1 s h1
  | false =>
    cases h2 : decide (100 < (s.op.size : Int)) with
    | true => exact few2 s h1 h2
    | false =>
      cases h3 : decide (20 < (s.attrs.length : Int)) with
      | true => exact few3 s h1 h2 h3
      | false =>
        have hs : s.attrs.length ≤ 20 := by simp at h3; omega
        simp only [cond_false]
        rcases LoopC.search (P := Try.prog) (k := 0) (n := 45) (c := feB) s.attrs (fun _ a => longA a) (fun i => feS s false i) (fun i => feS s false i) (e1 := .ret) (e2 := .exit 0) (by simp) (by simp)
          (fun i a hx hi hb => by
            unfold longA at hb
            cases k1 : decide (100 < (a.key.size : Int)) with
            | true => rw [k1] at hb; cases hb
            | false => rw [k1] at hb; exact feGo s a i hi hx hs k1 hb)
          (fun i a hx hi hb => by
            unfold longA at hb
            cases k1 : decide (100 < (a.key.size : Int)) with
            | true => exact feStopA s a i hi hx hs k1
            | false => rw [k1] at hb; exact feStopB s a i hi hx hs k1 hb)
          (feEnd s _ (Nat.le_refl _)) with ⟨i, a, k1, k2, _, k4⟩ | ⟨k1, k2⟩
        · rw [all_not k1 k2]
          exact few4 s i h1 h2 h3 k4
        · rw [all_of_idx k1]
          exact few5 s h1 h2 h3 k2

theorem faGo (l : List Sp) (x : Sp) (i : Nat) (h : i < l.length) (hx : l[i]? = some x) (hs : l.length ≤ 60) (hb : fewS x = true) : CodeC Try.prog 0 19 faB (faS l false i) .normal (faS l false (i + 1)) :=
  runP hmix [.reg 4 [(2, [.be (I (l.length : Int))], none), (3, [], some true)], .reg 6 [(3, [.row (Sp.row x)], none), (4, [.call [] [] (Bo (fewS x)) []], some true)], .reg 5 [(1, [.be (I ((i + 1 : Nat) : Int))], none)]] ⟨[0, 2, 3], [], []⟩ [
      Int.ofNat (List.length (List.map Sp.row l)) = Int.ofNat (List.length l),
      decide (Int.ofNat i < Int.ofNat (List.length l)) = true,
      (0 : Int) ≤ Int.ofNat i,
      Int.ofNat i < Int.ofNat (List.length (List.map Sp.row l)),
      (List.map Sp.row l)[i]? = some (Sp.row x),
      Contract Try.prog (11 : Nat) [V.agg [V.val (Value.int IntKind.u64 (Sp.hi x)), V.val (Value.int IntKind.u64 (Sp.lo x)), V.val (Value.int IntKind.u64 (Sp.id x)), V.val (Value.int IntKind.u64 (Sp.par x)), Sg (Sp.svc x), Sg (Sp.op x), I (Sp.start x), I (Sp.dur x), Bo (Sp.err x), V.sl (2 : Nat) (List.map At.row (Sp.attrs x))]] [] (Bo (fewS x)) [],
      fewS x = true,
      IntKind.wrap IntKind.i64 (Int.ofNat (i + (1 : Nat))) = Int.ofNat (i + (1 : Nat))] (by kernel_rfl)
    (by
      simp only [allP]
      and_intros <;> first
        | omega
        | with_reducible assumption
        | exact cFew x
        | (simp; omega)
        | (simp [hx]; done)
        | exact i64_small (by simp; omega)
        | exact hb
        | (simp; done)
        | decide)

theorem faStop (l : List Sp) (x : Sp) (i : Nat) (h : i < l.length) (hx : l[i]? = some x) (hs : l.length ≤ 60) (hb : fewS x = false) : CodeC Try.prog 0 19 faB (faS l false i) .ret (faS l false i) :=
  runP hmix [.reg 4 [(2, [.be (I (l.length : Int))], none), (3, [], some true)], .reg 6 [(3, [.row (Sp.row x)], none), (4, [.call [] [] (Bo (fewS x)) []], some false)]] ⟨[0, 2, 3], [], []⟩ [
      Int.ofNat (List.length (List.map Sp.row l)) = Int.ofNat (List.length l),
      decide (Int.ofNat i < Int.ofNat (List.length l)) = true,
      (0 : Int) ≤ Int.ofNat i,
      Int.ofNat i < Int.ofNat (List.length (List.map Sp.row l)),
      (List.map Sp.row l)[i]? = some (Sp.row x),
      Contract Try.prog (11 : Nat) [V.agg [V.val (Value.int IntKind.u64 (Sp.hi x)), V.val (Value.int IntKind.u64 (Sp.lo x)), V.val (Value.int IntKind.u64 (Sp.id x)), V.val (Value.int IntKind.u64 (Sp.par x)), Sg (Sp.svc x), Sg (Sp.op x), I (Sp.start x), I (Sp.dur x), Bo (Sp.err x), V.sl (2 : Nat) (List.map At.row (Sp.attrs x))]] [] (Bo (fewS x)) [],
      fewS x = false] (by kernel_rfl)
    (by
      simp only [allP]
      and_intros <;> first
        | omega
        | with_reducible assumption
        | exact cFew x
        | (simp; omega)
        | (simp [hx]; done)
        | exact i64_small (by simp; omega)
        | exact hb
        | (simp; done)
        | decide)

theorem faEnd (l : List Sp) (i : Nat) (h : l.length ≤ i) : CodeC Try.prog 0 19 faB (faS l false i) (.exit 0) (faS l false i) :=
  runP hmix [.reg 4 [(2, [.be (I (l.length : Int))], none), (3, [], some false)]] ⟨[0, 2, 3], [], []⟩ [
      Int.ofNat (List.length (List.map Sp.row l)) = Int.ofNat (List.length l),
      decide (Int.ofNat i < Int.ofNat (List.length l)) = false] (by kernel_rfl)
    (by
      simp only [allP]
      and_intros <;> first
        | omega
        | with_reducible assumption
        | (simp; omega)
        | (simp; done)
        | decide)

theorem fewAll1 (l : List Sp) (h1 : decide (60 < (l.length : Int)) = true) : Contract Try.prog 7 [.sl 10 (l.map Sp.row)] [] (Bo false) [] :=
  vcP hmix [.reg 1 [(1, [.be (I (l.length : Int))], none), (2, [], some true)]] [] [
      Int.ofNat (List.length (List.map Sp.row l)) = Int.ofNat (List.length l),
      decide (Int.ofNat (List.length l) > (60 : Int)) = true] (by kernel_rfl)
    (by
      simp only [allP]
      and_intros <;> first
        | omega
        | with_reducible assumption
        | (simp; done)
        | decide)

theorem fewAll2 (l : List Sp) (i : Nat) (h1 : decide (60 < (l.length : Int)) = false) (hl : LoopC Try.prog 0 19 faB (faS l false 0) .ret (faS l false i)) : Contract Try.prog 7 [.sl 10 (l.map Sp.row)] [] (Bo false) [] :=
  vcP hmix [.reg 1 [(1, [.be (I (l.length : Int))], none), (2, [], some false)], .cut ⟨[0, 2, 3], [], []⟩ .ret (faS l false i)] [] [
      Int.ofNat (List.length (List.map Sp.row l)) = Int.ofNat (List.length l),
      decide (Int.ofNat (List.length l) > (60 : Int)) = false,
      LoopC Try.prog (0 : Nat) (19 : Nat) faB { env := [((0 : Nat), V.sl (10 : Nat) (List.map Sp.row l)), ((2 : Nat), Bo false), ((3 : Nat), I (0 : Int))], st := [], ids := [] } Ex.ret { env := [((0 : Nat), V.sl (10 : Nat) (List.map Sp.row l)), ((2 : Nat), Bo false), ((3 : Nat), I (Int.ofNat i))], st := [], ids := [] }] (by kernel_rfl)
    (by
      simp only [allP]
      and_intros <;> first
        | omega
        | with_reducible assumption
        | exact hl
        | (simp; done)
        | decide)

theorem fewAll3 (l : List Sp) (h1 : decide (60 < (l.length : Int)) = false) (hl : LoopC Try.prog 0 19 faB (faS l false 0) (.exit 0) (faS l false l.length)) : Contract Try.prog 7 [.sl 10 (l.map Sp.row)] [] (Bo true) [] :=
  vcP hmix [.reg 1 [(1, [.be (I (l.length : Int))], none), (2, [], some false)], .cut ⟨[0, 2, 3], [], []⟩ (.exit 0) (faS l false l.length)] [] [
      Int.ofNat (List.length (List.map Sp.row l)) = Int.ofNat (List.length l),
      decide (Int.ofNat (List.length l) > (60 : Int)) = false,
      LoopC Try.prog (0 : Nat) (19 : Nat) faB { env := [((0 : Nat), V.sl (10 : Nat) (List.map Sp.row l)), ((2 : Nat), Bo false), ((3 : Nat), I (0 : Int))], st := [], ids := [] } (Ex.exit (0 : Nat)) { env := [((0 : Nat), V.sl (10 : Nat) (List.map Sp.row l)), ((2 : Nat), Bo false), ((3 : Nat), I (Int.ofNat (List.length l)))], st := [], ids := [] }] (by kernel_rfl)
    (by
      simp only [allP]
      and_intros <;> first
        | omega
        | with_reducible assumption
        | exact hl
        | (simp; done)
        | decide)

theorem cFewAll (l : List Sp) : Contract Try.prog 7 [.sl 10 (l.map Sp.row)] [] (Bo (fewAll l)) [] := by
  unfold fewAll
  cases h1 : decide (60 < (l.length : Int)) with
  | true => exact fewAll1 l h1
  | false =>
    have hs : l.length ≤ 60 := by simp at h1; omega
    simp only [cond_false]
    rcases LoopC.search (P := Try.prog) (k := 0) (n := 19) (c := faB) l (fun _ x => !fewS x) (fun i => faS l false i) (fun i => faS l false i) (e1 := .ret) (e2 := .exit 0) (by simp) (by simp)
      (fun i a hx hi hb => faGo l a i hi hx hs (by simpa using hb))
      (fun i a hx hi hb => faStop l a i hi hx hs (by simpa using hb))
      (faEnd l _ (Nat.le_refl _)) with ⟨i, a, k1, k2, _, k4⟩ | ⟨k1, k2⟩
    · have := all_not (p := fun x => !fewS x) k1 k2
      simp only [Bool.not_not] at this
      rw [show l.all fewS = false from this]
      exact fewAll2 l i h1 k4
    · have := all_of_idx (p := fun x => !fewS x) k1
      simp only [Bool.not_not] at this
      rw [show l.all fewS = true from this]
      exact fewAll3 l h1 k2
theorem fewAll_len {l : List Sp} (h : fewAll l = true) : l.length ≤ 60 ∧ ∀ x ∈ l, x.attrs.length ≤ 20 := by
  unfold fewAll at h
  cases h1 : decide (60 < (l.length : Int)) with
  | true => rw [h1] at h; cases h
  | false =>
    rw [h1] at h
    refine ⟨by simp at h1; omega, fun x hx => ?_⟩
    have h := List.all_eq_true.1 h x hx
    unfold fewS at h
    cases a1 : decide (100 < (x.svc.size : Int)) with
    | true => rw [a1] at h; cases h
    | false =>
      cases a2 : decide (100 < (x.op.size : Int)) with
      | true => rw [a1, a2] at h; cases h
      | false =>
        cases a3 : decide (20 < (x.attrs.length : Int)) with
        | true => rw [a1, a2, a3] at h; cases h
        | false => simp at a3; omega

theorem ssGo (l : List Ed) (x : Ed) (i : Nat) (h : i < l.length) (hx : l[i]? = some x) (hs : l.length ≤ 1000000000) : CodeC Try.prog 0 26 ssB (ssS l i) .normal (ssS l (i + 1)) :=
  runP hmix [.reg 4 [(2, [.be (I (l.length : Int))], none), (3, [], some true)], .reg 6 [(3, [.row (Ed.row x)], none), (7, [.row (Ed.row x)], none), (8, [], some false)], .reg 5 [(1, [.be (I ((i + 1 : Nat) : Int))], none)]] ⟨[0, 1, 5], [], []⟩ [
      Int.ofNat (List.length (List.map Ed.row l)) = Int.ofNat (List.length l),
      decide (Int.ofNat i < Int.ofNat (List.length l)) = true,
      (0 : Int) ≤ Int.ofNat i,
      Int.ofNat i < Int.ofNat (List.length (List.map Ed.row l)),
      (List.map Ed.row l)[i]? = some (Ed.row x),
      (0 : Int) ≤ Int.ofNat i,
      Int.ofNat i < Int.ofNat (List.length (List.map Ed.row l)),
      (List.map Ed.row l)[i]? = some (Ed.row x),
      (!(Ed.fr x == Ed.fr x && (Ed.to x == Ed.to x && (decide (Ed.cnt x = Ed.cnt x) && (decide (Ed.errs x = Ed.errs x) && true))))) = false,
      IntKind.wrap IntKind.i64 (Int.ofNat (i + (1 : Nat))) = Int.ofNat (i + (1 : Nat))] (by kernel_rfl)
    (by
      simp only [allP]
      and_intros <;> first
        | omega
        | with_reducible assumption
        | (simp; omega)
        | (simp [hx]; done)
        | exact i64_small (by simp; omega)
        | (simp [ba_refl]; done)
        | (simp; done)
        | decide)

theorem ssEnd (l : List Ed) (i : Nat) (h : l.length ≤ i) : CodeC Try.prog 0 26 ssB (ssS l i) (.exit 0) (ssS l i) :=
  runP hmix [.reg 4 [(2, [.be (I (l.length : Int))], none), (3, [], some false)]] ⟨[0, 1, 5], [], []⟩ [
      Int.ofNat (List.length (List.map Ed.row l)) = Int.ofNat (List.length l),
      decide (Int.ofNat i < Int.ofNat (List.length l)) = false] (by kernel_rfl)
    (by
      simp only [allP]
      and_intros <;> first
        | omega
        | with_reducible assumption
        | (simp; omega)
        | (simp; done)
        | decide)

theorem same0 (l : List Ed) (hl : LoopC Try.prog 0 26 ssB (ssS l 0) (.exit 0) (ssS l l.length)) : Contract Try.prog 9 [.sl 4 (l.map Ed.row), .sl 4 (l.map Ed.row)] [] (Bo true) [] :=
  vcP hmix [.reg 1 [(1, [.be (I (l.length : Int))], none), (3, [.be (I (l.length : Int))], none), (4, [], some false)], .cut ⟨[0, 1, 5], [], []⟩ (.exit 0) (ssS l l.length)] [] [
      Int.ofNat (List.length (List.map Ed.row l)) = Int.ofNat (List.length l),
      Int.ofNat (List.length (List.map Ed.row l)) = Int.ofNat (List.length l),
      (Int.ofNat (List.length l) != Int.ofNat (List.length l)) = false,
      LoopC Try.prog (0 : Nat) (26 : Nat) ssB { env := [((0 : Nat), V.sl (4 : Nat) (List.map Ed.row l)), ((1 : Nat), V.sl (4 : Nat) (List.map Ed.row l)), ((5 : Nat), I (0 : Int))], st := [], ids := [] } (Ex.exit (0 : Nat)) { env := [((0 : Nat), V.sl (4 : Nat) (List.map Ed.row l)), ((1 : Nat), V.sl (4 : Nat) (List.map Ed.row l)), ((5 : Nat), I (Int.ofNat (List.length l)))], st := [], ids := [] }] (by kernel_rfl)
    (by
      simp only [allP]
      and_intros <;> first
        | omega
        | with_reducible assumption
        | exact hl
        | (simp; done)
        | (simp; done)
        | decide)

theorem cSame (l : List Ed) (hs : l.length ≤ 1000000000) : Contract Try.prog 9 [.sl 4 (l.map Ed.row), .sl 4 (l.map Ed.row)] [] (Bo true) [] := by
  refine same0 l ?_
  have := LoopC.fold (P := Try.prog) (k := 0) (n := 26) (c := ssB) l (fun (u : Unit) _ => u) (fun _ _ => True) (fun _ i => ssS l i) (e := .exit 0) (by simp)
    (fun i s x hx hi _ => ⟨ssGo l x i hi hx hs, trivial⟩) (fun s _ => ssEnd l _ (Nat.le_refl _)) () trivial
  exact this

theorem orGoA (l : List Ed) (x y : Ed) (j : Nat) (h : j + 1 < l.length) (hy : l[j]? = some y) (hx : l[j + 1]? = some x) (hs : l.length ≤ 1000000000) (h1 : ltS x.fr y.fr = false) (h2 : (x.fr.toList == y.fr.toList) = false) : CodeC Try.prog 0 50 orB (orS l j) .normal (orS l (j + 1)) :=
  runP hmix [.reg 2 [(2, [.be (I (l.length : Int))], none), (3, [], some true)], .reg 4 [(4, [.row (Ed.row x)], none), (7, [.be (I (j : Int))], none), (10, [.row (Ed.row y)], none), (11, [], some false), (17, [.row (Ed.row x)], none), (20, [.be (I (j : Int))], none), (23, [.row (Ed.row y)], none), (24, [], some false)], .reg 3 [(1, [.be (I ((j + 1 + 1 : Nat) : Int))], none)]] ⟨[0, 3], [], []⟩ [
      Int.ofNat (List.length (List.map Ed.row l)) = Int.ofNat (List.length l),
      decide (Int.ofNat (j + (1 : Nat)) < Int.ofNat (List.length l)) = true,
      (0 : Int) ≤ Int.ofNat (j + (1 : Nat)),
      Int.ofNat (j + (1 : Nat)) < Int.ofNat (List.length (List.map Ed.row l)),
      (List.map Ed.row l)[Int.toNat (Int.ofNat (j + (1 : Nat)))]? = some (Ed.row x),
      IntKind.wrap IntKind.i64 (Int.ofNat (j + (1 : Nat)) + (-1 : Int)) = Int.ofNat j,
      (0 : Int) ≤ Int.ofNat j,
      Int.ofNat j < Int.ofNat (List.length (List.map Ed.row l)),
      (List.map Ed.row l)[j]? = some (Ed.row y),
      Op.bytesLess (ByteArray.toList (Ed.fr x)) (ByteArray.toList (Ed.fr y)) = false,
      (0 : Int) ≤ Int.ofNat (j + (1 : Nat)),
      Int.ofNat (j + (1 : Nat)) < Int.ofNat (List.length (List.map Ed.row l)),
      (List.map Ed.row l)[Int.toNat (Int.ofNat (j + (1 : Nat)))]? = some (Ed.row x),
      IntKind.wrap IntKind.i64 (Int.ofNat (j + (1 : Nat)) + (-1 : Int)) = Int.ofNat j,
      (0 : Int) ≤ Int.ofNat j,
      Int.ofNat j < Int.ofNat (List.length (List.map Ed.row l)),
      (List.map Ed.row l)[j]? = some (Ed.row y),
      (ByteArray.toList (Ed.fr x) == ByteArray.toList (Ed.fr y)) = false,
      IntKind.wrap IntKind.i64 (Int.ofNat (j + (1 : Nat) + (1 : Nat))) = Int.ofNat (j + (1 : Nat) + (1 : Nat))] (by kernel_rfl)
    (by
      simp only [allP]
      and_intros <;> first
        | omega
        | with_reducible assumption
        | (simp; omega)
        | (simp [hx]; done)
        | (simp [hy]; done)
        | (simp [List.getElem?_map, hx]; done)
        | exact i64_small (by simp; omega)
        | (rw [i64_small (by simp; omega)]; simp; done)
        | (rw [i64_small (by simp; omega)]; simp; omega)
        | exact h1
        | exact h2
        | exact h3
        | (simp; done)
        | decide)

theorem orGoB (l : List Ed) (x y : Ed) (j : Nat) (h : j + 1 < l.length) (hy : l[j]? = some y) (hx : l[j + 1]? = some x) (hs : l.length ≤ 1000000000) (h1 : ltS x.fr y.fr = false) (h2 : (x.fr.toList == y.fr.toList) = true) (h3 : (ltS x.to y.to || x.to.toList == y.to.toList) = false) : CodeC Try.prog 0 50 orB (orS l j) .normal (orS l (j + 1)) :=
  runP hmix [.reg 2 [(2, [.be (I (l.length : Int))], none), (3, [], some true)], .reg 4 [(4, [.row (Ed.row x)], none), (7, [.be (I (j : Int))], none), (10, [.row (Ed.row y)], none), (11, [], some false), (17, [.row (Ed.row x)], none), (20, [.be (I (j : Int))], none), (23, [.row (Ed.row y)], none), (24, [], some true), (30, [.row (Ed.row x)], none), (33, [.be (I (j : Int))], none), (36, [.row (Ed.row y)], none), (37, [], some false)], .reg 3 [(1, [.be (I ((j + 1 + 1 : Nat) : Int))], none)]] ⟨[0, 3], [], []⟩ [
      Int.ofNat (List.length (List.map Ed.row l)) = Int.ofNat (List.length l),
      decide (Int.ofNat (j + (1 : Nat)) < Int.ofNat (List.length l)) = true,
      (0 : Int) ≤ Int.ofNat (j + (1 : Nat)),
      Int.ofNat (j + (1 : Nat)) < Int.ofNat (List.length (List.map Ed.row l)),
      (List.map Ed.row l)[Int.toNat (Int.ofNat (j + (1 : Nat)))]? = some (Ed.row x),
      IntKind.wrap IntKind.i64 (Int.ofNat (j + (1 : Nat)) + (-1 : Int)) = Int.ofNat j,
      (0 : Int) ≤ Int.ofNat j,
      Int.ofNat j < Int.ofNat (List.length (List.map Ed.row l)),
      (List.map Ed.row l)[j]? = some (Ed.row y),
      Op.bytesLess (ByteArray.toList (Ed.fr x)) (ByteArray.toList (Ed.fr y)) = false,
      (0 : Int) ≤ Int.ofNat (j + (1 : Nat)),
      Int.ofNat (j + (1 : Nat)) < Int.ofNat (List.length (List.map Ed.row l)),
      (List.map Ed.row l)[Int.toNat (Int.ofNat (j + (1 : Nat)))]? = some (Ed.row x),
      IntKind.wrap IntKind.i64 (Int.ofNat (j + (1 : Nat)) + (-1 : Int)) = Int.ofNat j,
      (0 : Int) ≤ Int.ofNat j,
      Int.ofNat j < Int.ofNat (List.length (List.map Ed.row l)),
      (List.map Ed.row l)[j]? = some (Ed.row y),
      (ByteArray.toList (Ed.fr x) == ByteArray.toList (Ed.fr y)) = true,
      (0 : Int) ≤ Int.ofNat (j + (1 : Nat)),
      Int.ofNat (j + (1 : Nat)) < Int.ofNat (List.length (List.map Ed.row l)),
      (List.map Ed.row l)[Int.toNat (Int.ofNat (j + (1 : Nat)))]? = some (Ed.row x),
      IntKind.wrap IntKind.i64 (Int.ofNat (j + (1 : Nat)) + (-1 : Int)) = Int.ofNat j,
      (0 : Int) ≤ Int.ofNat j,
      Int.ofNat j < Int.ofNat (List.length (List.map Ed.row l)),
      (List.map Ed.row l)[j]? = some (Ed.row y),
      (Op.bytesLess (ByteArray.toList (Ed.to x)) (ByteArray.toList (Ed.to y)) || ByteArray.toList (Ed.to x) == ByteArray.toList (Ed.to y)) = false,
      IntKind.wrap IntKind.i64 (Int.ofNat (j + (1 : Nat) + (1 : Nat))) = Int.ofNat (j + (1 : Nat) + (1 : Nat))] (by kernel_rfl)
    (by
      simp only [allP]
      and_intros <;> first
        | omega
        | with_reducible assumption
        | (simp; omega)
        | (simp [hx]; done)
        | (simp [hy]; done)
        | (simp [List.getElem?_map, hx]; done)
        | exact i64_small (by simp; omega)
        | (rw [i64_small (by simp; omega)]; simp; done)
        | (rw [i64_small (by simp; omega)]; simp; omega)
        | exact h1
        | exact h2
        | exact h3
        | (simp; done)
        | decide)

theorem orEnd (l : List Ed) (j : Nat) (h : l.length ≤ j + 1) : CodeC Try.prog 0 50 orB (orS l j) (.exit 0) (orS l j) :=
  runP hmix [.reg 2 [(2, [.be (I (l.length : Int))], none), (3, [], some false)]] ⟨[0, 3], [], []⟩ [
      Int.ofNat (List.length (List.map Ed.row l)) = Int.ofNat (List.length l),
      decide (Int.ofNat (j + (1 : Nat)) < Int.ofNat (List.length l)) = false] (by kernel_rfl)
    (by
      simp only [allP]
      and_intros <;> first
        | omega
        | with_reducible assumption
        | (simp; omega)
        | (simp; done)
        | decide)

theorem ord0 (l : List Ed) (j : Nat) (hl : LoopC Try.prog 0 50 orB (orS l 0) (.exit 0) (orS l j)) : Contract Try.prog 10 [.sl 4 (l.map Ed.row)] [] (Bo true) [] :=
  vcP hmix [.cut ⟨[0, 3], [], []⟩ (.exit 0) (orS l j)] [] [
      LoopC Try.prog (0 : Nat) (50 : Nat) orB { env := [((0 : Nat), V.sl (4 : Nat) (List.map Ed.row l)), ((3 : Nat), I (1 : Int))], st := [], ids := [] } (Ex.exit (0 : Nat)) { env := [((0 : Nat), V.sl (4 : Nat) (List.map Ed.row l)), ((3 : Nat), I (Int.ofNat (j + (1 : Nat))))], st := [], ids := [] }] (by kernel_rfl)
    (by
      simp only [allP]
      and_intros <;> first
        | omega
        | with_reducible assumption
        | exact hl
        | (simp; done)
        | (simp; done)
        | decide)

/-- A list whose neighbours stand in order. -/
def nextE (l : List Ed) : Prop := ∀ (j : Nat) (y x : Ed), l[j]? = some y → l[j + 1]? = some x → ltE y x
theorem cOrdered (l : List Ed) (hs : l.length ≤ 1000000000) (ho : nextE l) : Contract Try.prog 10 [.sl 4 (l.map Ed.row)] [] (Bo true) [] := by
  refine ord0 l (l.length - 1) ?_
  have key : ∀ (m j : Nat), j + m = l.length - 1 → LoopC Try.prog 0 50 orB (orS l j) (.exit 0) (orS l (l.length - 1)) := by
    intro m
    induction m with
    | zero =>
      intro j hj
      have : j = l.length - 1 := by omega
      subst this
      exact LoopC.last (orEnd l _ (by omega)) (by simp)
    | succ m ih =>
      intro j hj
      have h1 : j + 1 < l.length := by omega
      have hx : l[j + 1]? = some l[j + 1] := List.getElem?_eq_getElem h1
      have hy : l[j]? = some l[j] := List.getElem?_eq_getElem (by omega)
      refine LoopC.next (s1 := orS l (j + 1)) ?_ (ih (j + 1) (by omega))
      rcases ho j _ _ hy hx with ⟨a, b⟩ | ⟨a, b, c⟩
      · exact orGoA l _ _ j h1 hy hx hs a b
      · exact orGoB l _ _ j h1 hy hx hs a b c
  exact key (l.length - 1) 0 (by omega)

end Go.Proofs.Ytieffigehkjifaa

/- edges: the plain law: calls are counted in whichever order. -/
namespace Go.Proofs.Ytieffigehkjifaa
open E
set_option linter.unusedVariables false
set_option linter.unusedSimpArgs false

def inI (n : Int) : Prop := -9223372036854775808 ≤ n ∧ n ≤ 9223372036854775807

/-- What is told together. -/
def plusN (a b m : Int) : Int :=
  let m := if 0 < m then m else 0
  let a := if a < 0 then 0 else if m < a then m else a
  let b := if b < 0 then 0 else if m < b then m else b
  if m - a < b then m else a + b

theorem plusR_eq {a b m : Int} (hm : inI m) : plusR a b m = plusN a b m := by
  unfold inI at hm
  have h1 : ∀ m a : Int, 0 ≤ m → m ≤ 9223372036854775807 → mx 0 (mn a m) = (if a < 0 then 0 else if m < a then m else a) := by
    intro m a h1 h2
    unfold mx mn
    repeat' split
    all_goals omega
  have h0 : mx 0 m = if 0 < m then m else 0 := rfl
  unfold plusR plusN
  simp only [h0]
  generalize hM : (if 0 < m then m else 0) = M
  have hM1 : 0 ≤ M ∧ M ≤ 9223372036854775807 := by subst hM; split <;> omega
  rw [h1 M a hM1.1 hM1.2, h1 M b hM1.1 hM1.2]
  generalize hA : (if a < 0 then 0 else if M < a then M else a) = A
  generalize hB : (if b < 0 then 0 else if M < b then M else b) = B
  have hA1 : 0 ≤ A ∧ A ≤ M := by subst hA; repeat' split
                                 all_goals omega
  have hB1 : 0 ≤ B ∧ B ≤ M := by subst hB; repeat' split
                                 all_goals omega
  rw [i64_small (n := M - A) (by omega)]
  unfold mn
  split
  · rw [i64_small (by omega)]; omega
  · rw [i64_small (by omega)]

theorem plusN_swap (a b c m : Int) : plusN (plusN a b m) c m = plusN (plusN a c m) b m := by
  unfold plusN
  simp only
  generalize hM : (if 0 < m then m else 0) = M
  have hM1 : 0 ≤ M := by subst hM; split <;> omega
  generalize hA : (if a < 0 then 0 else if M < a then M else a) = A
  generalize hB : (if b < 0 then 0 else if M < b then M else b) = B
  generalize hC : (if c < 0 then 0 else if M < c then M else c) = C
  have hA1 : 0 ≤ A ∧ A ≤ M := by subst hA; repeat' split
                                 all_goals omega
  have hB1 : 0 ≤ B ∧ B ≤ M := by subst hB; repeat' split
                                 all_goals omega
  have hC1 : 0 ≤ C ∧ C ≤ M := by subst hC; repeat' split
                                 all_goals omega
  clear hA hB hC hM
  repeat' split
  all_goals omega

/-! ### the order of edges -/

theorem cmpD_zero {a b : Ed} : cmpD a b = 0 ↔ a.fr = b.fr ∧ a.to = b.to := by
  unfold cmpD orI
  by_cases h : cmpS a.fr b.fr = 0
  · rw [h]
    simp only [bne_self_eq_false, cond_false, cmpS_zero]
    exact ⟨fun k => ⟨cmpS_zero.1 h, k⟩, fun k => k.2⟩
  · have : (cmpS a.fr b.fr != 0) = true := by simp [h]
    rw [this]
    simp only [cond_true]
    exact ⟨fun k => absurd k h, fun k => absurd (cmpS_zero.2 k.1) h⟩
theorem cmpD_neg {a b : Ed} : cmpD a b < 0 ↔ ltS a.fr b.fr = true ∨ a.fr = b.fr ∧ ltS a.to b.to = true := by
  unfold cmpD orI
  by_cases h : cmpS a.fr b.fr = 0
  · rw [h]
    have e := cmpS_zero.1 h
    simp only [bne_self_eq_false, cond_false, cmpS_neg]
    constructor
    · exact fun k => .inr ⟨e, k⟩
    · rintro (k | k)
      · rw [e, ltS_irrefl] at k; cases k
      · exact k.2
  · have : (cmpS a.fr b.fr != 0) = true := by simp [h]
    rw [this]
    simp only [cond_true, cmpS_neg]
    constructor
    · exact .inl
    · rintro (k | k)
      · exact k
      · exact absurd (cmpS_zero.2 k.1) h
theorem cmpD_flip (a b : Ed) : cmpD b a = - cmpD a b := by
  unfold cmpD orI
  rw [cmpS_flip a.fr b.fr, cmpS_flip a.to b.to]
  by_cases h : cmpS a.fr b.fr = 0
  · rw [h]; rfl
  · have h1 : (cmpS a.fr b.fr != 0) = true := by simp [h]
    have h2 : (- cmpS a.fr b.fr != 0) = true := by simp; omega
    rw [h1, h2]
    rfl
theorem cmpD_trans {a b c : Ed} (h : cmpD a b < 0) (k : cmpD b c < 0) : cmpD a c < 0 := by
  rw [cmpD_neg] at h k ⊢
  rcases h with h | ⟨e, h⟩
  · rcases k with k | ⟨f, k⟩
    · exact .inl (ltS_trans h k)
    · exact .inl (f ▸ h)
  · rcases k with k | ⟨f, k⟩
    · exact .inl (e ▸ k)
    · exact .inr ⟨e.trans f, ltS_trans h k⟩
theorem cmpD_key {a b c d : Ed} (h1 : a.fr = b.fr) (h2 : a.to = b.to) (h3 : c.fr = d.fr) (h4 : c.to = d.to) : cmpD a c = cmpD b d := by
  unfold cmpD; rw [h1, h2, h3, h4]

/-- Edges in order. -/
def SortedE (l : List Ed) : Prop := l.Pairwise (fun a b => cmpD a b < 0)
theorem SortedE.next {l : List Ed} (h : SortedE l) : nextE l := by
  intro j y x hy hx
  have h1 := (List.getElem?_eq_some_iff.1 hx).1
  have k := List.pairwise_iff_getElem.1 h j (j + 1) (by omega) h1 (by omega)
  rw [(List.getElem?_eq_some_iff.1 hy).2, (List.getElem?_eq_some_iff.1 hx).2] at k
  rcases cmpD_neg.1 k with k | ⟨e, k⟩
  · refine .inl ⟨ltS_asymm k, ?_⟩
    cases hb : x.fr.toList == y.fr.toList with
    | false => rfl
    | true =>
      have hb : x.fr.toList = y.fr.toList := by simpa using hb
      have := (ltS_iff _ _).1 k
      rw [hb] at this
      exact absurd this (by have := ltS_irrefl y.fr; intro hh; rw [(ltS_iff _ _).2 hh] at this; cases this)
  · refine .inr ⟨by rw [e]; exact ltS_irrefl _, by rw [e]; simp, ?_⟩
    rw [ltS_asymm k, Bool.false_or]
    cases hb : x.to.toList == y.to.toList with
    | false => rfl
    | true =>
      have hb : x.to.toList = y.to.toList := by simpa using hb
      have := (ltS_iff _ _).1 k
      rw [hb] at this
      exact absurd this (by have := ltS_irrefl y.to; intro hh; rw [(ltS_iff _ _).2 hh] at this; cases this)

/-! ### counting, one by one -/

def cntR (key : Ed) (err : Bool) (m : Int) : List Ed → List Ed
  | [] => [bumpE m err key]
  | y :: ys => if cmpD y key = 0 then bumpE m err y :: ys else if 0 < cmpD y key then bumpE m err key :: y :: ys else y :: cntR key err m ys

theorem mem_cntR {key : Ed} {err : Bool} {m : Int} : ∀ {l : List Ed} {z : Ed}, z ∈ cntR key err m l → (z.fr = key.fr ∧ z.to = key.to) ∨ ∃ y ∈ l, z.fr = y.fr ∧ z.to = y.to
  | [], z, h => by
    simp only [cntR, List.mem_singleton] at h
    subst h
    exact .inl ⟨rfl, rfl⟩
  | y :: ys, z, h => by
    unfold cntR at h
    split at h
    · rcases List.mem_cons.1 h with rfl | h
      · exact .inr ⟨y, by simp, rfl, rfl⟩
      · exact .inr ⟨z, by simp [h], rfl, rfl⟩
    · split at h
      · rcases List.mem_cons.1 h with rfl | h
        · exact .inl ⟨rfl, rfl⟩
        · exact .inr ⟨z, h, rfl, rfl⟩
      · rcases List.mem_cons.1 h with rfl | h
        · exact .inr ⟨z, by simp, rfl, rfl⟩
        · rcases mem_cntR h with h | ⟨y', h1, h2⟩
          · exact .inl h
          · exact .inr ⟨y', by simp [h1], h2⟩

theorem sorted_cntR {key : Ed} {err : Bool} {m : Int} : ∀ {l : List Ed}, SortedE l → SortedE (cntR key err m l)
  | [], h => by simp [cntR, SortedE]
  | y :: ys, h => by
    have h' := List.pairwise_cons.1 h
    unfold cntR
    split
    · exact List.pairwise_cons.2 ⟨fun z hz => h'.1 z hz, h'.2⟩
    · rename_i hz0
      split
      · rename_i hz
        refine List.pairwise_cons.2 ⟨fun z hz' => ?_, h⟩
        have e : cmpD (bumpE m err key) y < 0 := by
          have := cmpD_flip y key
          have e2 : cmpD (bumpE m err key) y = cmpD key y := cmpD_key rfl rfl rfl rfl
          omega
        rcases List.mem_cons.1 hz' with rfl | hz'
        · exact e
        · exact cmpD_trans e (h'.1 z hz')
      · refine List.pairwise_cons.2 ⟨fun z hz' => ?_, sorted_cntR h'.2⟩
        rcases mem_cntR hz' with ⟨a, b⟩ | ⟨y', h1, h2, h3⟩
        · rw [cmpD_key (b := y) (d := key) rfl rfl a b]; omega
        · rw [cmpD_key (b := y) (d := y') rfl rfl h2 h3]; exact h'.1 y' h1

theorem countE_eq {key : Ed} {err : Bool} {m : Int} : ∀ {l : List Ed}, SortedE l → countE l key err m = cntR key err m l
  | [], _ => rfl
  | y :: ys, h => by
    have h' := List.pairwise_cons.1 h
    have ih := countE_eq (key := key) (err := err) (m := m) h'.2
    unfold cntR
    by_cases h0 : cmpD y key = 0
    · rw [if_pos h0]
      have : pEq key y = true := by simp [pEq, h0]
      simp [countE, List.findIdx?_cons, this]
    · rw [if_neg h0]
      have h1 : pEq key y = false := by simp [pEq, h0]
      by_cases hg : 0 < cmpD y key
      · rw [if_pos hg]
        have h2 : pGt key y = true := by simp [pGt, hg]
        have h3 : ys.findIdx? (pEq key) = none := by
          rw [List.findIdx?_eq_none_iff]
          intro z hz
          have a := h'.1 z hz
          have b := cmpD_flip y key
          have c := cmpD_trans (a := key) (b := y) (c := z) (by omega) a
          have d := cmpD_flip z key
          simp [pEq]; omega
        simp [countE, List.findIdx?_cons, h1, h2, h3, insE]
      · rw [if_neg hg]
        have h2 : pGt key y = false := by simp [pGt]; omega
        rw [← ih]
        unfold countE
        simp only [List.findIdx?_cons, h1, h2, Bool.false_eq_true, if_false]
        cases hf : ys.findIdx? (pEq key) with
        | some j => simp
        | none =>
          cases hq : ys.findIdx? (pGt key) with
          | some j => simp [insE]
          | none => simp [insE]

theorem bump_swap {m : Int} (hm : inI m) (e1 e2 : Bool) (y : Ed) : bumpE m e1 (bumpE m e2 y) = bumpE m e2 (bumpE m e1 y) := by
  unfold bumpE
  simp only [plusR_eq hm]
  rw [plusN_swap y.errs]

theorem key_eq {a b : ByteArray × ByteArray} (h : cmpD (Ed.mk a.1 a.2 0 0) (Ed.mk b.1 b.2 0 0) = 0) : a = b := by
  obtain ⟨h1, h2⟩ := cmpD_zero.1 h
  exact Prod.ext h1 h2

/-- A call: who calls whom, and whether it went wrong. -/
def cntK (m : Int) (l : List Ed) (k : (ByteArray × ByteArray) × Bool) : List Ed := cntR (Ed.mk k.1.1 k.1.2 0 0) k.2 m l

theorem cmp_b (m : Int) (e : Bool) (y k : Ed) : cmpD (bumpE m e y) k = cmpD y k := cmpD_key rfl rfl rfl rfl

theorem cnt_swap {m : Int} (hm : inI m) (p q : (ByteArray × ByteArray) × Bool) : ∀ l : List Ed, cntK m (cntK m l p) q = cntK m (cntK m l q) p
  | [] => by
    unfold cntK
    simp only [cntR, cmp_b]
    have hpq : cmpD (Ed.mk p.1.1 p.1.2 0 0) (Ed.mk q.1.1 q.1.2 0 0) = 0 → p.1 = q.1 := key_eq
    generalize hP : Ed.mk p.1.1 p.1.2 0 0 = P at hpq ⊢
    generalize hQ : Ed.mk q.1.1 q.1.2 0 0 = Q at hpq ⊢
    have hf := cmpD_flip P Q
    by_cases h0 : cmpD P Q = 0
    · have e : P = Q := by rw [← hP, ← hQ, hpq h0]
      subst e
      simp only [h0, if_true, bump_swap hm]
    · by_cases h1 : 0 < cmpD P Q
      · simp only [h0, h1, if_true, if_false, show ¬ cmpD Q P = 0 by omega, show ¬ 0 < cmpD Q P by omega]
      · simp only [h0, h1, if_true, if_false, show ¬ cmpD Q P = 0 by omega, show 0 < cmpD Q P by omega]
  | y :: ys => by
    have ih := cnt_swap hm p q ys
    unfold cntK at ih ⊢
    generalize hP : Ed.mk p.1.1 p.1.2 0 0 = P at ih ⊢
    generalize hQ : Ed.mk q.1.1 q.1.2 0 0 = Q at ih ⊢
    have hf := cmpD_flip P Q
    have hy1 := cmpD_flip y P
    have hy2 := cmpD_flip y Q
    by_cases a0 : cmpD y P = 0
    · have ep : cmpD y Q = cmpD P Q := by
        obtain ⟨h1, h2⟩ := cmpD_zero.1 a0
        exact cmpD_key h1 h2 rfl rfl
      by_cases b0 : cmpD y Q = 0
      · simp only [cntR, a0, b0, cmp_b, if_true, bump_swap hm]
      · by_cases b1 : 0 < cmpD y Q
        · simp only [cntR, a0, b0, b1, cmp_b, if_true, if_false, show ¬ cmpD Q P = 0 by omega, show ¬ 0 < cmpD Q P by omega]
        · simp only [cntR, a0, b0, b1, cmp_b, if_true, if_false]
    · by_cases a1 : 0 < cmpD y P
      · by_cases b0 : cmpD y Q = 0
        · have eq : cmpD y P = cmpD Q P := by
            obtain ⟨h1, h2⟩ := cmpD_zero.1 b0
            exact cmpD_key h1 h2 rfl rfl
          simp only [cntR, a0, a1, b0, cmp_b, if_true, if_false, show ¬ cmpD P Q = 0 by omega, show ¬ 0 < cmpD P Q by omega]
        · by_cases b1 : 0 < cmpD y Q
          · by_cases c0 : cmpD P Q = 0
            · have e : p.1 = q.1 := key_eq (by rw [hP, hQ]; exact c0)
              have e2 : P = Q := by rw [← hP, ← hQ, e]
              subst e2
              simp only [cntR, a0, a1, cmp_b, c0, if_true, if_false, bump_swap hm]
            · by_cases c1 : 0 < cmpD P Q
              · simp only [cntR, a0, a1, b0, b1, cmp_b, if_true, if_false, c0, c1, show ¬ cmpD Q P = 0 by omega, show ¬ 0 < cmpD Q P by omega]
              · simp only [cntR, a0, a1, b0, b1, cmp_b, if_true, if_false, c0, c1, show ¬ cmpD Q P = 0 by omega, show 0 < cmpD Q P by omega]
          · have c := cmpD_trans (a := P) (b := y) (c := Q) (by omega) (by omega)
            simp only [cntR, a0, a1, b0, b1, cmp_b, if_true, if_false, show ¬ cmpD P Q = 0 by omega, show ¬ 0 < cmpD P Q by omega]
      · by_cases b0 : cmpD y Q = 0
        · simp only [cntR, a0, a1, b0, cmp_b, if_true, if_false]
        · by_cases b1 : 0 < cmpD y Q
          · have c := cmpD_trans (a := Q) (b := y) (c := P) (by omega) (by omega)
            simp only [cntR, a0, a1, b0, b1, cmp_b, if_true, if_false, show ¬ cmpD Q P = 0 by omega, show ¬ 0 < cmpD Q P by omega]
          · simp only [cntR, a0, a1, b0, b1, cmp_b, if_false, ih]

/-! ### batches -/

/-- The call that a span of a batch is. -/
def evK (b : List Sp) (s : Sp) : Option ((ByteArray × ByteArray) × Bool) := bif rightS s then (bif (callerS b s).2 then some (((callerS b s).1, s.svc), s.err) else none) else none
def evs (b c : List Sp) : List ((ByteArray × ByteArray) × Bool) := c.filterMap (evK b)

theorem sorted_foldK {m : Int} : ∀ (ks : List ((ByteArray × ByteArray) × Bool)) (l : List Ed), SortedE l → SortedE (ks.foldl (cntK m) l)
  | [], l, h => h
  | k :: ks, l, h => sorted_foldK ks _ (sorted_cntR h)

theorem foldE_eq (b : List Sp) (m : Int) : ∀ (c : List Sp) (l : List Ed), SortedE l → c.foldl (stepE b m) l = (evs b c).foldl (cntK m) l
  | [], l, _ => rfl
  | s :: c, l, h => by
    unfold evs
    rw [List.foldl_cons, List.filterMap_cons]
    unfold stepE evK
    cases h1 : rightS s with
    | false => simp only [cond_false]; exact foldE_eq b m c l h
    | true =>
      cases h2 : (callerS b s).2 with
      | false => simp only [cond_true, cond_false]; exact foldE_eq b m c l h
      | true =>
        simp only [cond_true, List.foldl_cons]
        rw [countE_eq h]
        exact foldE_eq b m c _ (sorted_cntR h)

theorem addE_eq {l : List Ed} (h : SortedE l) (b : List Sp) (m : Int) : addE l b m = (evs b b).foldl (cntK m) l := foldE_eq b m b l h
theorem sorted_addE {l : List Ed} (h : SortedE l) (b : List Sp) (m : Int) : SortedE (addE l b m) := by
  rw [addE_eq h]; exact sorted_foldK _ _ h
theorem sorted_nil : SortedE [] := List.Pairwise.nil

theorem foldK_perm {m : Int} (hm : inI m) {ks ks' : List ((ByteArray × ByteArray) × Bool)} (h : ks.Perm ks') (l : List Ed) : ks.foldl (cntK m) l = ks'.foldl (cntK m) l :=
  h.foldl_eq' (fun p _ q _ z => cnt_swap hm p q z) l

/-- EdgesAny's law. -/
theorem edges_any {m : Int} (hm : inI m) (a b c : List Sp) : addE (addE (addE [] c m) a m) b m = addE (addE (addE [] a m) b m) c m := by
  have s1 := sorted_addE sorted_nil a m
  have s2 := sorted_addE s1 b m
  have t1 := sorted_addE sorted_nil c m
  have t2 := sorted_addE t1 a m
  rw [addE_eq s2, addE_eq s1, addE_eq sorted_nil a, addE_eq t2, addE_eq t1, addE_eq sorted_nil c]
  rw [← List.foldl_append, ← List.foldl_append, ← List.foldl_append, ← List.foldl_append]
  refine foldK_perm hm ?_ []
  rw [← List.append_assoc (evs a a) (evs b b) (evs c c)]
  exact List.perm_append_comm

end Go.Proofs.Ytieffigehkjifaa

