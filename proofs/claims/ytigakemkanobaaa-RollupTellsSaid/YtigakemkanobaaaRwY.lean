/- rollup: rows that are behind go. -/
import Derived.Test.YtigakemkanobaaaRwX
namespace Go.Proofs.Ytigakemkanobaaa
open E
set_option maxRecDepth 100000
set_option linter.unusedVariables false
set_option linter.unusedSimpArgs false

def dlXS (sec : Int) (hz : Nat → Int) (R : List Rw) (i j : Nat) : SL := ⟨[(0, .own 0), (1, .clo (.func 36) [] [.ptr 1 0 0 0, .ptr 2 0 0 0]), (5, I (i : Int)), (6, I (j : Int))], [(0, .arr 14 (R.map Rw.row)), (1, .box [I sec]), (2, .box (h3 hz))], [0, 1, 2, 0, 1, 2]⟩
noncomputable def dlXB : Code := codeAt Try.prog 35 [true, true, true, false, true, false, false]

theorem dlXNo (sec : Int) (hz : Nat → Int) (R : List Rw) (x y : Rw) (i j : Nat) (h : j < R.length) (hx : R[j]? = some x) (hi : i ≤ j) (hy : R[i]? = some y) (hs : R.length ≤ 1000000000) (hp : (goneB sec hz) x = true) : CodeC Try.prog 3 42 dlXB (dlXS sec hz R i j) .normal (dlXS sec hz R i (j + 1)) :=
  runP hmix [.reg 5 [(3, [], some true)], .reg 7 [(3, [.row (Rw.row x)], none)], .reg 8 [(2, [.call [1, 2] [] (Bo ((goneB sec hz) x)) [some (.box [I sec]), some (.box (h3 hz))]], some true)], .reg 6 [(1, [.be (I ((j + 1 : Nat) : Int))], none)]] ⟨[0, 1, 5, 6], [(0, 0), (1, 1), (2, 2)], []⟩ [
      decide (Int.ofNat j < Int.ofNat (List.length (List.map Rw.row R))) = true,
      (0 : Int) ≤ Int.ofNat j,
      Int.ofNat j < Int.ofNat (List.length (List.map Rw.row R)),
      (List.map Rw.row R)[j]? = some (Rw.row x),
      Contract Try.prog (36 : Nat) [V.agg [I (Rw.lev x), I (Rw.win x), Sg (Rw.svc x), Sg (Rw.op x), I (Rw.c x (0 : Nat)), I (Rw.c x (1 : Nat)), I (Rw.c x (2 : Nat)), I (Rw.c x (3 : Nat)), I (Rw.c x (4 : Nat)), I (Rw.c x (5 : Nat)), I (Rw.c x (6 : Nat)), I (Rw.c x (7 : Nat)), I (Rw.c x (8 : Nat)), I (Rw.c x (9 : Nat))], V.ptr (0 : Nat) (0 : Nat) (0 : Nat) (0 : Nat), V.ptr (1 : Nat) (0 : Nat) (0 : Nat) (0 : Nat)] [Obj.box [I sec], Obj.box [I (hz (0 : Nat)), I (hz (1 : Nat)), I (hz (2 : Nat))]] (Bo (goneB sec hz x)) [some (Obj.box [I sec]), some (Obj.box [I (hz (0 : Nat)), I (hz (1 : Nat)), I (hz (2 : Nat))])],
      goneB sec hz x = true,
      IntKind.wrap IntKind.i64 (Int.ofNat (j + (1 : Nat))) = Int.ofNat (j + (1 : Nat))] (by kernel_rfl)
    (by
      simp only [allP]
      and_intros <;> first
        | omega
        | exact cGone x sec hz
        | (simp; omega)
        | (simp [hx]; done)
        | exact i64_small (by simp; omega))

theorem dlXYes (sec : Int) (hz : Nat → Int) (R : List Rw) (x y : Rw) (i j : Nat) (h : j < R.length) (hx : R[j]? = some x) (hi : i ≤ j) (hy : R[i]? = some y) (hs : R.length ≤ 1000000000) (hp : (goneB sec hz) x = false) : CodeC Try.prog 3 42 dlXB (dlXS sec hz R i j) .normal (dlXS sec hz (R.set i x) (i + 1) (j + 1)) :=
  runP hmix [.reg 5 [(3, [], some true)], .reg 7 [(3, [.row (Rw.row x)], none)], .reg 8 [(2, [.call [1, 2] [] (Bo ((goneB sec hz) x)) [some (.box [I sec]), some (.box (h3 hz))]], some false)], .reg 9 [(4, [.row (Rw.row y), .beO ((R.set i x).map Rw.row)], none)], .reg 10 [(1, [.be (I ((i + 1 : Nat) : Int))], none)], .reg 6 [(1, [.be (I ((j + 1 : Nat) : Int))], none)]] ⟨[0, 1, 5, 6], [(0, 0), (1, 1), (2, 2)], []⟩ [
      decide (Int.ofNat j < Int.ofNat (List.length (List.map Rw.row R))) = true,
      (0 : Int) ≤ Int.ofNat j,
      Int.ofNat j < Int.ofNat (List.length (List.map Rw.row R)),
      (List.map Rw.row R)[j]? = some (Rw.row x),
      Contract Try.prog (36 : Nat) [V.agg [I (Rw.lev x), I (Rw.win x), Sg (Rw.svc x), Sg (Rw.op x), I (Rw.c x (0 : Nat)), I (Rw.c x (1 : Nat)), I (Rw.c x (2 : Nat)), I (Rw.c x (3 : Nat)), I (Rw.c x (4 : Nat)), I (Rw.c x (5 : Nat)), I (Rw.c x (6 : Nat)), I (Rw.c x (7 : Nat)), I (Rw.c x (8 : Nat)), I (Rw.c x (9 : Nat))], V.ptr (0 : Nat) (0 : Nat) (0 : Nat) (0 : Nat), V.ptr (1 : Nat) (0 : Nat) (0 : Nat) (0 : Nat)] [Obj.box [I sec], Obj.box [I (hz (0 : Nat)), I (hz (1 : Nat)), I (hz (2 : Nat))]] (Bo (goneB sec hz x)) [some (Obj.box [I sec]), some (Obj.box [I (hz (0 : Nat)), I (hz (1 : Nat)), I (hz (2 : Nat))])],
      goneB sec hz x = false,
      (0 : Int) ≤ Int.ofNat i,
      Int.ofNat i < Int.ofNat (List.length (List.map Rw.row R)),
      (List.map Rw.row R)[i]? = some (Rw.row y),
      List.set (List.map Rw.row R) i [I (Rw.lev x), I (Rw.win x), Sg (Rw.svc x), Sg (Rw.op x), I (Rw.c x (0 : Nat)), I (Rw.c x (1 : Nat)), I (Rw.c x (2 : Nat)), I (Rw.c x (3 : Nat)), I (Rw.c x (4 : Nat)), I (Rw.c x (5 : Nat)), I (Rw.c x (6 : Nat)), I (Rw.c x (7 : Nat)), I (Rw.c x (8 : Nat)), I (Rw.c x (9 : Nat))] = List.map Rw.row (List.set R i x),
      IntKind.wrap IntKind.i64 (Int.ofNat (i + (1 : Nat))) = Int.ofNat (i + (1 : Nat)),
      IntKind.wrap IntKind.i64 (Int.ofNat (j + (1 : Nat))) = Int.ofNat (j + (1 : Nat))] (by kernel_rfl)
    (by
      simp only [allP]
      and_intros <;> first
        | omega
        | exact cGone x sec hz
        | (simp; omega)
        | (simp [hx]; done)
        | (simp [hy]; done)
        | exact i64_small (by simp; omega)
        | exact setRow Rw.row R i x)

theorem dlXEnd (sec : Int) (hz : Nat → Int) (R : List Rw) (i j : Nat) (h : R.length ≤ j) : CodeC Try.prog 3 42 dlXB (dlXS sec hz R i j) (.exit 0) (dlXS sec hz R i j) :=
  runP hmix [.reg 5 [(3, [], some false)]] ⟨[0, 1, 5, 6], [(0, 0), (1, 1), (2, 2)], []⟩ [
      decide (Int.ofNat j < Int.ofNat (List.length (List.map Rw.row R))) = false] (by kernel_rfl)
    (by
      simp only [allP]
      and_intros <;> first
        | (simp; omega))

theorem dlXLoop (sec : Int) (hz : Nat → Int) (l : List Rw) (hs : l.length ≤ 1000000000) : ∀ (n : Nat) (R : List Rw) (i j : Nat), j + n = l.length → R.length = l.length → i ≤ j → R.take i = (l.take j).filter (fun y => !(goneB sec hz) y) → R.drop j = l.drop j →
    ∃ R' i', LoopC Try.prog 3 42 dlXB (dlXS sec hz R i j) (.exit 0) (dlXS sec hz R' i' l.length) ∧ R'.length = l.length ∧ i' ≤ l.length ∧ R'.take i' = l.filter (fun y => !(goneB sec hz) y)
  | 0, R, i, j, hj, hR, hi, h1, h2 => by
    have : j = l.length := by omega
    subst this
    rw [List.take_length] at h1
    exact ⟨R, i, LoopC.last (dlXEnd sec hz R i _ (by omega)) (by simp), hR, hi, h1⟩
  | n + 1, R, i, j, hj, hR, hi, h1, h2 => by
    have hlt : j < l.length := by omega
    have hx : R[j]? = some l[j] := by
      have e : R[j]? = (R.drop j)[0]? := by simp
      rw [e, h2]; simp [hlt]
    have hy : R[i]? = some R[i] := List.getElem?_eq_getElem (by omega)
    have hd : R.drop (j + 1) = l.drop (j + 1) := by
      rw [← List.drop_drop, ← List.drop_drop, h2]
    have ht : (l.take (j + 1)).filter (fun y => !(goneB sec hz) y) = (l.take j).filter (fun y => !(goneB sec hz) y) ++ (if (goneB sec hz) l[j] then [] else [l[j]]) := by
      rw [List.take_add_one, List.filter_append]
      congr 1
      simp only [hlt, List.getElem?_eq_getElem, Option.toList_some, List.filter_cons, List.filter_nil]
      cases (goneB sec hz) l[j] <;> rfl
    cases hp : (goneB sec hz) l[j] with
    | true =>
      obtain ⟨R', i', k1, k2⟩ := dlXLoop sec hz l hs n R i (j + 1) (by omega) hR (by omega) (by rw [ht, hp, h1]; simp) hd
      exact ⟨R', i', LoopC.next (dlXNo sec hz R l[j] R[i] i j (by omega) hx hi hy (by omega) hp) k1, k2⟩
    | false =>
      obtain ⟨R', i', k1, k2⟩ := dlXLoop sec hz l hs n (R.set i l[j]) (i + 1) (j + 1) (by omega) (by simpa using hR) (by omega)
        (by rw [ht, hp, ← h1, List.take_add_one, List.take_set_of_le (Nat.le_refl _)]
            congr 1
            simp [show i < R.length by omega])
        (by rw [List.drop_set_of_lt (by omega)]; exact hd)
      exact ⟨R', i', LoopC.next (dlXYes sec hz R l[j] R[i] i j (by omega) hx hi hy (by omega) hp) k1, k2⟩

theorem dlXNone (sec : Int) (hz : Nat → Int) (l : List Rw) (hs : l.length ≤ 1000000000) (hf : idxI (goneB sec hz) l = -1) : Contract Try.prog 35 [.own 0, .clo (.func 36) [] [.ptr 1 0 0 0, .ptr 2 0 0 0]] [.arr 14 (l.map Rw.row), .box [I sec], .box (h3 hz)] (.own 3) [none, some (.box [I sec]), some (.box (h3 hz)), some (.arr 14 (l.map Rw.row))] :=
  vcP hmix [.reg 1 [(2, [.call [1, 2] [] (I (idxI (goneB sec hz) l)) [some (.box [I sec]), some (.box (h3 hz))], .be (I (-1))], none)], .reg 3 [(0, [.idx 0], none)]] [601000] [
      Contract Try.prog (42 : Nat) [V.sl (14 : Nat) (List.map Rw.row l), V.clo (Fn.func (36 : Nat)) [] [V.ptr (0 : Nat) (0 : Nat) (0 : Nat) (0 : Nat), V.ptr (1 : Nat) (0 : Nat) (0 : Nat) (0 : Nat)]] [Obj.box [I sec], Obj.box [I (hz (0 : Nat)), I (hz (1 : Nat)), I (hz (2 : Nat))]] (I (idxI (goneB sec hz) l)) [some (Obj.box [I sec]), some (Obj.box [I (hz (0 : Nat)), I (hz (1 : Nat)), I (hz (2 : Nat))])],
      true = true,
      true = true,
      true = true,
      idxI (goneB sec hz) l = (-1 : Int)] (by kernel_rfl)
    (by
      simp only [allP]
      and_intros <;> first
        | omega
        | exact ixX l sec hz (by omega)
        | (simp; done))

theorem dlXSome (sec : Int) (hz : Nat → Int) (l R K : List Rw) (m i : Nat) (hs : l.length ≤ 1000000000) (hm : m < l.length) (hf : idxI (goneB sec hz) l = (m : Int)) (hl : LoopC Try.prog 3 42 dlXB (dlXS sec hz l m (m + 1)) (.exit 0) (dlXS sec hz R i l.length)) (hR : R.length = l.length) (hi : i ≤ l.length) (hK : R.take i = K) : Contract Try.prog 35 [.own 0, .clo (.func 36) [] [.ptr 1 0 0 0, .ptr 2 0 0 0]] [.arr 14 (l.map Rw.row), .box [I sec], .box (h3 hz)] (.own 3) [none, some (.box [I sec]), some (.box (h3 hz)), some (.arr 14 (K.map Rw.row))] :=
  vcP hmix [.reg 1 [(2, [.call [1, 2] [] (I (idxI (goneB sec hz) l)) [some (.box [I sec]), some (.box (h3 hz))], .be (I (m : Int))], none)], .reg 4 [(1, [.be (I ((m + 1 : Nat) : Int))], none)], .cut ⟨[0, 1, 5, 6], [(0, 0), (1, 1), (2, 2)], []⟩ (.exit 0) (dlXS sec hz R i l.length), .reg 11 [(2, [.idx 0], none), (3, [.beO ((R.take i).map Rw.row ++ List.replicate (l.length - i) ([I 0, I 0, Sg ByteArray.empty, Sg ByteArray.empty, I 0, I 0, I 0, I 0, I 0, I 0, I 0, I 0, I 0, I 0] : List V))], none)], .reg 12 [(2, [.idx 0], none), (3, [.idx 0, .beO (K.map Rw.row)], none)]] [2404000] [
      Contract Try.prog (42 : Nat) [V.sl (14 : Nat) (List.map Rw.row l), V.clo (Fn.func (36 : Nat)) [] [V.ptr (0 : Nat) (0 : Nat) (0 : Nat) (0 : Nat), V.ptr (1 : Nat) (0 : Nat) (0 : Nat) (0 : Nat)]] [Obj.box [I sec], Obj.box [I (hz (0 : Nat)), I (hz (1 : Nat)), I (hz (2 : Nat))]] (I (idxI (goneB sec hz) l)) [some (Obj.box [I sec]), some (Obj.box [I (hz (0 : Nat)), I (hz (1 : Nat)), I (hz (2 : Nat))])],
      true = true,
      true = true,
      true = true,
      idxI (goneB sec hz) l = Int.ofNat m,
      IntKind.wrap IntKind.i64 (Int.ofNat (m + (1 : Nat))) = Int.ofNat (m + (1 : Nat)),
      LoopC Try.prog (3 : Nat) (42 : Nat) dlXB { env := [((0 : Nat), V.own (0 : Nat)), ((1 : Nat), V.clo (Fn.func (36 : Nat)) [] [V.ptr (1 : Nat) (0 : Nat) (0 : Nat) (0 : Nat), V.ptr (2 : Nat) (0 : Nat) (0 : Nat) (0 : Nat)]), ((5 : Nat), I (Int.ofNat m)), ((6 : Nat), I (Int.ofNat (m + (1 : Nat))))], st := [((0 : Nat), Obj.arr (14 : Nat) (List.map Rw.row l)), ((1 : Nat), Obj.box [I sec]), ((2 : Nat), Obj.box [I (hz (0 : Nat)), I (hz (1 : Nat)), I (hz (2 : Nat))])], ids := [(0 : Nat), (1 : Nat), (2 : Nat), (0 : Nat), (1 : Nat), (2 : Nat)] } (Ex.exit (0 : Nat)) { env := [((0 : Nat), V.own (0 : Nat)), ((1 : Nat), V.clo (Fn.func (36 : Nat)) [] [V.ptr (1 : Nat) (0 : Nat) (0 : Nat) (0 : Nat), V.ptr (2 : Nat) (0 : Nat) (0 : Nat) (0 : Nat)]), ((5 : Nat), I (Int.ofNat i)), ((6 : Nat), I (Int.ofNat (List.length l)))], st := [((0 : Nat), Obj.arr (14 : Nat) (List.map Rw.row R)), ((1 : Nat), Obj.box [I sec]), ((2 : Nat), Obj.box [I (hz (0 : Nat)), I (hz (1 : Nat)), I (hz (2 : Nat))])], ids := [(0 : Nat), (1 : Nat), (2 : Nat), (0 : Nat), (1 : Nat), (2 : Nat)] },
      (0 : Int) ≤ Int.ofNat i,
      Int.ofNat i ≤ Int.ofNat (List.length (List.map Rw.row R)),
      List.length (List.map Rw.row R) ≤ List.length (List.map Rw.row R),
      i ≤ List.length (List.map Rw.row R),
      List.length (List.map Rw.row R) ≤ List.length (List.map Rw.row R),
      over (List.map Rw.row R) i (List.replicate (List.length (List.map Rw.row R) - i) [I (0 : Int), I (0 : Int), Sg { data := { toList := [] } }, Sg { data := { toList := [] } }, I (0 : Int), I (0 : Int), I (0 : Int), I (0 : Int), I (0 : Int), I (0 : Int), I (0 : Int), I (0 : Int), I (0 : Int), I (0 : Int)]) = List.map Rw.row (List.take i R) ++ List.replicate (List.length l - i) [I (0 : Int), I (0 : Int), Sg { data := { toList := [] } }, Sg { data := { toList := [] } }, I (0 : Int), I (0 : Int), I (0 : Int), I (0 : Int), I (0 : Int), I (0 : Int), I (0 : Int), I (0 : Int), I (0 : Int), I (0 : Int)],
      (0 : Int) ≤ (0 : Int),
      (0 : Int) ≤ Int.ofNat i,
      i ≤ List.length (List.map Rw.row (List.take i R) ++ List.replicate (List.length l - i) [I (0 : Int), I (0 : Int), Sg { data := { toList := [] } }, Sg { data := { toList := [] } }, I (0 : Int), I (0 : Int), I (0 : Int), I (0 : Int), I (0 : Int), I (0 : Int), I (0 : Int), I (0 : Int), I (0 : Int), I (0 : Int)]),
      i ≤ List.length (List.map Rw.row (List.take i R) ++ List.replicate (List.length l - i) [I (0 : Int), I (0 : Int), Sg { data := { toList := [] } }, Sg { data := { toList := [] } }, I (0 : Int), I (0 : Int), I (0 : Int), I (0 : Int), I (0 : Int), I (0 : Int), I (0 : Int), I (0 : Int), I (0 : Int), I (0 : Int)]),
      List.take i (List.map Rw.row (List.take i R) ++ List.replicate (List.length l - i) [I (0 : Int), I (0 : Int), Sg { data := { toList := [] } }, Sg { data := { toList := [] } }, I (0 : Int), I (0 : Int), I (0 : Int), I (0 : Int), I (0 : Int), I (0 : Int), I (0 : Int), I (0 : Int), I (0 : Int), I (0 : Int)]) = List.map Rw.row K] (by kernel_rfl)
    (by
      simp only [allP]
      and_intros <;> first
        | omega
        | exact ixX l sec hz (by omega)
        | exact hl
        | (simp; omega)
        | exact i64_small (by simp; omega)
        | exact clear1 hR hi (by simp) (by simp; omega)
        | exact clear2 hR hi hK (by simp)
        | (simp; done))

theorem dlX (sec : Int) (hz : Nat → Int) (l : List Rw) (hs : l.length ≤ 1000000000) : Contract Try.prog 35 [.own 0, .clo (.func 36) [] [.ptr 1 0 0 0, .ptr 2 0 0 0]] [.arr 14 (l.map Rw.row), .box [I sec], .box (h3 hz)] (.own 3) [none, some (.box [I sec]), some (.box (h3 hz)), some (.arr 14 ((l.filter (fun y => !(goneB sec hz) y)).map Rw.row))] := by
  cases hf : l.findIdx? (goneB sec hz) with
  | none =>
    have hi : idxI (goneB sec hz) l = -1 := by unfold idxI; rw [hf]
    have : l.filter (fun y => !(goneB sec hz) y) = l := by
      rw [List.filter_eq_self]
      intro y hy
      rw [List.findIdx?_eq_none_iff] at hf
      simp [hf y hy]
    rw [this]
    exact dlXNone sec hz l hs hi
  | some m =>
    have hi : idxI (goneB sec hz) l = (m : Int) := by unfold idxI; rw [hf]
    obtain ⟨hm, hpm, hlt⟩ := List.findIdx?_eq_some_iff_getElem.1 hf
    obtain ⟨R, i, k1, k2, k3, k4⟩ := dlXLoop sec hz l hs (l.length - (m + 1)) l m (m + 1) (by omega) rfl (by omega)
      (by rw [List.take_add_one, List.filter_append]
          have h1 : (l.take m).filter (fun y => !(goneB sec hz) y) = l.take m := by
            rw [List.filter_eq_self]
            intro y hy
            obtain ⟨q, hq, rfl⟩ := List.mem_take_iff_getElem.1 hy
            have := hlt q (by omega)
            simp [Bool.eq_false_iff.2 this]
          rw [h1]
          simp [hm, hpm]) rfl
    exact dlXSome sec hz l R _ m i hs hm hi k1 k2 k3 k4

theorem cExpire_0 (l : List Rw) (sec : Int) (hz : Nat → Int) (hs : l.length ≤ 1000000) : Contract Try.prog 21 [.sl 14 (l.map Rw.row), I sec, .agg (h3 hz)] [] (V.own (0 : Nat)) ([some (Obj.arr (14 : Nat) (List.map Rw.row (List.filter (fun y0 => !goneB sec hz y0) l)))]) :=
  vcP hmix [.reg 1 [(1, [.call [] [] (.own 0) [some (.arr 14 (l.map Rw.row))]], none), (3, [.call [202001, 1000, 2000] [] (.own 3) [none, some (.box [I sec]), some (.box (h3 hz)), some (.arr 14 ((l.filter (fun y => !goneB sec hz y)).map Rw.row))]], none)]] [204001] [
      Contract Try.prog (30 : Nat) [V.sl (14 : Nat) (List.map Rw.row l)] [] (V.own (0 : Nat)) [some (Obj.arr (14 : Nat) (List.map Rw.row l))],
      Contract Try.prog (35 : Nat) [V.own (0 : Nat), V.clo (Fn.func (36 : Nat)) [] [V.ptr (1 : Nat) (0 : Nat) (0 : Nat) (0 : Nat), V.ptr (2 : Nat) (0 : Nat) (0 : Nat) (0 : Nat)]] [Obj.arr (14 : Nat) (List.map Rw.row l), Obj.box [I sec], Obj.box [I (hz (0 : Nat)), I (hz (1 : Nat)), I (hz (2 : Nat))]] (V.own (3 : Nat)) [none, some (Obj.box [I sec]), some (Obj.box [I (hz (0 : Nat)), I (hz (1 : Nat)), I (hz (2 : Nat))]), some (Obj.arr (14 : Nat) (List.map Rw.row (List.filter (fun y0 => !goneB sec hz y0) l)))]] (by kernel_rfl)
    (by
      simp only [allP]
      and_intros <;> first
        | exact cln _ (by simp; omega)
        | exact dlX sec hz l (by omega))

theorem cExpire (l : List Rw) (sec : Int) (hz : Nat → Int) (hs : l.length ≤ 1000000) : Contract Try.prog 21 [.sl 14 (l.map Rw.row), I sec, .agg (h3 hz)] [] (.own 0) [some (.arr 14 ((l.filter (fun y => !goneB sec hz y)).map Rw.row))] := by
  exact Contract.cast (by
    first
      | rfl) (by
    first
      | rfl) (cExpire_0 l sec hz hs )

end Go.Proofs.Ytigakemkanobaaa
