/- slots: exemplars of a block that go, or are moved. -/
import Derived.Test.YtemjhlmdiicdcaaSlD
namespace Go.Proofs.Ytemjhlmdiicdcaa
open E
set_option maxRecDepth 100000
set_option linter.unusedVariables false
set_option linter.unusedSimpArgs false


def movE (a b : Int) (e : Em) : Em := bif e.block == a then Em.mk e.svc e.op e.hi e.lo e.id b else e
def mvS (a b : Int) (R : List Em) (i : Nat) : SL := ⟨[(0, .own 900), (1, I a), (2, I b), (10, .own 900), (11, I (R.length : Int)), (12, I (i : Int))], [(900, .arr 6 (R.map Em.row))], [900]⟩
def drS (l : List Em) (b : Int) (out : List Em) (i : Nat) : SL := ⟨[(0, .sl 6 (l.map Em.row)), (1, I b), (5, .own 901), (6, I (i : Int))], [(901, .arr 6 (out.map Em.row))], [901]⟩
def mrS (l : List Em) (a b : Int) (out : List Em) (i : Nat) : SL := ⟨[(0, .sl 6 (l.map Em.row)), (1, I a), (2, I b), (7, .own 901), (8, I (i : Int))], [(901, .arr 6 (out.map Em.row))], [901]⟩
noncomputable def mvB : Code := codeAt Try.prog 12 [true, true, false, true, false, false]

noncomputable def drB : Code := codeAt Try.prog 11 [true, true, false, true, false, false]

noncomputable def mrB : Code := codeAt Try.prog 13 [true, true, false, true, false, false]

def dlfS (b : Int) (R : List Em) (i j : Nat) : SL := ⟨[(0, .own 0), (1, .clo (.func 20) [] [.ptr 1 0 0 0]), (5, I (i : Int)), (6, I (j : Int))], [(0, .arr 6 (R.map Em.row)), (1, .box [I b])], [0, 1, 0, 1]⟩
noncomputable def dlfB : Code := codeAt Try.prog 19 [true, true, true, false, true, false, false]

theorem dlfNo (b : Int) (R : List Em) (x y : Em) (i j : Nat) (h : j < R.length) (hx : R[j]? = some x) (hi : i ≤ j) (hy : R[i]? = some y) (hs : R.length ≤ 1000000000) (hp : (pDrop b) x = true) : CodeC Try.prog 2 42 dlfB (dlfS b R i j) .normal (dlfS b R i (j + 1)) :=
  runP hmix [.reg 5 [(3, [], some true)], .reg 7 [(3, [.row (Em.row x)], none)], .reg 8 [(2, [.call [1] [] (Bo ((pDrop b) x)) [some (.box [I b])]], some true)], .reg 6 [(1, [.be (I ((j + 1 : Nat) : Int))], none)]] ⟨[0, 1, 5, 6], [(0, 0), (1, 1)], []⟩ [
      decide (Int.ofNat j < Int.ofNat (List.length (List.map Em.row R))) = true,
      (0 : Int) ≤ Int.ofNat j,
      Int.ofNat j < Int.ofNat (List.length (List.map Em.row R)),
      (List.map Em.row R)[j]? = some (Em.row x),
      Contract Try.prog (20 : Nat) [V.agg [Sg (Em.svc x), Sg (Em.op x), V.val (Value.int IntKind.u64 (Em.hi x)), V.val (Value.int IntKind.u64 (Em.lo x)), V.val (Value.int IntKind.u64 (Em.id x)), I (Em.block x)], V.ptr (0 : Nat) (0 : Nat) (0 : Nat) (0 : Nat)] [Obj.box [I b]] (Bo (pDrop b x)) [some (Obj.box [I b])],
      pDrop b x = true,
      IntKind.wrap IntKind.i64 (Int.ofNat (j + (1 : Nat))) = Int.ofNat (j + (1 : Nat))] (by kernel_rfl)
    (by
      simp only [allP]
      and_intros <;> first
        | omega
        | with_reducible assumption
        | exact cDrop1 x b
        | (simp; omega)
        | (simp [hx]; done)
        | (simp [hy]; done)
        | exact i64_small (by simp; omega)
        | exact setRow Em.row R i x
        | (simp; done)
        | decide)

theorem dlfYes (b : Int) (R : List Em) (x y : Em) (i j : Nat) (h : j < R.length) (hx : R[j]? = some x) (hi : i ≤ j) (hy : R[i]? = some y) (hs : R.length ≤ 1000000000) (hp : (pDrop b) x = false) : CodeC Try.prog 2 42 dlfB (dlfS b R i j) .normal (dlfS b (R.set i x) (i + 1) (j + 1)) :=
  runP hmix [.reg 5 [(3, [], some true)], .reg 7 [(3, [.row (Em.row x)], none)], .reg 8 [(2, [.call [1] [] (Bo ((pDrop b) x)) [some (.box [I b])]], some false)], .reg 9 [(4, [.row (Em.row y), .beO ((R.set i x).map Em.row)], none)], .reg 10 [(1, [.be (I ((i + 1 : Nat) : Int))], none)], .reg 6 [(1, [.be (I ((j + 1 : Nat) : Int))], none)]] ⟨[0, 1, 5, 6], [(0, 0), (1, 1)], []⟩ [
      decide (Int.ofNat j < Int.ofNat (List.length (List.map Em.row R))) = true,
      (0 : Int) ≤ Int.ofNat j,
      Int.ofNat j < Int.ofNat (List.length (List.map Em.row R)),
      (List.map Em.row R)[j]? = some (Em.row x),
      Contract Try.prog (20 : Nat) [V.agg [Sg (Em.svc x), Sg (Em.op x), V.val (Value.int IntKind.u64 (Em.hi x)), V.val (Value.int IntKind.u64 (Em.lo x)), V.val (Value.int IntKind.u64 (Em.id x)), I (Em.block x)], V.ptr (0 : Nat) (0 : Nat) (0 : Nat) (0 : Nat)] [Obj.box [I b]] (Bo (pDrop b x)) [some (Obj.box [I b])],
      pDrop b x = false,
      (0 : Int) ≤ Int.ofNat i,
      Int.ofNat i < Int.ofNat (List.length (List.map Em.row R)),
      (List.map Em.row R)[i]? = some (Em.row y),
      List.set (List.map Em.row R) i [Sg (Em.svc x), Sg (Em.op x), V.val (Value.int IntKind.u64 (Em.hi x)), V.val (Value.int IntKind.u64 (Em.lo x)), V.val (Value.int IntKind.u64 (Em.id x)), I (Em.block x)] = List.map Em.row (List.set R i x),
      IntKind.wrap IntKind.i64 (Int.ofNat (i + (1 : Nat))) = Int.ofNat (i + (1 : Nat)),
      IntKind.wrap IntKind.i64 (Int.ofNat (j + (1 : Nat))) = Int.ofNat (j + (1 : Nat))] (by kernel_rfl)
    (by
      simp only [allP]
      and_intros <;> first
        | omega
        | with_reducible assumption
        | exact cDrop1 x b
        | (simp; omega)
        | (simp [hx]; done)
        | (simp [hy]; done)
        | exact i64_small (by simp; omega)
        | exact setRow Em.row R i x
        | (simp; done)
        | decide)

theorem dlfEnd (b : Int) (R : List Em) (i j : Nat) (h : R.length ≤ j) : CodeC Try.prog 2 42 dlfB (dlfS b R i j) (.exit 0) (dlfS b R i j) :=
  runP hmix [.reg 5 [(3, [], some false)]] ⟨[0, 1, 5, 6], [(0, 0), (1, 1)], []⟩ [
      decide (Int.ofNat j < Int.ofNat (List.length (List.map Em.row R))) = false] (by kernel_rfl)
    (by
      simp only [allP]
      and_intros <;> first
        | omega
        | with_reducible assumption
        | (simp; omega)
        | (simp; done)
        | decide)

theorem dlfLoop (b : Int) (l : List Em) (hs : l.length ≤ 1000000000) : ∀ (n : Nat) (R : List Em) (i j : Nat), j + n = l.length → R.length = l.length → i ≤ j → R.take i = (l.take j).filter (fun y => !(pDrop b) y) → R.drop j = l.drop j →
    ∃ R' i', LoopC Try.prog 2 42 dlfB (dlfS b R i j) (.exit 0) (dlfS b R' i' l.length) ∧ R'.length = l.length ∧ i' ≤ l.length ∧ R'.take i' = l.filter (fun y => !(pDrop b) y)
  | 0, R, i, j, hj, hR, hi, h1, h2 => by
    have : j = l.length := by omega
    subst this
    rw [List.take_length] at h1
    exact ⟨R, i, LoopC.last (dlfEnd b R i _ (by omega)) (by simp), hR, hi, h1⟩
  | n + 1, R, i, j, hj, hR, hi, h1, h2 => by
    have hlt : j < l.length := by omega
    have hx : R[j]? = some l[j] := by
      have e : R[j]? = (R.drop j)[0]? := by simp
      rw [e, h2]; simp [hlt]
    have hy : R[i]? = some R[i] := List.getElem?_eq_getElem (by omega)
    have hd : R.drop (j + 1) = l.drop (j + 1) := by
      rw [← List.drop_drop, ← List.drop_drop, h2]
    have ht : (l.take (j + 1)).filter (fun y => !(pDrop b) y) = (l.take j).filter (fun y => !(pDrop b) y) ++ (if (pDrop b) l[j] then [] else [l[j]]) := by
      rw [List.take_add_one, List.filter_append]
      congr 1
      simp only [hlt, List.getElem?_eq_getElem, Option.toList_some, List.filter_cons, List.filter_nil]
      cases (pDrop b) l[j] <;> rfl
    cases hp : (pDrop b) l[j] with
    | true =>
      obtain ⟨R', i', k1, k2⟩ := dlfLoop b l hs n R i (j + 1) (by omega) hR (by omega) (by rw [ht, hp, h1]; simp) hd
      exact ⟨R', i', LoopC.next (dlfNo b R l[j] R[i] i j (by omega) hx hi hy (by omega) hp) k1, k2⟩
    | false =>
      obtain ⟨R', i', k1, k2⟩ := dlfLoop b l hs n (R.set i l[j]) (i + 1) (j + 1) (by omega) (by simpa using hR) (by omega)
        (by rw [ht, hp, ← h1, List.take_add_one, List.take_set_of_le (Nat.le_refl _)]
            congr 1
            simp [show i < R.length by omega])
        (by rw [List.drop_set_of_lt (by omega)]; exact hd)
      exact ⟨R', i', LoopC.next (dlfYes b R l[j] R[i] i j (by omega) hx hi hy (by omega) hp) k1, k2⟩

theorem dlfNone (b : Int) (l : List Em) (hs : l.length ≤ 1000000000) (hf : idxI (pDrop b) l = -1) : Contract Try.prog 19 [.own 0, .clo (.func 20) [] [.ptr 1 0 0 0]] [.arr 6 (l.map Em.row), .box [I b]] (.own 2) [none, some (.box [I b]), some (.arr 6 (l.map Em.row))] :=
  vcP hmix [.reg 1 [(2, [.call [1] [] (I (idxI (pDrop b) l)) [some (.box [I b])], .be (I (-1))], none)], .reg 3 [(0, [.idx 0], none)]] [601000] [
      Contract Try.prog (21 : Nat) [V.sl (6 : Nat) (List.map Em.row l), V.clo (Fn.func (20 : Nat)) [] [V.ptr (0 : Nat) (0 : Nat) (0 : Nat) (0 : Nat)]] [Obj.box [I b]] (I (idxI (pDrop b) l)) [some (Obj.box [I b])],
      true = true,
      true = true,
      idxI (pDrop b) l = (-1 : Int)] (by kernel_rfl)
    (by
      simp only [allP]
      and_intros <;> first
        | omega
        | with_reducible assumption
        | exact ixD l b (by omega)
        | (simp; omega)
        | exact i64_small (by simp; omega)
        | exact flatRow _
        | (simp; done)
        | decide)

theorem dlfSome (b : Int) (l R K : List Em) (m i : Nat) (hs : l.length ≤ 1000000000) (hm : m < l.length) (hf : idxI (pDrop b) l = (m : Int)) (hl : LoopC Try.prog 2 42 dlfB (dlfS b l m (m + 1)) (.exit 0) (dlfS b R i l.length)) (hR : R.length = l.length) (hi : i ≤ l.length) (hK : R.take i = K) : Contract Try.prog 19 [.own 0, .clo (.func 20) [] [.ptr 1 0 0 0]] [.arr 6 (l.map Em.row), .box [I b]] (.own 2) [none, some (.box [I b]), some (.arr 6 (K.map Em.row))] :=
  vcP hmix [.reg 1 [(2, [.call [1] [] (I (idxI (pDrop b) l)) [some (.box [I b])], .be (I (m : Int))], none)], .reg 4 [(1, [.be (I ((m + 1 : Nat) : Int))], none)], .cut ⟨[0, 1, 5, 6], [(0, 0), (1, 1)], []⟩ (.exit 0) (dlfS b R i l.length), .reg 11 [(2, [.idx 0], none), (3, [.beO ((R.take i).map Em.row ++ List.replicate (l.length - i) [Sg ByteArray.empty, Sg ByteArray.empty, V.val (Value.int IntKind.u64 0), V.val (Value.int IntKind.u64 0), V.val (Value.int IntKind.u64 0), I 0])], none)], .reg 12 [(2, [.idx 0], none), (3, [.idx 0, .beO (K.map Em.row)], none)]] [2404000] [
      Contract Try.prog (21 : Nat) [V.sl (6 : Nat) (List.map Em.row l), V.clo (Fn.func (20 : Nat)) [] [V.ptr (0 : Nat) (0 : Nat) (0 : Nat) (0 : Nat)]] [Obj.box [I b]] (I (idxI (pDrop b) l)) [some (Obj.box [I b])],
      true = true,
      true = true,
      idxI (pDrop b) l = Int.ofNat m,
      IntKind.wrap IntKind.i64 (Int.ofNat (m + (1 : Nat))) = Int.ofNat (m + (1 : Nat)),
      LoopC Try.prog (2 : Nat) (42 : Nat) dlfB { env := [((0 : Nat), V.own (0 : Nat)), ((1 : Nat), V.clo (Fn.func (20 : Nat)) [] [V.ptr (1 : Nat) (0 : Nat) (0 : Nat) (0 : Nat)]), ((5 : Nat), I (Int.ofNat m)), ((6 : Nat), I (Int.ofNat (m + (1 : Nat))))], st := [((0 : Nat), Obj.arr (6 : Nat) (List.map Em.row l)), ((1 : Nat), Obj.box [I b])], ids := [(0 : Nat), (1 : Nat), (0 : Nat), (1 : Nat)] } (Ex.exit (0 : Nat)) { env := [((0 : Nat), V.own (0 : Nat)), ((1 : Nat), V.clo (Fn.func (20 : Nat)) [] [V.ptr (1 : Nat) (0 : Nat) (0 : Nat) (0 : Nat)]), ((5 : Nat), I (Int.ofNat i)), ((6 : Nat), I (Int.ofNat (List.length l)))], st := [((0 : Nat), Obj.arr (6 : Nat) (List.map Em.row R)), ((1 : Nat), Obj.box [I b])], ids := [(0 : Nat), (1 : Nat), (0 : Nat), (1 : Nat)] },
      (0 : Int) ≤ Int.ofNat i,
      Int.ofNat i ≤ Int.ofNat (List.length (List.map Em.row R)),
      List.length (List.map Em.row R) ≤ List.length (List.map Em.row R),
      i ≤ List.length (List.map Em.row R),
      List.length (List.map Em.row R) ≤ List.length (List.map Em.row R),
      over (List.map Em.row R) i (List.replicate (List.length (List.map Em.row R) - i) [Sg { data := { toList := [] } }, Sg { data := { toList := [] } }, V.val (Value.int IntKind.u64 (0 : Int)), V.val (Value.int IntKind.u64 (0 : Int)), V.val (Value.int IntKind.u64 (0 : Int)), I (0 : Int)]) = List.map Em.row (List.take i R) ++ List.replicate (List.length l - i) [Sg { data := { toList := [] } }, Sg { data := { toList := [] } }, V.val (Value.int IntKind.u64 (0 : Int)), V.val (Value.int IntKind.u64 (0 : Int)), V.val (Value.int IntKind.u64 (0 : Int)), I (0 : Int)],
      (0 : Int) ≤ (0 : Int),
      (0 : Int) ≤ Int.ofNat i,
      i ≤ List.length (List.map Em.row (List.take i R) ++ List.replicate (List.length l - i) [Sg { data := { toList := [] } }, Sg { data := { toList := [] } }, V.val (Value.int IntKind.u64 (0 : Int)), V.val (Value.int IntKind.u64 (0 : Int)), V.val (Value.int IntKind.u64 (0 : Int)), I (0 : Int)]),
      i ≤ List.length (List.map Em.row (List.take i R) ++ List.replicate (List.length l - i) [Sg { data := { toList := [] } }, Sg { data := { toList := [] } }, V.val (Value.int IntKind.u64 (0 : Int)), V.val (Value.int IntKind.u64 (0 : Int)), V.val (Value.int IntKind.u64 (0 : Int)), I (0 : Int)]),
      List.take i (List.map Em.row (List.take i R) ++ List.replicate (List.length l - i) [Sg { data := { toList := [] } }, Sg { data := { toList := [] } }, V.val (Value.int IntKind.u64 (0 : Int)), V.val (Value.int IntKind.u64 (0 : Int)), V.val (Value.int IntKind.u64 (0 : Int)), I (0 : Int)]) = List.map Em.row K] (by kernel_rfl)
    (by
      simp only [allP]
      and_intros <;> first
        | omega
        | with_reducible assumption
        | exact ixD l b (by omega)
        | exact hl
        | (simp; omega)
        | exact i64_small (by simp; omega)
        | exact flatRow _
        | (exact hK; done)
        | exact clear1 hR hi (by simp) (by simp; omega)
        | exact clear2 hR hi hK (by simp)
        | (simp; done)
        | decide)

theorem dlf (b : Int) (l : List Em) (hs : l.length ≤ 1000000000) : Contract Try.prog 19 [.own 0, .clo (.func 20) [] [.ptr 1 0 0 0]] [.arr 6 (l.map Em.row), .box [I b]] (.own 2) [none, some (.box [I b]), some (.arr 6 ((l.filter (fun y => !(pDrop b) y)).map Em.row))] := by
  cases hf : l.findIdx? (pDrop b) with
  | none =>
    have hi : idxI (pDrop b) l = -1 := by unfold idxI; rw [hf]
    have : l.filter (fun y => !(pDrop b) y) = l := by
      rw [List.filter_eq_self]
      intro y hy
      rw [List.findIdx?_eq_none_iff] at hf
      simp [hf y hy]
    rw [this]
    exact dlfNone b l hs hi
  | some m =>
    have hi : idxI (pDrop b) l = (m : Int) := by unfold idxI; rw [hf]
    obtain ⟨hm, hpm, hlt⟩ := List.findIdx?_eq_some_iff_getElem.1 hf
    obtain ⟨R, i, k1, k2, k3, k4⟩ := dlfLoop b l hs (l.length - (m + 1)) l m (m + 1) (by omega) rfl (by omega)
      (by rw [List.take_add_one, List.filter_append]
          have h1 : (l.take m).filter (fun y => !(pDrop b) y) = l.take m := by
            rw [List.filter_eq_self]
            intro y hy
            obtain ⟨q, hq, rfl⟩ := List.mem_take_iff_getElem.1 hy
            have := hlt q (by omega)
            simp [Bool.eq_false_iff.2 this]
          rw [h1]
          simp [hm, hpm]) rfl
    exact dlfSome b l R _ m i hs hm hi k1 k2 k3 k4

theorem cDrop (l : List Em) (b : Int) (hb : l.length ≤ 1000000000) : Contract Try.prog 10 [.sl 6 (l.map Em.row), I b] [] (.own 0) [some (.arr 6 ((l.filter (fun y => !pDrop b y)).map Em.row))] :=
  vcP hmix [.reg 1 [(1, [.call [] [] (.own 0) [some (.arr 6 (l.map Em.row))]], none), (3, [.call [202001, 1000] [] (.own 2) [none, some (.box [I b]), some (.arr 6 ((l.filter (fun y => !pDrop b y)).map Em.row))]], none)]] [204001] [
      Contract Try.prog (16 : Nat) [V.sl (6 : Nat) (List.map Em.row l)] [] (V.own (0 : Nat)) [some (Obj.arr (6 : Nat) (List.map Em.row l))],
      Contract Try.prog (19 : Nat) [V.own (0 : Nat), V.clo (Fn.func (20 : Nat)) [] [V.ptr (1 : Nat) (0 : Nat) (0 : Nat) (0 : Nat)]] [Obj.arr (6 : Nat) (List.map Em.row l), Obj.box [I b]] (V.own (2 : Nat)) [none, some (Obj.box [I b]), some (Obj.arr (6 : Nat) (List.map Em.row (List.filter (fun y0 => !pDrop b y0) l)))]] (by kernel_rfl)
    (by
      simp only [allP]
      and_intros <;> first
        | omega
        | with_reducible assumption
        | exact cln _ (by rw [List.length_map]; omega)
        | exact dlf b l hb
        | (simp; done)
        | decide)

theorem mvS_set (a b : Int) (R : List Em) (i j : Nat) (x : Em) : mvS a b (R.set i x) j = ⟨[(0, .own 900), (1, I a), (2, I b), (10, .own 900), (11, I (R.length : Int)), (12, I (j : Int))], [(900, .arr 6 ((R.set i x).map Em.row))], [900]⟩ := by unfold mvS; rw [List.length_set]

theorem mvHit (a b : Int) (R : List Em) (x : Em) (i : Nat) (h : i < R.length) (hx : R[i]? = some x) (hs : R.length ≤ 1000000000) (hp : (x.block == a) = true) : CodeC Try.prog 0 29 mvB (mvS a b R i) .normal (⟨[(0, .own 900), (1, I a), (2, I b), (10, .own 900), (11, I (R.length : Int)), (12, I ((i + 1 : Nat) : Int))], [(900, .arr 6 ((R.set i (Em.mk x.svc x.op x.hi x.lo x.id b)).map Em.row))], [900]⟩) :=
  runP hmix [.reg 3 [(0, [], some true)], .reg 5 [(4, [.row (Em.row x)], none), (6, [], some true)], .reg 6 [(5, [.row (Em.row x), .beO ((R.set i (Em.mk x.svc x.op x.hi x.lo x.id b)).map Em.row)], none)], .reg 7 [(0, [.be (I ((i + 1 : Nat) : Int))], none)]] ⟨[0, 1, 2, 10, 11, 12], [(900, 900)], []⟩ [
      decide (Int.ofNat i < Int.ofNat (List.length R)) = true,
      (0 : Int) ≤ Int.ofNat i,
      Int.ofNat i < Int.ofNat (List.length (List.map Em.row R)),
      (List.map Em.row R)[i]? = some (Em.row x),
      (Em.block x == a) = true,
      (0 : Int) ≤ Int.ofNat i,
      Int.ofNat i < Int.ofNat (List.length (List.map Em.row R)),
      (List.map Em.row R)[i]? = some (Em.row x),
      List.set (List.map Em.row R) i [Sg (Em.svc x), Sg (Em.op x), V.val (Value.int IntKind.u64 (Em.hi x)), V.val (Value.int IntKind.u64 (Em.lo x)), V.val (Value.int IntKind.u64 (Em.id x)), I b] = List.map Em.row (List.set R i { svc := Em.svc x, op := Em.op x, hi := Em.hi x, lo := Em.lo x, id := Em.id x, block := b }),
      IntKind.wrap IntKind.i64 (Int.ofNat (i + (1 : Nat))) = Int.ofNat (i + (1 : Nat))] (by kernel_rfl)
    (by
      simp only [allP]
      and_intros <;> first
        | omega
        | with_reducible assumption
        | (simp; omega)
        | (simp [hx]; done)
        | exact i64_small (by simp; omega)
        | exact setRow Em.row R i (Em.mk x.svc x.op x.hi x.lo x.id b)
        | (simp [hp]; done)
        | (simp; done)
        | decide)

theorem mvMiss (a b : Int) (R : List Em) (x : Em) (i : Nat) (h : i < R.length) (hx : R[i]? = some x) (hs : R.length ≤ 1000000000) (hp : (x.block == a) = false) : CodeC Try.prog 0 29 mvB (mvS a b R i) .normal (mvS a b R (i + 1)) :=
  runP hmix [.reg 3 [(0, [], some true)], .reg 5 [(4, [.row (Em.row x)], none), (6, [], some false)], .reg 7 [(0, [.be (I ((i + 1 : Nat) : Int))], none)]] ⟨[0, 1, 2, 10, 11, 12], [(900, 900)], []⟩ [
      decide (Int.ofNat i < Int.ofNat (List.length R)) = true,
      (0 : Int) ≤ Int.ofNat i,
      Int.ofNat i < Int.ofNat (List.length (List.map Em.row R)),
      (List.map Em.row R)[i]? = some (Em.row x),
      (Em.block x == a) = false,
      IntKind.wrap IntKind.i64 (Int.ofNat (i + (1 : Nat))) = Int.ofNat (i + (1 : Nat))] (by kernel_rfl)
    (by
      simp only [allP]
      and_intros <;> first
        | omega
        | with_reducible assumption
        | (simp; omega)
        | (simp [hx]; done)
        | exact i64_small (by simp; omega)
        | exact setRow Em.row R i (Em.mk x.svc x.op x.hi x.lo x.id b)
        | (simp [hp]; done)
        | (simp; done)
        | decide)

theorem mvEnd (a b : Int) (R : List Em) (i : Nat) (h : R.length ≤ i) : CodeC Try.prog 0 29 mvB (mvS a b R i) (.exit 0) (mvS a b R i) :=
  runP hmix [.reg 3 [(0, [], some false)]] ⟨[0, 1, 2, 10, 11, 12], [(900, 900)], []⟩ [
      decide (Int.ofNat i < Int.ofNat (List.length R)) = false] (by kernel_rfl)
    (by
      simp only [allP]
      and_intros <;> first
        | omega
        | with_reducible assumption
        | (simp; omega)
        | (simp; done)
        | decide)

theorem mvLoop (a b : Int) (l : List Em) (hs : l.length ≤ 1000000000) : ∀ (n : Nat) (R : List Em) (i : Nat), i + n = l.length → R = (l.take i).map (movE a b) ++ l.drop i → LoopC Try.prog 0 29 mvB (mvS a b R i) (.exit 0) (mvS a b (l.map (movE a b)) l.length)
  | 0, R, i, hi, hR => by
    have : i = l.length := by omega
    subst this
    rw [List.take_length, List.drop_length, List.append_nil] at hR
    subst hR
    exact LoopC.last (mvEnd a b _ _ (by simp)) (by simp)
  | n + 1, R, i, hi, hR => by
    have hlt : i < l.length := by omega
    have hlen : R.length = l.length := by rw [hR]; simp; omega
    have hx : R[i]? = some l[i] := by
      rw [hR, List.getElem?_append_right (by simp; omega)]
      simp [hlt, show min i l.length = i by omega]
    have hnext : R.set i (movE a b l[i]) = (l.take (i + 1)).map (movE a b) ++ l.drop (i + 1) := by
      rw [hR, List.set_append_right _ _ (by simp; omega), List.drop_eq_getElem_cons hlt]
      have e : i - ((l.take i).map (movE a b)).length = 0 := by simp; omega
      have e2 : (l.take (i + 1)).map (movE a b) = (l.take i).map (movE a b) ++ [movE a b l[i]] := by
        rw [List.take_add_one, List.map_append]
        simp [hlt]
      rw [e, List.set_cons_zero, e2, List.append_assoc]
      rfl
    have ih := mvLoop a b l hs n (R.set i (movE a b l[i])) (i + 1) (by omega) hnext
    cases hp : l[i].block == a with
    | true =>
      have hm : movE a b l[i] = Em.mk l[i].svc l[i].op l[i].hi l[i].lo l[i].id b := by unfold movE; rw [hp]; rfl
      rw [mvS_set, hm] at ih
      exact LoopC.next (mvHit a b R l[i] i (by omega) hx (by omega) hp) ih
    | false =>
      have hm : movE a b l[i] = l[i] := by unfold movE; rw [hp]; rfl
      have hsame : R.set i l[i] = R := by
        apply List.ext_getElem?
        intro j
        rw [List.getElem?_set]
        by_cases hj : i = j
        · subst hj; rw [if_pos rfl, if_pos (by omega), hx]
        · rw [if_neg hj]
      rw [hm, hsame] at ih
      exact LoopC.next (mvMiss a b R l[i] i (by omega) hx (by omega) hp) ih

theorem cMove (l : List Em) (a b : Int) (hb : l.length ≤ 1000000000) : Contract Try.prog 12 [.sl 6 (l.map Em.row), I a, I b] [] (.own 0) [some (.arr 6 ((l.map (movE a b)).map Em.row))] :=
  vcP hmix [.reg 1 [(1, [.call [] [] (.own 0) [some (.arr 6 (l.map Em.row))]], none)], .reg 2 [(1, [.be (I (l.length : Int))], none)], .cut ⟨[0, 1, 2, 10, 11, 12], [(202001, 900)], []⟩ (.exit 0) (mvS a b (l.map (movE a b)) l.length)] [900] [
      Contract Try.prog (16 : Nat) [V.sl (6 : Nat) (List.map Em.row l)] [] (V.own (0 : Nat)) [some (Obj.arr (6 : Nat) (List.map Em.row l))],
      Int.ofNat (List.length (List.map Em.row l)) = Int.ofNat (List.length l),
      LoopC Try.prog (0 : Nat) (29 : Nat) mvB { env := [((0 : Nat), V.own (900 : Nat)), ((1 : Nat), I a), ((2 : Nat), I b), ((10 : Nat), V.own (900 : Nat)), ((11 : Nat), I (Int.ofNat (List.length l))), ((12 : Nat), I (0 : Int))], st := [((900 : Nat), Obj.arr (6 : Nat) (List.map Em.row l))], ids := [(900 : Nat)] } (Ex.exit (0 : Nat)) { env := [((0 : Nat), V.own (900 : Nat)), ((1 : Nat), I a), ((2 : Nat), I b), ((10 : Nat), V.own (900 : Nat)), ((11 : Nat), I (Int.ofNat (List.length (List.map (movE a b) l)))), ((12 : Nat), I (Int.ofNat (List.length l)))], st := [((900 : Nat), Obj.arr (6 : Nat) (List.map Em.row (List.map (movE a b) l)))], ids := [(900 : Nat)] }] (by kernel_rfl)
    (by
      simp only [allP]
      and_intros <;> first
        | omega
        | with_reducible assumption
        | exact cln _ (by rw [List.length_map]; omega)
        | exact mvLoop a b l hb l.length l 0 (by omega) (by simp)
        | (simp; omega)
        | (simp; done)
        | decide)

theorem drHit (l out : List Em) (b : Int) (x : Em) (i : Nat) (h : i < l.length) (hx : l[i]? = some x) (hs : l.length ≤ 1000000000) (ho : out.length ≤ 1000000000) (hp : (x.block != b) = true) : CodeC Try.prog 0 28 drB (drS l b out i) .normal (drS l b (out ++ [x]) (i + 1)) :=
  runP hmix [.reg 3 [(3, [], some true)], .reg 5 [(4, [.row (Em.row x)], none), (6, [], some true)], .reg 6 [(4, [.row (Em.row x)], none), (6, [.beO ((out ++ [x]).map Em.row)], none)], .reg 4 [(1, [.be (I ((i + 1 : Nat) : Int))], none)]] ⟨[0, 1, 5, 6], [(1207000, 901)], []⟩ [
      decide (Int.ofNat i < Int.ofNat (List.length (List.map Em.row l))) = true,
      (0 : Int) ≤ Int.ofNat i,
      Int.ofNat i < Int.ofNat (List.length (List.map Em.row l)),
      (List.map Em.row l)[i]? = some (Em.row x),
      (Em.block x != b) = true,
      (0 : Int) ≤ Int.ofNat i,
      Int.ofNat i < Int.ofNat (List.length (List.map Em.row l)),
      (List.map Em.row l)[i]? = some (Em.row x),
      (List.length (List.map Em.row out) + (1 : Nat)) * (64 : Nat) ≤ (140737488355328 : Nat),
      List.map Em.row out ++ [[Sg (Em.svc x), Sg (Em.op x), V.val (Value.int IntKind.u64 (Em.hi x)), V.val (Value.int IntKind.u64 (Em.lo x)), V.val (Value.int IntKind.u64 (Em.id x)), I (Em.block x)]] = List.map Em.row (out ++ [x]),
      IntKind.wrap IntKind.i64 (Int.ofNat (i + (1 : Nat))) = Int.ofNat (i + (1 : Nat))] (by kernel_rfl)
    (by
      simp only [allP]
      and_intros <;> first
        | omega
        | with_reducible assumption
        | (simp; omega)
        | (simp [hx]; done)
        | exact i64_small (by simp; omega)
        | (simp [Em.row, U]; done)
        | (simp [hp]; done)
        | (simp; done)
        | decide)

theorem drMiss (l out : List Em) (b : Int) (x : Em) (i : Nat) (h : i < l.length) (hx : l[i]? = some x) (hs : l.length ≤ 1000000000) (ho : out.length ≤ 1000000000) (hp : (x.block != b) = false) : CodeC Try.prog 0 28 drB (drS l b out i) .normal (drS l b out (i + 1)) :=
  runP hmix [.reg 3 [(3, [], some true)], .reg 5 [(4, [.row (Em.row x)], none), (6, [], some false)], .reg 4 [(1, [.be (I ((i + 1 : Nat) : Int))], none)]] ⟨[0, 1, 5, 6], [(901, 901)], []⟩ [
      decide (Int.ofNat i < Int.ofNat (List.length (List.map Em.row l))) = true,
      (0 : Int) ≤ Int.ofNat i,
      Int.ofNat i < Int.ofNat (List.length (List.map Em.row l)),
      (List.map Em.row l)[i]? = some (Em.row x),
      (Em.block x != b) = false,
      IntKind.wrap IntKind.i64 (Int.ofNat (i + (1 : Nat))) = Int.ofNat (i + (1 : Nat))] (by kernel_rfl)
    (by
      simp only [allP]
      and_intros <;> first
        | omega
        | with_reducible assumption
        | (simp; omega)
        | (simp [hx]; done)
        | exact i64_small (by simp; omega)
        | (simp [Em.row, U]; done)
        | (simp [hp]; done)
        | (simp; done)
        | decide)

theorem drEnd (l out : List Em) (b : Int) (i : Nat) (h : l.length ≤ i) : CodeC Try.prog 0 28 drB (drS l b out i) (.exit 0) (drS l b out i) :=
  runP hmix [.reg 3 [(3, [], some false)]] ⟨[0, 1, 5, 6], [(901, 901)], []⟩ [
      decide (Int.ofNat i < Int.ofNat (List.length (List.map Em.row l))) = false] (by kernel_rfl)
    (by
      simp only [allP]
      and_intros <;> first
        | omega
        | with_reducible assumption
        | (simp; omega)
        | (simp; done)
        | decide)

theorem foldl_keep {α : Type} (p : α → Bool) : ∀ (l out : List α), l.foldl (fun out x => bif p x then out ++ [x] else out) out = out ++ l.filter p
  | [], out => by simp
  | x :: l, out => by
    rw [List.foldl_cons, foldl_keep p l]
    cases h : p x <;> simp [h]

theorem drLoop (l : List Em) (b : Int) (hb : l.length ≤ 1000000000) : LoopC Try.prog 0 28 drB (drS l b [] 0) (.exit 0) (drS l b (l.filter (fun x => x.block != b)) l.length) := by
  have := LoopC.fold (P := Try.prog) (k := 0) (n := 28) (c := drB) l (fun out x => bif x.block != b then out ++ [x] else out) (fun i out => out.length ≤ i) (fun out i => drS l b out i) (e := .exit 0) (by simp)
    (fun i out x hx hi h => by
      have ho : out.length ≤ 1000000000 := by omega
      cases hp : x.block != b with
      | false => exact ⟨drMiss l out b x i hi hx hb ho hp, by simp only [cond_false]; omega⟩
      | true => exact ⟨drHit l out b x i hi hx hb ho hp, by simp; omega⟩)
    (fun out h => drEnd l out b _ (Nat.le_refl _)) [] (by simp)
  rw [foldl_keep (fun x : Em => x.block != b), List.nil_append] at this
  exact this

theorem cDropR (l : List Em) (b : Int) (hb : l.length ≤ 1000000000) : Contract Try.prog 11 [.sl 6 (l.map Em.row), I b] [] (.own 0) [some (.arr 6 ((l.filter (fun x => x.block != b)).map Em.row))] :=
  vcP hmix [.cut ⟨[0, 1, 5, 6], [], [.slot 5 901 6]⟩ (.exit 0) (drS l b (l.filter (fun x => x.block != b)) l.length)] [901] [
      LoopC Try.prog (0 : Nat) (28 : Nat) drB { env := [((0 : Nat), V.sl (6 : Nat) (List.map Em.row l)), ((1 : Nat), I b), ((5 : Nat), V.own (901 : Nat)), ((6 : Nat), I (0 : Int))], st := [((901 : Nat), Obj.arr (6 : Nat) [])], ids := [(901 : Nat)] } (Ex.exit (0 : Nat)) { env := [((0 : Nat), V.sl (6 : Nat) (List.map Em.row l)), ((1 : Nat), I b), ((5 : Nat), V.own (901 : Nat)), ((6 : Nat), I (Int.ofNat (List.length l)))], st := [((901 : Nat), Obj.arr (6 : Nat) (List.map Em.row (List.filter (fun x0 => Em.block x0 != b) l)))], ids := [(901 : Nat)] }] (by kernel_rfl)
    (by
      simp only [allP]
      and_intros <;> first
        | omega
        | with_reducible assumption
        | exact drLoop l b hb
        | (simp; done)
        | decide)

theorem mrHit (l out : List Em) (a b : Int) (x : Em) (i : Nat) (h : i < l.length) (hx : l[i]? = some x) (hs : l.length ≤ 1000000000) (ho : out.length ≤ 1000000000) (hp : (x.block == a) = true) : CodeC Try.prog 0 31 mrB (mrS l a b out i) .normal (mrS l a b (out ++ [(Em.mk x.svc x.op x.hi x.lo x.id b)]) (i + 1)) :=
  runP hmix [.reg 3 [(3, [], some true)], .reg 5 [(3, [.row (Em.row x)], none)], .reg 6 [(3, [], some true)], .reg 8 [(3, [.beO ((out ++ [(Em.mk x.svc x.op x.hi x.lo x.id b)]).map Em.row)], none)], .reg 4 [(1, [.be (I ((i + 1 : Nat) : Int))], none)]] ⟨[0, 1, 2, 7, 8], [(1604000, 901)], []⟩ [
      decide (Int.ofNat i < Int.ofNat (List.length (List.map Em.row l))) = true,
      (0 : Int) ≤ Int.ofNat i,
      Int.ofNat i < Int.ofNat (List.length (List.map Em.row l)),
      (List.map Em.row l)[i]? = some (Em.row x),
      (Em.block x == a) = true,
      (List.length (List.map Em.row out) + (1 : Nat)) * (64 : Nat) ≤ (140737488355328 : Nat),
      List.map Em.row out ++ [[Sg (Em.svc x), Sg (Em.op x), V.val (Value.int IntKind.u64 (Em.hi x)), V.val (Value.int IntKind.u64 (Em.lo x)), V.val (Value.int IntKind.u64 (Em.id x)), I b]] = List.map Em.row (out ++ [{ svc := Em.svc x, op := Em.op x, hi := Em.hi x, lo := Em.lo x, id := Em.id x, block := b }]),
      IntKind.wrap IntKind.i64 (Int.ofNat (i + (1 : Nat))) = Int.ofNat (i + (1 : Nat))] (by kernel_rfl)
    (by
      simp only [allP]
      and_intros <;> first
        | omega
        | with_reducible assumption
        | (simp; omega)
        | (simp [hx]; done)
        | exact i64_small (by simp; omega)
        | (simp [Em.row, U]; done)
        | (simp [hp]; done)
        | (simp; done)
        | decide)

theorem mrMiss (l out : List Em) (a b : Int) (x : Em) (i : Nat) (h : i < l.length) (hx : l[i]? = some x) (hs : l.length ≤ 1000000000) (ho : out.length ≤ 1000000000) (hp : (x.block == a) = false) : CodeC Try.prog 0 31 mrB (mrS l a b out i) .normal (mrS l a b (out ++ [x]) (i + 1)) :=
  runP hmix [.reg 3 [(3, [], some true)], .reg 5 [(3, [.row (Em.row x)], none)], .reg 6 [(3, [], some false)], .reg 8 [(3, [.beO ((out ++ [x]).map Em.row)], none)], .reg 4 [(1, [.be (I ((i + 1 : Nat) : Int))], none)]] ⟨[0, 1, 2, 7, 8], [(1604000, 901)], []⟩ [
      decide (Int.ofNat i < Int.ofNat (List.length (List.map Em.row l))) = true,
      (0 : Int) ≤ Int.ofNat i,
      Int.ofNat i < Int.ofNat (List.length (List.map Em.row l)),
      (List.map Em.row l)[i]? = some (Em.row x),
      (Em.block x == a) = false,
      (List.length (List.map Em.row out) + (1 : Nat)) * (64 : Nat) ≤ (140737488355328 : Nat),
      List.map Em.row out ++ [[Sg (Em.svc x), Sg (Em.op x), V.val (Value.int IntKind.u64 (Em.hi x)), V.val (Value.int IntKind.u64 (Em.lo x)), V.val (Value.int IntKind.u64 (Em.id x)), I (Em.block x)]] = List.map Em.row (out ++ [x]),
      IntKind.wrap IntKind.i64 (Int.ofNat (i + (1 : Nat))) = Int.ofNat (i + (1 : Nat))] (by kernel_rfl)
    (by
      simp only [allP]
      and_intros <;> first
        | omega
        | with_reducible assumption
        | (simp; omega)
        | (simp [hx]; done)
        | exact i64_small (by simp; omega)
        | (simp [Em.row, U]; done)
        | (simp [hp]; done)
        | (simp; done)
        | decide)

theorem mrEnd (l out : List Em) (a b : Int) (i : Nat) (h : l.length ≤ i) : CodeC Try.prog 0 31 mrB (mrS l a b out i) (.exit 0) (mrS l a b out i) :=
  runP hmix [.reg 3 [(3, [], some false)]] ⟨[0, 1, 2, 7, 8], [(901, 901)], []⟩ [
      decide (Int.ofNat i < Int.ofNat (List.length (List.map Em.row l))) = false] (by kernel_rfl)
    (by
      simp only [allP]
      and_intros <;> first
        | omega
        | with_reducible assumption
        | (simp; omega)
        | (simp; done)
        | decide)

theorem foldl_map {α β : Type} (f : α → β) : ∀ (l : List α) (out : List β), l.foldl (fun out x => out ++ [f x]) out = out ++ l.map f
  | [], out => by simp
  | x :: l, out => by rw [List.foldl_cons, foldl_map f l]; simp

theorem mrLoop (l : List Em) (a b : Int) (hb : l.length ≤ 1000000000) : LoopC Try.prog 0 31 mrB (mrS l a b [] 0) (.exit 0) (mrS l a b (l.map (movE a b)) l.length) := by
  have := LoopC.fold (P := Try.prog) (k := 0) (n := 31) (c := mrB) l (fun out x => out ++ [movE a b x]) (fun i out => out.length ≤ i) (fun out i => mrS l a b out i) (e := .exit 0) (by simp)
    (fun i out x hx hi h => by
      have ho : out.length ≤ 1000000000 := by omega
      refine ⟨?_, by simp; omega⟩
      unfold movE
      cases hp : x.block == a with
      | false => exact mrMiss l out a b x i hi hx hb ho hp
      | true => exact mrHit l out a b x i hi hx hb ho hp)
    (fun out h => mrEnd l out a b _ (Nat.le_refl _)) [] (by simp)
  rw [foldl_map (movE a b), List.nil_append] at this
  exact this

theorem cMoveR (l : List Em) (a b : Int) (hb : l.length ≤ 1000000000) : Contract Try.prog 13 [.sl 6 (l.map Em.row), I a, I b] [] (.own 0) [some (.arr 6 ((l.map (movE a b)).map Em.row))] :=
  vcP hmix [.cut ⟨[0, 1, 2, 7, 8], [], [.slot 7 901 6]⟩ (.exit 0) (mrS l a b (l.map (movE a b)) l.length)] [901] [
      LoopC Try.prog (0 : Nat) (31 : Nat) mrB { env := [((0 : Nat), V.sl (6 : Nat) (List.map Em.row l)), ((1 : Nat), I a), ((2 : Nat), I b), ((7 : Nat), V.own (901 : Nat)), ((8 : Nat), I (0 : Int))], st := [((901 : Nat), Obj.arr (6 : Nat) [])], ids := [(901 : Nat)] } (Ex.exit (0 : Nat)) { env := [((0 : Nat), V.sl (6 : Nat) (List.map Em.row l)), ((1 : Nat), I a), ((2 : Nat), I b), ((7 : Nat), V.own (901 : Nat)), ((8 : Nat), I (Int.ofNat (List.length l)))], st := [((901 : Nat), Obj.arr (6 : Nat) (List.map Em.row (List.map (movE a b) l)))], ids := [(901 : Nat)] }] (by kernel_rfl)
    (by
      simp only [allP]
      and_intros <;> first
        | omega
        | with_reducible assumption
        | exact mrLoop l a b hb
        | (simp; done)
        | decide)

end Go.Proofs.Ytemjhlmdiicdcaa
