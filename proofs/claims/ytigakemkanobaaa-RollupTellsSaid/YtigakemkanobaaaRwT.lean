/- rollup: the reference on what is behind, and what is found. -/
import Derived.Test.YtigakemkanobaaaRwY
import Derived.Test.YtigakemkanobaaaRwN
namespace Go.Proofs.Ytigakemkanobaaa
open E
set_option maxRecDepth 100000
set_option linter.unusedVariables false
set_option linter.unusedSimpArgs false


def behC (e b c : Int) : Bool := bif decide (c < 0) && decide (b > IntKind.i64.wrap (9223372036854775807 + c)) then true else bif decide (c > 0) && decide (b < IntKind.i64.wrap (-9223372036854775808 + c)) then false else decide (e ≤ IntKind.i64.wrap (b + -c))
def FBeh : List V → Option V
  | [.val (.int _ a), .val (.int _ b), .val (.int _ c)] => some (Bo (behC a b c))
  | _ => none
def xeS (l : List Rw) (sec : Int) (hz : Nat → Int) (x : List Rw) (i : Nat) : SL := ⟨[(0, .sl 14 (l.map Rw.row)), (1, I sec), (5, .ptr 900 0 0 0), (7, .own 901), (8, I (i : Int))], [(900, .box (h3 hz)), (901, .arr 14 (x.map Rw.row))], [900, 901]⟩
def xfS (l : List Rw) (svc op : ByteArray) (lev : Int) (x : List Rw) (i : Nat) : SL := ⟨[(0, .sl 14 (l.map Rw.row)), (1, Sg svc), (2, Sg op), (3, I lev), (9, .own 900), (10, I (i : Int))], [(900, .arr 14 (x.map Rw.row))], [900]⟩
noncomputable def xeB : Code := codeAt Try.prog 22 [true, true, false, true, false, false]

noncomputable def xfB : Code := codeAt Try.prog 24 [true, true, false, true, false, false]

theorem cBeh_0 (e b c : Int)  (tq0 : (decide (c < (0 : Int))) = true) (tq1 : (decide (b > IntKind.wrap IntKind.i64 ((9223372036854775807 : Int) + c))) = true) : Contract Try.prog 39 [I e, I b, I c] [] (Bo true) ([]) :=
  vcP hmix [.reg 1 [(2, [], some true), (8, [], some true)]] [] [
      decide (c < (0 : Int)) = true,
      decide (b > IntKind.wrap IntKind.i64 ((9223372036854775807 : Int) + c)) = true] (by kernel_rfl)
    (by
      have d0 := tq0
      have d1 := tq1
      try simp only [Int.ofNat_eq_natCast, List.length_map, Bool.not_eq_true', Bool.not_eq_false', decide_eq_true_eq, decide_eq_false_iff_not] at d0 d1
      simp only [allP]
      and_intros <;> first
        | omega)

theorem cBeh_1 (e b c : Int)  (tq0 : (decide (c < (0 : Int))) = true) (tq1 : (decide (b > IntKind.wrap IntKind.i64 ((9223372036854775807 : Int) + c))) = false) (tq2 : (decide (c > (0 : Int))) = true) (tq3 : (decide (b < IntKind.wrap IntKind.i64 ((-9223372036854775808 : Int) + c))) = true) : Contract Try.prog 39 [I e, I b, I c] [] (Bo false) ([]) :=
  vcP hmix [.reg 1 [(2, [], some true), (8, [], some false)], .reg 3 [(2, [], some true), (8, [], some true)]] [] [
      decide (c < (0 : Int)) = true,
      decide (b > IntKind.wrap IntKind.i64 ((9223372036854775807 : Int) + c)) = false,
      decide (c > (0 : Int)) = true,
      decide (b < IntKind.wrap IntKind.i64 ((-9223372036854775808 : Int) + c)) = true] (by kernel_rfl)
    (by
      have d0 := tq0
      have d1 := tq1
      have d2 := tq2
      have d3 := tq3
      try simp only [Int.ofNat_eq_natCast, List.length_map, Bool.not_eq_true', Bool.not_eq_false', decide_eq_true_eq, decide_eq_false_iff_not] at d0 d1 d2 d3
      simp only [allP]
      and_intros <;> first
        | omega)

theorem cBeh_2 (e b c : Int)  (tq0 : (decide (c < (0 : Int))) = true) (tq1 : (decide (b > IntKind.wrap IntKind.i64 ((9223372036854775807 : Int) + c))) = false) (tq2 : (decide (c > (0 : Int))) = true) (tq3 : (decide (b < IntKind.wrap IntKind.i64 ((-9223372036854775808 : Int) + c))) = false) : Contract Try.prog 39 [I e, I b, I c] [] (Bo (decide (e ≤ IntKind.wrap IntKind.i64 (b + -c)))) ([]) :=
  vcP hmix [.reg 1 [(2, [], some true), (8, [], some false)], .reg 3 [(2, [], some true), (8, [], some false)]] [] [
      decide (c < (0 : Int)) = true,
      decide (b > IntKind.wrap IntKind.i64 ((9223372036854775807 : Int) + c)) = false,
      decide (c > (0 : Int)) = true,
      decide (b < IntKind.wrap IntKind.i64 ((-9223372036854775808 : Int) + c)) = false] (by kernel_rfl)
    (by
      have d0 := tq0
      have d1 := tq1
      have d2 := tq2
      have d3 := tq3
      try simp only [Int.ofNat_eq_natCast, List.length_map, Bool.not_eq_true', Bool.not_eq_false', decide_eq_true_eq, decide_eq_false_iff_not] at d0 d1 d2 d3
      simp only [allP]
      and_intros <;> first
        | omega)

theorem cBeh_3 (e b c : Int)  (tq0 : (decide (c < (0 : Int))) = true) (tq1 : (decide (b > IntKind.wrap IntKind.i64 ((9223372036854775807 : Int) + c))) = false) (tq2 : (decide (c > (0 : Int))) = false) : Contract Try.prog 39 [I e, I b, I c] [] (Bo (decide (e ≤ IntKind.wrap IntKind.i64 (b + -c)))) ([]) :=
  vcP hmix [.reg 1 [(2, [], some true), (8, [], some false)], .reg 3 [(2, [], some false)]] [] [
      decide (c < (0 : Int)) = true,
      decide (b > IntKind.wrap IntKind.i64 ((9223372036854775807 : Int) + c)) = false,
      decide (c > (0 : Int)) = false] (by kernel_rfl)
    (by
      have d0 := tq0
      have d1 := tq1
      have d2 := tq2
      try simp only [Int.ofNat_eq_natCast, List.length_map, Bool.not_eq_true', Bool.not_eq_false', decide_eq_true_eq, decide_eq_false_iff_not] at d0 d1 d2
      simp only [allP]
      and_intros <;> first
        | omega)

theorem cBeh_4 (e b c : Int)  (tq0 : (decide (c < (0 : Int))) = false) (tq1 : (decide (c > (0 : Int))) = true) (tq2 : (decide (b < IntKind.wrap IntKind.i64 ((-9223372036854775808 : Int) + c))) = true) : Contract Try.prog 39 [I e, I b, I c] [] (Bo false) ([]) :=
  vcP hmix [.reg 1 [(2, [], some false)], .reg 3 [(2, [], some true), (8, [], some true)]] [] [
      decide (c < (0 : Int)) = false,
      decide (c > (0 : Int)) = true,
      decide (b < IntKind.wrap IntKind.i64 ((-9223372036854775808 : Int) + c)) = true] (by kernel_rfl)
    (by
      have d0 := tq0
      have d1 := tq1
      have d2 := tq2
      try simp only [Int.ofNat_eq_natCast, List.length_map, Bool.not_eq_true', Bool.not_eq_false', decide_eq_true_eq, decide_eq_false_iff_not] at d0 d1 d2
      simp only [allP]
      and_intros <;> first
        | omega)

theorem cBeh_5 (e b c : Int)  (tq0 : (decide (c < (0 : Int))) = false) (tq1 : (decide (c > (0 : Int))) = true) (tq2 : (decide (b < IntKind.wrap IntKind.i64 ((-9223372036854775808 : Int) + c))) = false) : Contract Try.prog 39 [I e, I b, I c] [] (Bo (decide (e ≤ IntKind.wrap IntKind.i64 (b + -c)))) ([]) :=
  vcP hmix [.reg 1 [(2, [], some false)], .reg 3 [(2, [], some true), (8, [], some false)]] [] [
      decide (c < (0 : Int)) = false,
      decide (c > (0 : Int)) = true,
      decide (b < IntKind.wrap IntKind.i64 ((-9223372036854775808 : Int) + c)) = false] (by kernel_rfl)
    (by
      have d0 := tq0
      have d1 := tq1
      have d2 := tq2
      try simp only [Int.ofNat_eq_natCast, List.length_map, Bool.not_eq_true', Bool.not_eq_false', decide_eq_true_eq, decide_eq_false_iff_not] at d0 d1 d2
      simp only [allP]
      and_intros <;> first
        | omega)

theorem cBeh_6 (e b c : Int)  (tq0 : (decide (c < (0 : Int))) = false) (tq1 : (decide (c > (0 : Int))) = false) : Contract Try.prog 39 [I e, I b, I c] [] (Bo (decide (e ≤ IntKind.wrap IntKind.i64 (b + -c)))) ([]) :=
  vcP hmix [.reg 1 [(2, [], some false)], .reg 3 [(2, [], some false)]] [] [
      decide (c < (0 : Int)) = false,
      decide (c > (0 : Int)) = false] (by kernel_rfl)
    (by
      have d0 := tq0
      have d1 := tq1
      try simp only [Int.ofNat_eq_natCast, List.length_map, Bool.not_eq_true', Bool.not_eq_false', decide_eq_true_eq, decide_eq_false_iff_not] at d0 d1
      simp only [allP]
      and_intros <;> first
        | omega)

theorem cBeh (e b c : Int)  : Contract Try.prog 39 [I e, I b, I c] [] (Bo (behC e b c)) [] := by
  rcases tf (decide (c < (0 : Int))) with tq0 | tq0
  · rcases tf (decide (b > IntKind.wrap IntKind.i64 ((9223372036854775807 : Int) + c))) with tq1 | tq1
    · exact Contract.cast (by
        first
          | (simp only [behC, tq0, tq1, cond_true, cond_false]; rfl)) (by
        first
          | rfl) (cBeh_0 e b c  tq0 tq1)
    · rcases tf (decide (c > (0 : Int))) with tq2 | tq2
      · rcases tf (decide (b < IntKind.wrap IntKind.i64 ((-9223372036854775808 : Int) + c))) with tq3 | tq3
        · exact Contract.cast (by
            first
              | (simp only [behC, tq0, tq1, tq2, tq3, cond_true, cond_false]; rfl)) (by
            first
              | rfl) (cBeh_1 e b c  tq0 tq1 tq2 tq3)
        · exact Contract.cast (by
            first
              | (simp only [behC, tq0, tq1, tq2, tq3, cond_true, cond_false]; rfl)) (by
            first
              | rfl) (cBeh_2 e b c  tq0 tq1 tq2 tq3)
      · exact Contract.cast (by
          first
            | (simp only [behC, tq0, tq1, tq2, cond_true, cond_false]; rfl)) (by
          first
            | rfl) (cBeh_3 e b c  tq0 tq1 tq2)
  · rcases tf (decide (c > (0 : Int))) with tq1 | tq1
    · rcases tf (decide (b < IntKind.wrap IntKind.i64 ((-9223372036854775808 : Int) + c))) with tq2 | tq2
      · exact Contract.cast (by
          first
            | (simp only [behC, tq0, tq1, tq2, cond_true, cond_false]; rfl)) (by
          first
            | rfl) (cBeh_4 e b c  tq0 tq1 tq2)
      · exact Contract.cast (by
          first
            | (simp only [behC, tq0, tq1, tq2, cond_true, cond_false]; rfl)) (by
          first
            | rfl) (cBeh_5 e b c  tq0 tq1 tq2)
    · exact Contract.cast (by
        first
          | (simp only [behC, tq0, tq1, cond_true, cond_false]; rfl)) (by
        first
          | rfl) (cBeh_6 e b c  tq0 tq1)

theorem xeG0_0 (l : List Rw) (sec : Int) (hz : Nat → Int) (x : List Rw) (i : Nat) (r : Rw) (hi : i < l.length) (hy : l[i]? = some r) (hs : l.length ≤ 1000) (hl : x.length ≤ 1000) (hg : goodW r.lev r.win = true) (hv : r.lev = 0) (hb : behC ((r.win + 1) * lenW r.lev) sec (hz 0) = true) : CodeC Try.prog 0 55 xeB (xeS l sec hz x i) (Ex.normal) ({ env := [((0 : Nat), V.sl (14 : Nat) (List.map Rw.row l)), ((1 : Nat), I sec), ((5 : Nat), V.ptr (900 : Nat) (0 : Nat) (0 : Nat) (0 : Nat)), ((7 : Nat), V.own (901 : Nat)), ((8 : Nat), I (Int.ofNat (i + (1 : Nat))))], st := [((900 : Nat), Obj.box [I (hz (0 : Nat)), I (hz (1 : Nat)), I (hz (2 : Nat))]), ((901 : Nat), Obj.arr (14 : Nat) (List.map Rw.row x))], ids := [(900 : Nat), (901 : Nat)] }) :=
  runP hmix [.reg 3 [(3, [], some true)], .reg 5 [(4, [.row (Rw.row r)], none), (9, [.row (Rw.row r)], none), (10, [.call [] [] (.tup [I (r.win * lenW r.lev), I ((r.win + 1) * lenW r.lev), Bo true]) []], none)], .reg 6 [(8, [.row (Rw.row r)], none), (9, [.idx 0], none), (13, [], some false)], .reg 4 [(1, [.be (I ((i + 1 : Nat) : Int))], none)], .tab [(39, FBeh)]] ⟨[0, 1, 5, 7, 8], [(900, 900), (901, 901)], []⟩ [
      decide (Int.ofNat i < Int.ofNat (List.length (List.map Rw.row l))) = true,
      (0 : Int) ≤ Int.ofNat i,
      Int.ofNat i < Int.ofNat (List.length (List.map Rw.row l)),
      (List.map Rw.row l)[i]? = some (Rw.row r),
      (0 : Int) ≤ Int.ofNat i,
      Int.ofNat i < Int.ofNat (List.length (List.map Rw.row l)),
      (List.map Rw.row l)[i]? = some (Rw.row r),
      Contract Try.prog (25 : Nat) [I (Rw.lev r), I (Rw.win r)] [] (V.tup [I (Rw.win r * lenW (Rw.lev r)), I ((Rw.win r + (1 : Int)) * lenW (Rw.lev r)), Bo true]) [],
      (0 : Int) ≤ Int.ofNat i,
      Int.ofNat i < Int.ofNat (List.length (List.map Rw.row l)),
      (List.map Rw.row l)[i]? = some (Rw.row r),
      Rw.lev r = (0 : Int),
      Contract Try.prog (39 : Nat) [I ((Rw.win r + (1 : Int)) * lenW (Rw.lev r)), I sec, I (hz (0 : Nat))] [] (Bo (behC ((Rw.win r + (1 : Int)) * lenW (Rw.lev r)) sec (hz (0 : Nat)))) [],
      (!behC ((Rw.win r + (1 : Int)) * lenW (Rw.lev r)) sec (hz (0 : Nat))) = false,
      IntKind.wrap IntKind.i64 (Int.ofNat (i + (1 : Nat))) = Int.ofNat (i + (1 : Nat))] (by kernel_rfl)
    (by
      simp only [allP]
      and_intros <;> first
        | omega
        | (simp; omega)
        | (simp [hy]; done)
        | (have h := cSpanR r.lev r.win; unfold spanV at h; rw [hg] at h; exact h)
        | exact cBeh _ _ _
        | exact i64_small (by simp; omega))

theorem xeG0 (l : List Rw) (sec : Int) (hz : Nat → Int) (x : List Rw) (i : Nat) (r : Rw) (hi : i < l.length) (hy : l[i]? = some r) (hs : l.length ≤ 1000) (hl : x.length ≤ 1000) (hg : goodW r.lev r.win = true) (hv : r.lev = 0) (hb : behC ((r.win + 1) * lenW r.lev) sec (hz 0) = true)  : CodeC Try.prog 0 55 xeB (xeS l sec hz x i) .normal (xeS l sec hz x (i + 1)) := by
  exact CodeC.cast (by
    first
      | rfl) (xeG0_0 l sec hz x i r hi hy hs hl hg hv hb )

theorem xeK0_0 (l : List Rw) (sec : Int) (hz : Nat → Int) (x : List Rw) (i : Nat) (r : Rw) (hi : i < l.length) (hy : l[i]? = some r) (hs : l.length ≤ 1000) (hl : x.length ≤ 1000) (hg : goodW r.lev r.win = true) (hv : r.lev = 0) (hb : behC ((r.win + 1) * lenW r.lev) sec (hz 0) = false) : CodeC Try.prog 0 55 xeB (xeS l sec hz x i) (Ex.normal) ({ env := [((0 : Nat), V.sl (14 : Nat) (List.map Rw.row l)), ((1 : Nat), I sec), ((5 : Nat), V.ptr (900 : Nat) (0 : Nat) (0 : Nat) (0 : Nat)), ((7 : Nat), V.own (901 : Nat)), ((8 : Nat), I (Int.ofNat (i + (1 : Nat))))], st := [((900 : Nat), Obj.box [I (hz (0 : Nat)), I (hz (1 : Nat)), I (hz (2 : Nat))]), ((901 : Nat), Obj.arr (14 : Nat) (List.map Rw.row (x ++ [r])))], ids := [(900 : Nat), (901 : Nat)] }) :=
  runP hmix [.reg 3 [(3, [], some true)], .reg 5 [(4, [.row (Rw.row r)], none), (9, [.row (Rw.row r)], none), (10, [.call [] [] (.tup [I (r.win * lenW r.lev), I ((r.win + 1) * lenW r.lev), Bo true]) []], none)], .reg 6 [(8, [.row (Rw.row r)], none), (9, [.idx 0], none), (13, [], some true)], .reg 7 [(4, [.row (Rw.row r)], none), (6, [.beO ((x ++ [r]).map Rw.row)], none)], .reg 4 [(1, [.be (I ((i + 1 : Nat) : Int))], none)], .tab [(39, FBeh)]] ⟨[0, 1, 5, 7, 8], [(900, 900), (1407000, 901)], []⟩ [
      decide (Int.ofNat i < Int.ofNat (List.length (List.map Rw.row l))) = true,
      (0 : Int) ≤ Int.ofNat i,
      Int.ofNat i < Int.ofNat (List.length (List.map Rw.row l)),
      (List.map Rw.row l)[i]? = some (Rw.row r),
      (0 : Int) ≤ Int.ofNat i,
      Int.ofNat i < Int.ofNat (List.length (List.map Rw.row l)),
      (List.map Rw.row l)[i]? = some (Rw.row r),
      Contract Try.prog (25 : Nat) [I (Rw.lev r), I (Rw.win r)] [] (V.tup [I (Rw.win r * lenW (Rw.lev r)), I ((Rw.win r + (1 : Int)) * lenW (Rw.lev r)), Bo true]) [],
      (0 : Int) ≤ Int.ofNat i,
      Int.ofNat i < Int.ofNat (List.length (List.map Rw.row l)),
      (List.map Rw.row l)[i]? = some (Rw.row r),
      Rw.lev r = (0 : Int),
      Contract Try.prog (39 : Nat) [I ((Rw.win r + (1 : Int)) * lenW (Rw.lev r)), I sec, I (hz (0 : Nat))] [] (Bo (behC ((Rw.win r + (1 : Int)) * lenW (Rw.lev r)) sec (hz (0 : Nat)))) [],
      (!behC ((Rw.win r + (1 : Int)) * lenW (Rw.lev r)) sec (hz (0 : Nat))) = true,
      (0 : Int) ≤ Int.ofNat i,
      Int.ofNat i < Int.ofNat (List.length (List.map Rw.row l)),
      (List.map Rw.row l)[i]? = some (Rw.row r),
      (List.length (List.map Rw.row x) + (1 : Nat)) * (128 : Nat) ≤ (140737488355328 : Nat),
      List.map Rw.row x ++ [[I (Rw.lev r), I (Rw.win r), Sg (Rw.svc r), Sg (Rw.op r), I (Rw.c r (0 : Nat)), I (Rw.c r (1 : Nat)), I (Rw.c r (2 : Nat)), I (Rw.c r (3 : Nat)), I (Rw.c r (4 : Nat)), I (Rw.c r (5 : Nat)), I (Rw.c r (6 : Nat)), I (Rw.c r (7 : Nat)), I (Rw.c r (8 : Nat)), I (Rw.c r (9 : Nat))]] = List.map Rw.row (x ++ [r]),
      IntKind.wrap IntKind.i64 (Int.ofNat (i + (1 : Nat))) = Int.ofNat (i + (1 : Nat))] (by kernel_rfl)
    (by
      simp only [allP]
      and_intros <;> first
        | omega
        | (simp; omega)
        | (simp [hy]; done)
        | (have h := cSpanR r.lev r.win; unfold spanV at h; rw [hg] at h; exact h)
        | exact cBeh _ _ _
        | (simp [Rw.row]; done)
        | exact i64_small (by simp; omega))

theorem xeK0 (l : List Rw) (sec : Int) (hz : Nat → Int) (x : List Rw) (i : Nat) (r : Rw) (hi : i < l.length) (hy : l[i]? = some r) (hs : l.length ≤ 1000) (hl : x.length ≤ 1000) (hg : goodW r.lev r.win = true) (hv : r.lev = 0) (hb : behC ((r.win + 1) * lenW r.lev) sec (hz 0) = false)  : CodeC Try.prog 0 55 xeB (xeS l sec hz x i) .normal (xeS l sec hz (x ++ [r]) (i + 1)) := by
  exact CodeC.cast (by
    first
      | rfl) (xeK0_0 l sec hz x i r hi hy hs hl hg hv hb )

theorem xeG1_0 (l : List Rw) (sec : Int) (hz : Nat → Int) (x : List Rw) (i : Nat) (r : Rw) (hi : i < l.length) (hy : l[i]? = some r) (hs : l.length ≤ 1000) (hl : x.length ≤ 1000) (hg : goodW r.lev r.win = true) (hv : r.lev = 1) (hb : behC ((r.win + 1) * lenW r.lev) sec (hz 1) = true) : CodeC Try.prog 0 55 xeB (xeS l sec hz x i) (Ex.normal) ({ env := [((0 : Nat), V.sl (14 : Nat) (List.map Rw.row l)), ((1 : Nat), I sec), ((5 : Nat), V.ptr (900 : Nat) (0 : Nat) (0 : Nat) (0 : Nat)), ((7 : Nat), V.own (901 : Nat)), ((8 : Nat), I (Int.ofNat (i + (1 : Nat))))], st := [((900 : Nat), Obj.box [I (hz (0 : Nat)), I (hz (1 : Nat)), I (hz (2 : Nat))]), ((901 : Nat), Obj.arr (14 : Nat) (List.map Rw.row x))], ids := [(900 : Nat), (901 : Nat)] }) :=
  runP hmix [.reg 3 [(3, [], some true)], .reg 5 [(4, [.row (Rw.row r)], none), (9, [.row (Rw.row r)], none), (10, [.call [] [] (.tup [I (r.win * lenW r.lev), I ((r.win + 1) * lenW r.lev), Bo true]) []], none)], .reg 6 [(8, [.row (Rw.row r)], none), (9, [.idx 1], none), (13, [], some false)], .reg 4 [(1, [.be (I ((i + 1 : Nat) : Int))], none)], .tab [(39, FBeh)]] ⟨[0, 1, 5, 7, 8], [(900, 900), (901, 901)], []⟩ [
      decide (Int.ofNat i < Int.ofNat (List.length (List.map Rw.row l))) = true,
      (0 : Int) ≤ Int.ofNat i,
      Int.ofNat i < Int.ofNat (List.length (List.map Rw.row l)),
      (List.map Rw.row l)[i]? = some (Rw.row r),
      (0 : Int) ≤ Int.ofNat i,
      Int.ofNat i < Int.ofNat (List.length (List.map Rw.row l)),
      (List.map Rw.row l)[i]? = some (Rw.row r),
      Contract Try.prog (25 : Nat) [I (Rw.lev r), I (Rw.win r)] [] (V.tup [I (Rw.win r * lenW (Rw.lev r)), I ((Rw.win r + (1 : Int)) * lenW (Rw.lev r)), Bo true]) [],
      (0 : Int) ≤ Int.ofNat i,
      Int.ofNat i < Int.ofNat (List.length (List.map Rw.row l)),
      (List.map Rw.row l)[i]? = some (Rw.row r),
      Rw.lev r = (1 : Int),
      Contract Try.prog (39 : Nat) [I ((Rw.win r + (1 : Int)) * lenW (Rw.lev r)), I sec, I (hz (1 : Nat))] [] (Bo (behC ((Rw.win r + (1 : Int)) * lenW (Rw.lev r)) sec (hz (1 : Nat)))) [],
      (!behC ((Rw.win r + (1 : Int)) * lenW (Rw.lev r)) sec (hz (1 : Nat))) = false,
      IntKind.wrap IntKind.i64 (Int.ofNat (i + (1 : Nat))) = Int.ofNat (i + (1 : Nat))] (by kernel_rfl)
    (by
      simp only [allP]
      and_intros <;> first
        | omega
        | (simp; omega)
        | (simp [hy]; done)
        | (have h := cSpanR r.lev r.win; unfold spanV at h; rw [hg] at h; exact h)
        | exact cBeh _ _ _
        | exact i64_small (by simp; omega))

theorem xeG1 (l : List Rw) (sec : Int) (hz : Nat → Int) (x : List Rw) (i : Nat) (r : Rw) (hi : i < l.length) (hy : l[i]? = some r) (hs : l.length ≤ 1000) (hl : x.length ≤ 1000) (hg : goodW r.lev r.win = true) (hv : r.lev = 1) (hb : behC ((r.win + 1) * lenW r.lev) sec (hz 1) = true)  : CodeC Try.prog 0 55 xeB (xeS l sec hz x i) .normal (xeS l sec hz x (i + 1)) := by
  exact CodeC.cast (by
    first
      | rfl) (xeG1_0 l sec hz x i r hi hy hs hl hg hv hb )

theorem xeK1_0 (l : List Rw) (sec : Int) (hz : Nat → Int) (x : List Rw) (i : Nat) (r : Rw) (hi : i < l.length) (hy : l[i]? = some r) (hs : l.length ≤ 1000) (hl : x.length ≤ 1000) (hg : goodW r.lev r.win = true) (hv : r.lev = 1) (hb : behC ((r.win + 1) * lenW r.lev) sec (hz 1) = false) : CodeC Try.prog 0 55 xeB (xeS l sec hz x i) (Ex.normal) ({ env := [((0 : Nat), V.sl (14 : Nat) (List.map Rw.row l)), ((1 : Nat), I sec), ((5 : Nat), V.ptr (900 : Nat) (0 : Nat) (0 : Nat) (0 : Nat)), ((7 : Nat), V.own (901 : Nat)), ((8 : Nat), I (Int.ofNat (i + (1 : Nat))))], st := [((900 : Nat), Obj.box [I (hz (0 : Nat)), I (hz (1 : Nat)), I (hz (2 : Nat))]), ((901 : Nat), Obj.arr (14 : Nat) (List.map Rw.row (x ++ [r])))], ids := [(900 : Nat), (901 : Nat)] }) :=
  runP hmix [.reg 3 [(3, [], some true)], .reg 5 [(4, [.row (Rw.row r)], none), (9, [.row (Rw.row r)], none), (10, [.call [] [] (.tup [I (r.win * lenW r.lev), I ((r.win + 1) * lenW r.lev), Bo true]) []], none)], .reg 6 [(8, [.row (Rw.row r)], none), (9, [.idx 1], none), (13, [], some true)], .reg 7 [(4, [.row (Rw.row r)], none), (6, [.beO ((x ++ [r]).map Rw.row)], none)], .reg 4 [(1, [.be (I ((i + 1 : Nat) : Int))], none)], .tab [(39, FBeh)]] ⟨[0, 1, 5, 7, 8], [(900, 900), (1407000, 901)], []⟩ [
      decide (Int.ofNat i < Int.ofNat (List.length (List.map Rw.row l))) = true,
      (0 : Int) ≤ Int.ofNat i,
      Int.ofNat i < Int.ofNat (List.length (List.map Rw.row l)),
      (List.map Rw.row l)[i]? = some (Rw.row r),
      (0 : Int) ≤ Int.ofNat i,
      Int.ofNat i < Int.ofNat (List.length (List.map Rw.row l)),
      (List.map Rw.row l)[i]? = some (Rw.row r),
      Contract Try.prog (25 : Nat) [I (Rw.lev r), I (Rw.win r)] [] (V.tup [I (Rw.win r * lenW (Rw.lev r)), I ((Rw.win r + (1 : Int)) * lenW (Rw.lev r)), Bo true]) [],
      (0 : Int) ≤ Int.ofNat i,
      Int.ofNat i < Int.ofNat (List.length (List.map Rw.row l)),
      (List.map Rw.row l)[i]? = some (Rw.row r),
      Rw.lev r = (1 : Int),
      Contract Try.prog (39 : Nat) [I ((Rw.win r + (1 : Int)) * lenW (Rw.lev r)), I sec, I (hz (1 : Nat))] [] (Bo (behC ((Rw.win r + (1 : Int)) * lenW (Rw.lev r)) sec (hz (1 : Nat)))) [],
      (!behC ((Rw.win r + (1 : Int)) * lenW (Rw.lev r)) sec (hz (1 : Nat))) = true,
      (0 : Int) ≤ Int.ofNat i,
      Int.ofNat i < Int.ofNat (List.length (List.map Rw.row l)),
      (List.map Rw.row l)[i]? = some (Rw.row r),
      (List.length (List.map Rw.row x) + (1 : Nat)) * (128 : Nat) ≤ (140737488355328 : Nat),
      List.map Rw.row x ++ [[I (Rw.lev r), I (Rw.win r), Sg (Rw.svc r), Sg (Rw.op r), I (Rw.c r (0 : Nat)), I (Rw.c r (1 : Nat)), I (Rw.c r (2 : Nat)), I (Rw.c r (3 : Nat)), I (Rw.c r (4 : Nat)), I (Rw.c r (5 : Nat)), I (Rw.c r (6 : Nat)), I (Rw.c r (7 : Nat)), I (Rw.c r (8 : Nat)), I (Rw.c r (9 : Nat))]] = List.map Rw.row (x ++ [r]),
      IntKind.wrap IntKind.i64 (Int.ofNat (i + (1 : Nat))) = Int.ofNat (i + (1 : Nat))] (by kernel_rfl)
    (by
      simp only [allP]
      and_intros <;> first
        | omega
        | (simp; omega)
        | (simp [hy]; done)
        | (have h := cSpanR r.lev r.win; unfold spanV at h; rw [hg] at h; exact h)
        | exact cBeh _ _ _
        | (simp [Rw.row]; done)
        | exact i64_small (by simp; omega))

theorem xeK1 (l : List Rw) (sec : Int) (hz : Nat → Int) (x : List Rw) (i : Nat) (r : Rw) (hi : i < l.length) (hy : l[i]? = some r) (hs : l.length ≤ 1000) (hl : x.length ≤ 1000) (hg : goodW r.lev r.win = true) (hv : r.lev = 1) (hb : behC ((r.win + 1) * lenW r.lev) sec (hz 1) = false)  : CodeC Try.prog 0 55 xeB (xeS l sec hz x i) .normal (xeS l sec hz (x ++ [r]) (i + 1)) := by
  exact CodeC.cast (by
    first
      | rfl) (xeK1_0 l sec hz x i r hi hy hs hl hg hv hb )

theorem xeG2_0 (l : List Rw) (sec : Int) (hz : Nat → Int) (x : List Rw) (i : Nat) (r : Rw) (hi : i < l.length) (hy : l[i]? = some r) (hs : l.length ≤ 1000) (hl : x.length ≤ 1000) (hg : goodW r.lev r.win = true) (hv : r.lev = 2) (hb : behC ((r.win + 1) * lenW r.lev) sec (hz 2) = true) : CodeC Try.prog 0 55 xeB (xeS l sec hz x i) (Ex.normal) ({ env := [((0 : Nat), V.sl (14 : Nat) (List.map Rw.row l)), ((1 : Nat), I sec), ((5 : Nat), V.ptr (900 : Nat) (0 : Nat) (0 : Nat) (0 : Nat)), ((7 : Nat), V.own (901 : Nat)), ((8 : Nat), I (Int.ofNat (i + (1 : Nat))))], st := [((900 : Nat), Obj.box [I (hz (0 : Nat)), I (hz (1 : Nat)), I (hz (2 : Nat))]), ((901 : Nat), Obj.arr (14 : Nat) (List.map Rw.row x))], ids := [(900 : Nat), (901 : Nat)] }) :=
  runP hmix [.reg 3 [(3, [], some true)], .reg 5 [(4, [.row (Rw.row r)], none), (9, [.row (Rw.row r)], none), (10, [.call [] [] (.tup [I (r.win * lenW r.lev), I ((r.win + 1) * lenW r.lev), Bo true]) []], none)], .reg 6 [(8, [.row (Rw.row r)], none), (9, [.idx 2], none), (13, [], some false)], .reg 4 [(1, [.be (I ((i + 1 : Nat) : Int))], none)], .tab [(39, FBeh)]] ⟨[0, 1, 5, 7, 8], [(900, 900), (901, 901)], []⟩ [
      decide (Int.ofNat i < Int.ofNat (List.length (List.map Rw.row l))) = true,
      (0 : Int) ≤ Int.ofNat i,
      Int.ofNat i < Int.ofNat (List.length (List.map Rw.row l)),
      (List.map Rw.row l)[i]? = some (Rw.row r),
      (0 : Int) ≤ Int.ofNat i,
      Int.ofNat i < Int.ofNat (List.length (List.map Rw.row l)),
      (List.map Rw.row l)[i]? = some (Rw.row r),
      Contract Try.prog (25 : Nat) [I (Rw.lev r), I (Rw.win r)] [] (V.tup [I (Rw.win r * lenW (Rw.lev r)), I ((Rw.win r + (1 : Int)) * lenW (Rw.lev r)), Bo true]) [],
      (0 : Int) ≤ Int.ofNat i,
      Int.ofNat i < Int.ofNat (List.length (List.map Rw.row l)),
      (List.map Rw.row l)[i]? = some (Rw.row r),
      Rw.lev r = (2 : Int),
      Contract Try.prog (39 : Nat) [I ((Rw.win r + (1 : Int)) * lenW (Rw.lev r)), I sec, I (hz (2 : Nat))] [] (Bo (behC ((Rw.win r + (1 : Int)) * lenW (Rw.lev r)) sec (hz (2 : Nat)))) [],
      (!behC ((Rw.win r + (1 : Int)) * lenW (Rw.lev r)) sec (hz (2 : Nat))) = false,
      IntKind.wrap IntKind.i64 (Int.ofNat (i + (1 : Nat))) = Int.ofNat (i + (1 : Nat))] (by kernel_rfl)
    (by
      simp only [allP]
      and_intros <;> first
        | omega
        | (simp; omega)
        | (simp [hy]; done)
        | (have h := cSpanR r.lev r.win; unfold spanV at h; rw [hg] at h; exact h)
        | exact cBeh _ _ _
        | exact i64_small (by simp; omega))

theorem xeG2 (l : List Rw) (sec : Int) (hz : Nat → Int) (x : List Rw) (i : Nat) (r : Rw) (hi : i < l.length) (hy : l[i]? = some r) (hs : l.length ≤ 1000) (hl : x.length ≤ 1000) (hg : goodW r.lev r.win = true) (hv : r.lev = 2) (hb : behC ((r.win + 1) * lenW r.lev) sec (hz 2) = true)  : CodeC Try.prog 0 55 xeB (xeS l sec hz x i) .normal (xeS l sec hz x (i + 1)) := by
  exact CodeC.cast (by
    first
      | rfl) (xeG2_0 l sec hz x i r hi hy hs hl hg hv hb )

theorem xeK2_0 (l : List Rw) (sec : Int) (hz : Nat → Int) (x : List Rw) (i : Nat) (r : Rw) (hi : i < l.length) (hy : l[i]? = some r) (hs : l.length ≤ 1000) (hl : x.length ≤ 1000) (hg : goodW r.lev r.win = true) (hv : r.lev = 2) (hb : behC ((r.win + 1) * lenW r.lev) sec (hz 2) = false) : CodeC Try.prog 0 55 xeB (xeS l sec hz x i) (Ex.normal) ({ env := [((0 : Nat), V.sl (14 : Nat) (List.map Rw.row l)), ((1 : Nat), I sec), ((5 : Nat), V.ptr (900 : Nat) (0 : Nat) (0 : Nat) (0 : Nat)), ((7 : Nat), V.own (901 : Nat)), ((8 : Nat), I (Int.ofNat (i + (1 : Nat))))], st := [((900 : Nat), Obj.box [I (hz (0 : Nat)), I (hz (1 : Nat)), I (hz (2 : Nat))]), ((901 : Nat), Obj.arr (14 : Nat) (List.map Rw.row (x ++ [r])))], ids := [(900 : Nat), (901 : Nat)] }) :=
  runP hmix [.reg 3 [(3, [], some true)], .reg 5 [(4, [.row (Rw.row r)], none), (9, [.row (Rw.row r)], none), (10, [.call [] [] (.tup [I (r.win * lenW r.lev), I ((r.win + 1) * lenW r.lev), Bo true]) []], none)], .reg 6 [(8, [.row (Rw.row r)], none), (9, [.idx 2], none), (13, [], some true)], .reg 7 [(4, [.row (Rw.row r)], none), (6, [.beO ((x ++ [r]).map Rw.row)], none)], .reg 4 [(1, [.be (I ((i + 1 : Nat) : Int))], none)], .tab [(39, FBeh)]] ⟨[0, 1, 5, 7, 8], [(900, 900), (1407000, 901)], []⟩ [
      decide (Int.ofNat i < Int.ofNat (List.length (List.map Rw.row l))) = true,
      (0 : Int) ≤ Int.ofNat i,
      Int.ofNat i < Int.ofNat (List.length (List.map Rw.row l)),
      (List.map Rw.row l)[i]? = some (Rw.row r),
      (0 : Int) ≤ Int.ofNat i,
      Int.ofNat i < Int.ofNat (List.length (List.map Rw.row l)),
      (List.map Rw.row l)[i]? = some (Rw.row r),
      Contract Try.prog (25 : Nat) [I (Rw.lev r), I (Rw.win r)] [] (V.tup [I (Rw.win r * lenW (Rw.lev r)), I ((Rw.win r + (1 : Int)) * lenW (Rw.lev r)), Bo true]) [],
      (0 : Int) ≤ Int.ofNat i,
      Int.ofNat i < Int.ofNat (List.length (List.map Rw.row l)),
      (List.map Rw.row l)[i]? = some (Rw.row r),
      Rw.lev r = (2 : Int),
      Contract Try.prog (39 : Nat) [I ((Rw.win r + (1 : Int)) * lenW (Rw.lev r)), I sec, I (hz (2 : Nat))] [] (Bo (behC ((Rw.win r + (1 : Int)) * lenW (Rw.lev r)) sec (hz (2 : Nat)))) [],
      (!behC ((Rw.win r + (1 : Int)) * lenW (Rw.lev r)) sec (hz (2 : Nat))) = true,
      (0 : Int) ≤ Int.ofNat i,
      Int.ofNat i < Int.ofNat (List.length (List.map Rw.row l)),
      (List.map Rw.row l)[i]? = some (Rw.row r),
      (List.length (List.map Rw.row x) + (1 : Nat)) * (128 : Nat) ≤ (140737488355328 : Nat),
      List.map Rw.row x ++ [[I (Rw.lev r), I (Rw.win r), Sg (Rw.svc r), Sg (Rw.op r), I (Rw.c r (0 : Nat)), I (Rw.c r (1 : Nat)), I (Rw.c r (2 : Nat)), I (Rw.c r (3 : Nat)), I (Rw.c r (4 : Nat)), I (Rw.c r (5 : Nat)), I (Rw.c r (6 : Nat)), I (Rw.c r (7 : Nat)), I (Rw.c r (8 : Nat)), I (Rw.c r (9 : Nat))]] = List.map Rw.row (x ++ [r]),
      IntKind.wrap IntKind.i64 (Int.ofNat (i + (1 : Nat))) = Int.ofNat (i + (1 : Nat))] (by kernel_rfl)
    (by
      simp only [allP]
      and_intros <;> first
        | omega
        | (simp; omega)
        | (simp [hy]; done)
        | (have h := cSpanR r.lev r.win; unfold spanV at h; rw [hg] at h; exact h)
        | exact cBeh _ _ _
        | (simp [Rw.row]; done)
        | exact i64_small (by simp; omega))

theorem xeK2 (l : List Rw) (sec : Int) (hz : Nat → Int) (x : List Rw) (i : Nat) (r : Rw) (hi : i < l.length) (hy : l[i]? = some r) (hs : l.length ≤ 1000) (hl : x.length ≤ 1000) (hg : goodW r.lev r.win = true) (hv : r.lev = 2) (hb : behC ((r.win + 1) * lenW r.lev) sec (hz 2) = false)  : CodeC Try.prog 0 55 xeB (xeS l sec hz x i) .normal (xeS l sec hz (x ++ [r]) (i + 1)) := by
  exact CodeC.cast (by
    first
      | rfl) (xeK2_0 l sec hz x i r hi hy hs hl hg hv hb )

theorem xeN_0 (l : List Rw) (sec : Int) (hz : Nat → Int) (x : List Rw) (i : Nat) (r : Rw) (hi : i < l.length) (hy : l[i]? = some r) (hs : l.length ≤ 1000) (hl : x.length ≤ 1000) (hg : goodW r.lev r.win = false) : CodeC Try.prog 0 55 xeB (xeS l sec hz x i) (Ex.normal) ({ env := [((0 : Nat), V.sl (14 : Nat) (List.map Rw.row l)), ((1 : Nat), I sec), ((5 : Nat), V.ptr (900 : Nat) (0 : Nat) (0 : Nat) (0 : Nat)), ((7 : Nat), V.own (901 : Nat)), ((8 : Nat), I (Int.ofNat (i + (1 : Nat))))], st := [((900 : Nat), Obj.box [I (hz (0 : Nat)), I (hz (1 : Nat)), I (hz (2 : Nat))]), ((901 : Nat), Obj.arr (14 : Nat) (List.map Rw.row x))], ids := [(900 : Nat), (901 : Nat)] }) :=
  runP hmix [.reg 3 [(3, [], some true)], .reg 5 [(4, [.row (Rw.row r)], none), (9, [.row (Rw.row r)], none), (10, [.call [] [] (.tup [I 0, I 0, Bo false]) []], none)], .reg 4 [(1, [.be (I ((i + 1 : Nat) : Int))], none)]] ⟨[0, 1, 5, 7, 8], [(900, 900), (901, 901)], []⟩ [
      decide (Int.ofNat i < Int.ofNat (List.length (List.map Rw.row l))) = true,
      (0 : Int) ≤ Int.ofNat i,
      Int.ofNat i < Int.ofNat (List.length (List.map Rw.row l)),
      (List.map Rw.row l)[i]? = some (Rw.row r),
      (0 : Int) ≤ Int.ofNat i,
      Int.ofNat i < Int.ofNat (List.length (List.map Rw.row l)),
      (List.map Rw.row l)[i]? = some (Rw.row r),
      Contract Try.prog (25 : Nat) [I (Rw.lev r), I (Rw.win r)] [] (V.tup [I (0 : Int), I (0 : Int), Bo false]) [],
      IntKind.wrap IntKind.i64 (Int.ofNat (i + (1 : Nat))) = Int.ofNat (i + (1 : Nat))] (by kernel_rfl)
    (by
      simp only [allP]
      and_intros <;> first
        | (simp; omega)
        | (simp [hy]; done)
        | (have h := cSpanR r.lev r.win; unfold spanV at h; rw [hg] at h; exact h)
        | exact i64_small (by simp; omega))

theorem xeN (l : List Rw) (sec : Int) (hz : Nat → Int) (x : List Rw) (i : Nat) (r : Rw) (hi : i < l.length) (hy : l[i]? = some r) (hs : l.length ≤ 1000) (hl : x.length ≤ 1000) (hg : goodW r.lev r.win = false)  : CodeC Try.prog 0 55 xeB (xeS l sec hz x i) .normal (xeS l sec hz x (i + 1)) := by
  exact CodeC.cast (by
    first
      | rfl) (xeN_0 l sec hz x i r hi hy hs hl hg )

theorem xeE_0 (l : List Rw) (sec : Int) (hz : Nat → Int) (x : List Rw) (i : Nat) (h : l.length ≤ i) : CodeC Try.prog 0 55 xeB (xeS l sec hz x i) (Ex.exit (0 : Nat)) ({ env := [((0 : Nat), V.sl (14 : Nat) (List.map Rw.row l)), ((1 : Nat), I sec), ((5 : Nat), V.ptr (900 : Nat) (0 : Nat) (0 : Nat) (0 : Nat)), ((7 : Nat), V.own (901 : Nat)), ((8 : Nat), I (Int.ofNat i))], st := [((900 : Nat), Obj.box [I (hz (0 : Nat)), I (hz (1 : Nat)), I (hz (2 : Nat))]), ((901 : Nat), Obj.arr (14 : Nat) (List.map Rw.row x))], ids := [(900 : Nat), (901 : Nat)] }) :=
  runP hmix [.reg 3 [(3, [], some false)]] ⟨[0, 1, 5, 7, 8], [(900, 900), (901, 901)], []⟩ [
      decide (Int.ofNat i < Int.ofNat (List.length (List.map Rw.row l))) = false] (by kernel_rfl)
    (by
      simp only [allP]
      and_intros <;> first
        | (simp; omega))

theorem xeE (l : List Rw) (sec : Int) (hz : Nat → Int) (x : List Rw) (i : Nat) (h : l.length ≤ i)  : CodeC Try.prog 0 55 xeB (xeS l sec hz x i) (.exit 0) (xeS l sec hz x i) := by
  exact CodeC.cast (by
    first
      | rfl) (xeE_0 l sec hz x i h )

theorem expR0_0 (l x : List Rw) (sec : Int) (hz : Nat → Int) (hl : LoopC Try.prog 0 55 xeB (xeS l sec hz [] 0) (.exit 0) (xeS l sec hz x l.length)) : Contract Try.prog 22 [.sl 14 (l.map Rw.row), I sec, .agg (h3 hz)] [] (V.own (0 : Nat)) ([some (Obj.arr (14 : Nat) (List.map Rw.row x))]) :=
  vcP hmix [.cut ⟨[0, 1, 5, 7, 8], [(1000, 900)], [.slot 7 901 14]⟩ (.exit 0) (xeS l sec hz x l.length)] [901] [
      LoopC Try.prog (0 : Nat) (55 : Nat) xeB { env := [((0 : Nat), V.sl (14 : Nat) (List.map Rw.row l)), ((1 : Nat), I sec), ((5 : Nat), V.ptr (900 : Nat) (0 : Nat) (0 : Nat) (0 : Nat)), ((7 : Nat), V.own (901 : Nat)), ((8 : Nat), I (0 : Int))], st := [((900 : Nat), Obj.box [I (hz (0 : Nat)), I (hz (1 : Nat)), I (hz (2 : Nat))]), ((901 : Nat), Obj.arr (14 : Nat) [])], ids := [(900 : Nat), (901 : Nat)] } (Ex.exit (0 : Nat)) { env := [((0 : Nat), V.sl (14 : Nat) (List.map Rw.row l)), ((1 : Nat), I sec), ((5 : Nat), V.ptr (900 : Nat) (0 : Nat) (0 : Nat) (0 : Nat)), ((7 : Nat), V.own (901 : Nat)), ((8 : Nat), I (Int.ofNat (List.length l)))], st := [((900 : Nat), Obj.box [I (hz (0 : Nat)), I (hz (1 : Nat)), I (hz (2 : Nat))]), ((901 : Nat), Obj.arr (14 : Nat) (List.map Rw.row x))], ids := [(900 : Nat), (901 : Nat)] }] (by kernel_rfl)
    (by
      simp only [allP]
      and_intros <;> first
        | exact hl)

theorem expR0 (l x : List Rw) (sec : Int) (hz : Nat → Int) (hl : LoopC Try.prog 0 55 xeB (xeS l sec hz [] 0) (.exit 0) (xeS l sec hz x l.length)) : Contract Try.prog 22 [.sl 14 (l.map Rw.row), I sec, .agg (h3 hz)] [] (.own 0) [some (.arr 14 (x.map Rw.row))] := by
  exact Contract.cast (by
    first
      | rfl) (by
    first
      | rfl) (expR0_0 l x sec hz hl )

theorem xfA_0 (l : List Rw) (svc op : ByteArray) (lev : Int) (x : List Rw) (r : Rw) (i : Nat) (h : i < l.length) (hx : l[i]? = some r) (hs : l.length ≤ 1000000) (hl : x.length ≤ 1000000) (e0 : (r.svc.toList == svc.toList) = true) (e1 : (r.op.toList == op.toList) = true) (e2 : (decide (r.lev = lev)) = true) : CodeC Try.prog 0 50 xfB (xfS l svc op lev x i) (Ex.normal) ({ env := [((0 : Nat), V.sl (14 : Nat) (List.map Rw.row l)), ((1 : Nat), Sg svc), ((2 : Nat), Sg op), ((3 : Nat), I lev), ((9 : Nat), V.own (900 : Nat)), ((10 : Nat), I (Int.ofNat (i + (1 : Nat))))], st := [((900 : Nat), Obj.arr (14 : Nat) (List.map Rw.row (x ++ [r])))], ids := [(900 : Nat)] }) :=
  runP hmix [.reg 3 [(3, [], some true)], .reg 5 [(4, [.row (Rw.row r)], none), (7, [], some true), (12, [.row (Rw.row r)], none), (16, [], some true), (21, [.row (Rw.row r)], none), (24, [], some true)], .reg 6 [(4, [.row (Rw.row r)], none), (6, [.beO ((x ++ [r]).map Rw.row)], none)], .reg 4 [(1, [.be (I ((i + 1 : Nat) : Int))], none)]] ⟨[0, 1, 2, 3, 9, 10], [(1207000, 900)], []⟩ [
      decide (Int.ofNat i < Int.ofNat (List.length (List.map Rw.row l))) = true,
      (0 : Int) ≤ Int.ofNat i,
      Int.ofNat i < Int.ofNat (List.length (List.map Rw.row l)),
      (List.map Rw.row l)[i]? = some (Rw.row r),
      (ByteArray.toList (Rw.svc r) == ByteArray.toList svc) = true,
      (0 : Int) ≤ Int.ofNat i,
      Int.ofNat i < Int.ofNat (List.length (List.map Rw.row l)),
      (List.map Rw.row l)[i]? = some (Rw.row r),
      (ByteArray.toList (Rw.op r) == ByteArray.toList op) = true,
      (0 : Int) ≤ Int.ofNat i,
      Int.ofNat i < Int.ofNat (List.length (List.map Rw.row l)),
      (List.map Rw.row l)[i]? = some (Rw.row r),
      (Rw.lev r == lev) = true,
      (0 : Int) ≤ Int.ofNat i,
      Int.ofNat i < Int.ofNat (List.length (List.map Rw.row l)),
      (List.map Rw.row l)[i]? = some (Rw.row r),
      (List.length (List.map Rw.row x) + (1 : Nat)) * (128 : Nat) ≤ (140737488355328 : Nat),
      List.map Rw.row x ++ [[I (Rw.lev r), I (Rw.win r), Sg (Rw.svc r), Sg (Rw.op r), I (Rw.c r (0 : Nat)), I (Rw.c r (1 : Nat)), I (Rw.c r (2 : Nat)), I (Rw.c r (3 : Nat)), I (Rw.c r (4 : Nat)), I (Rw.c r (5 : Nat)), I (Rw.c r (6 : Nat)), I (Rw.c r (7 : Nat)), I (Rw.c r (8 : Nat)), I (Rw.c r (9 : Nat))]] = List.map Rw.row (x ++ [r]),
      IntKind.wrap IntKind.i64 (Int.ofNat (i + (1 : Nat))) = Int.ofNat (i + (1 : Nat))] (by kernel_rfl)
    (by
      simp only [allP]
      and_intros <;> first
        | omega
        | (simp; omega)
        | (simp [hx]; done)
        | exact i64_small (by simp; omega)
        | (simp [Rw.row]; done))

theorem xfA (l : List Rw) (svc op : ByteArray) (lev : Int) (x : List Rw) (r : Rw) (i : Nat) (h : i < l.length) (hx : l[i]? = some r) (hs : l.length ≤ 1000000) (hl : x.length ≤ 1000000) (e0 : (r.svc.toList == svc.toList) = true) (e1 : (r.op.toList == op.toList) = true) (e2 : (decide (r.lev = lev)) = true)  : CodeC Try.prog 0 50 xfB (xfS l svc op lev x i) .normal (xfS l svc op lev (x ++ [r]) (i + 1)) := by
  exact CodeC.cast (by
    first
      | rfl) (xfA_0 l svc op lev x r i h hx hs hl e0 e1 e2 )

theorem xfX_0 (l : List Rw) (svc op : ByteArray) (lev : Int) (x : List Rw) (r : Rw) (i : Nat) (h : i < l.length) (hx : l[i]? = some r) (hs : l.length ≤ 1000000) (hl : x.length ≤ 1000000) (e0 : (r.svc.toList == svc.toList) = false) : CodeC Try.prog 0 50 xfB (xfS l svc op lev x i) (Ex.normal) ({ env := [((0 : Nat), V.sl (14 : Nat) (List.map Rw.row l)), ((1 : Nat), Sg svc), ((2 : Nat), Sg op), ((3 : Nat), I lev), ((9 : Nat), V.own (900 : Nat)), ((10 : Nat), I (Int.ofNat (i + (1 : Nat))))], st := [((900 : Nat), Obj.arr (14 : Nat) (List.map Rw.row x))], ids := [(900 : Nat)] }) :=
  runP hmix [.reg 3 [(3, [], some true)], .reg 5 [(4, [.row (Rw.row r)], none), (7, [], some false)], .reg 4 [(1, [.be (I ((i + 1 : Nat) : Int))], none)]] ⟨[0, 1, 2, 3, 9, 10], [(900, 900)], []⟩ [
      decide (Int.ofNat i < Int.ofNat (List.length (List.map Rw.row l))) = true,
      (0 : Int) ≤ Int.ofNat i,
      Int.ofNat i < Int.ofNat (List.length (List.map Rw.row l)),
      (List.map Rw.row l)[i]? = some (Rw.row r),
      (ByteArray.toList (Rw.svc r) == ByteArray.toList svc) = false,
      IntKind.wrap IntKind.i64 (Int.ofNat (i + (1 : Nat))) = Int.ofNat (i + (1 : Nat))] (by kernel_rfl)
    (by
      simp only [allP]
      and_intros <;> first
        | omega
        | (simp; omega)
        | (simp [hx]; done)
        | exact i64_small (by simp; omega))

theorem xfX (l : List Rw) (svc op : ByteArray) (lev : Int) (x : List Rw) (r : Rw) (i : Nat) (h : i < l.length) (hx : l[i]? = some r) (hs : l.length ≤ 1000000) (hl : x.length ≤ 1000000) (e0 : (r.svc.toList == svc.toList) = false)  : CodeC Try.prog 0 50 xfB (xfS l svc op lev x i) .normal (xfS l svc op lev x (i + 1)) := by
  exact CodeC.cast (by
    first
      | rfl) (xfX_0 l svc op lev x r i h hx hs hl e0 )

theorem xfC_0 (l : List Rw) (svc op : ByteArray) (lev : Int) (x : List Rw) (r : Rw) (i : Nat) (h : i < l.length) (hx : l[i]? = some r) (hs : l.length ≤ 1000000) (hl : x.length ≤ 1000000) (e0 : (r.svc.toList == svc.toList) = true) (e1 : (r.op.toList == op.toList) = false) : CodeC Try.prog 0 50 xfB (xfS l svc op lev x i) (Ex.normal) ({ env := [((0 : Nat), V.sl (14 : Nat) (List.map Rw.row l)), ((1 : Nat), Sg svc), ((2 : Nat), Sg op), ((3 : Nat), I lev), ((9 : Nat), V.own (900 : Nat)), ((10 : Nat), I (Int.ofNat (i + (1 : Nat))))], st := [((900 : Nat), Obj.arr (14 : Nat) (List.map Rw.row x))], ids := [(900 : Nat)] }) :=
  runP hmix [.reg 3 [(3, [], some true)], .reg 5 [(4, [.row (Rw.row r)], none), (7, [], some true), (12, [.row (Rw.row r)], none), (16, [], some false)], .reg 4 [(1, [.be (I ((i + 1 : Nat) : Int))], none)]] ⟨[0, 1, 2, 3, 9, 10], [(900, 900)], []⟩ [
      decide (Int.ofNat i < Int.ofNat (List.length (List.map Rw.row l))) = true,
      (0 : Int) ≤ Int.ofNat i,
      Int.ofNat i < Int.ofNat (List.length (List.map Rw.row l)),
      (List.map Rw.row l)[i]? = some (Rw.row r),
      (ByteArray.toList (Rw.svc r) == ByteArray.toList svc) = true,
      (0 : Int) ≤ Int.ofNat i,
      Int.ofNat i < Int.ofNat (List.length (List.map Rw.row l)),
      (List.map Rw.row l)[i]? = some (Rw.row r),
      (ByteArray.toList (Rw.op r) == ByteArray.toList op) = false,
      IntKind.wrap IntKind.i64 (Int.ofNat (i + (1 : Nat))) = Int.ofNat (i + (1 : Nat))] (by kernel_rfl)
    (by
      simp only [allP]
      and_intros <;> first
        | omega
        | (simp; omega)
        | (simp [hx]; done)
        | exact i64_small (by simp; omega))

theorem xfC (l : List Rw) (svc op : ByteArray) (lev : Int) (x : List Rw) (r : Rw) (i : Nat) (h : i < l.length) (hx : l[i]? = some r) (hs : l.length ≤ 1000000) (hl : x.length ≤ 1000000) (e0 : (r.svc.toList == svc.toList) = true) (e1 : (r.op.toList == op.toList) = false)  : CodeC Try.prog 0 50 xfB (xfS l svc op lev x i) .normal (xfS l svc op lev x (i + 1)) := by
  exact CodeC.cast (by
    first
      | rfl) (xfC_0 l svc op lev x r i h hx hs hl e0 e1 )

theorem xfD_0 (l : List Rw) (svc op : ByteArray) (lev : Int) (x : List Rw) (r : Rw) (i : Nat) (h : i < l.length) (hx : l[i]? = some r) (hs : l.length ≤ 1000000) (hl : x.length ≤ 1000000) (e0 : (r.svc.toList == svc.toList) = true) (e1 : (r.op.toList == op.toList) = true) (e2 : (decide (r.lev = lev)) = false) : CodeC Try.prog 0 50 xfB (xfS l svc op lev x i) (Ex.normal) ({ env := [((0 : Nat), V.sl (14 : Nat) (List.map Rw.row l)), ((1 : Nat), Sg svc), ((2 : Nat), Sg op), ((3 : Nat), I lev), ((9 : Nat), V.own (900 : Nat)), ((10 : Nat), I (Int.ofNat (i + (1 : Nat))))], st := [((900 : Nat), Obj.arr (14 : Nat) (List.map Rw.row x))], ids := [(900 : Nat)] }) :=
  runP hmix [.reg 3 [(3, [], some true)], .reg 5 [(4, [.row (Rw.row r)], none), (7, [], some true), (12, [.row (Rw.row r)], none), (16, [], some true), (21, [.row (Rw.row r)], none), (24, [], some false)], .reg 4 [(1, [.be (I ((i + 1 : Nat) : Int))], none)]] ⟨[0, 1, 2, 3, 9, 10], [(900, 900)], []⟩ [
      decide (Int.ofNat i < Int.ofNat (List.length (List.map Rw.row l))) = true,
      (0 : Int) ≤ Int.ofNat i,
      Int.ofNat i < Int.ofNat (List.length (List.map Rw.row l)),
      (List.map Rw.row l)[i]? = some (Rw.row r),
      (ByteArray.toList (Rw.svc r) == ByteArray.toList svc) = true,
      (0 : Int) ≤ Int.ofNat i,
      Int.ofNat i < Int.ofNat (List.length (List.map Rw.row l)),
      (List.map Rw.row l)[i]? = some (Rw.row r),
      (ByteArray.toList (Rw.op r) == ByteArray.toList op) = true,
      (0 : Int) ≤ Int.ofNat i,
      Int.ofNat i < Int.ofNat (List.length (List.map Rw.row l)),
      (List.map Rw.row l)[i]? = some (Rw.row r),
      (Rw.lev r == lev) = false,
      IntKind.wrap IntKind.i64 (Int.ofNat (i + (1 : Nat))) = Int.ofNat (i + (1 : Nat))] (by kernel_rfl)
    (by
      simp only [allP]
      and_intros <;> first
        | omega
        | (simp; omega)
        | (simp [hx]; done)
        | exact i64_small (by simp; omega))

theorem xfD (l : List Rw) (svc op : ByteArray) (lev : Int) (x : List Rw) (r : Rw) (i : Nat) (h : i < l.length) (hx : l[i]? = some r) (hs : l.length ≤ 1000000) (hl : x.length ≤ 1000000) (e0 : (r.svc.toList == svc.toList) = true) (e1 : (r.op.toList == op.toList) = true) (e2 : (decide (r.lev = lev)) = false)  : CodeC Try.prog 0 50 xfB (xfS l svc op lev x i) .normal (xfS l svc op lev x (i + 1)) := by
  exact CodeC.cast (by
    first
      | rfl) (xfD_0 l svc op lev x r i h hx hs hl e0 e1 e2 )

theorem xfE_0 (l : List Rw) (svc op : ByteArray) (lev : Int) (x : List Rw) (i : Nat) (h : l.length ≤ i) : CodeC Try.prog 0 50 xfB (xfS l svc op lev x i) (Ex.exit (0 : Nat)) ({ env := [((0 : Nat), V.sl (14 : Nat) (List.map Rw.row l)), ((1 : Nat), Sg svc), ((2 : Nat), Sg op), ((3 : Nat), I lev), ((9 : Nat), V.own (900 : Nat)), ((10 : Nat), I (Int.ofNat i))], st := [((900 : Nat), Obj.arr (14 : Nat) (List.map Rw.row x))], ids := [(900 : Nat)] }) :=
  runP hmix [.reg 3 [(3, [], some false)]] ⟨[0, 1, 2, 3, 9, 10], [(900, 900)], []⟩ [
      decide (Int.ofNat i < Int.ofNat (List.length (List.map Rw.row l))) = false] (by kernel_rfl)
    (by
      simp only [allP]
      and_intros <;> first
        | (simp; omega))

theorem xfE (l : List Rw) (svc op : ByteArray) (lev : Int) (x : List Rw) (i : Nat) (h : l.length ≤ i)  : CodeC Try.prog 0 50 xfB (xfS l svc op lev x i) (.exit 0) (xfS l svc op lev x i) := by
  exact CodeC.cast (by
    first
      | rfl) (xfE_0 l svc op lev x i h )

theorem findR0_0 (l x : List Rw) (svc op : ByteArray) (lev : Int) (hl : LoopC Try.prog 0 50 xfB (xfS l svc op lev [] 0) (.exit 0) (xfS l svc op lev x l.length)) : Contract Try.prog 24 [.sl 14 (l.map Rw.row), Sg svc, Sg op, I lev] [] (V.own (0 : Nat)) ([some (Obj.arr (14 : Nat) (List.map Rw.row x))]) :=
  vcP hmix [.cut ⟨[0, 1, 2, 3, 9, 10], [], [.slot 9 900 14]⟩ (.exit 0) (xfS l svc op lev x l.length)] [900] [
      LoopC Try.prog (0 : Nat) (50 : Nat) xfB { env := [((0 : Nat), V.sl (14 : Nat) (List.map Rw.row l)), ((1 : Nat), Sg svc), ((2 : Nat), Sg op), ((3 : Nat), I lev), ((9 : Nat), V.own (900 : Nat)), ((10 : Nat), I (0 : Int))], st := [((900 : Nat), Obj.arr (14 : Nat) [])], ids := [(900 : Nat)] } (Ex.exit (0 : Nat)) { env := [((0 : Nat), V.sl (14 : Nat) (List.map Rw.row l)), ((1 : Nat), Sg svc), ((2 : Nat), Sg op), ((3 : Nat), I lev), ((9 : Nat), V.own (900 : Nat)), ((10 : Nat), I (Int.ofNat (List.length l)))], st := [((900 : Nat), Obj.arr (14 : Nat) (List.map Rw.row x))], ids := [(900 : Nat)] }] (by kernel_rfl)
    (by
      simp only [allP]
      and_intros <;> first
        | exact hl)

theorem findR0 (l x : List Rw) (svc op : ByteArray) (lev : Int) (hl : LoopC Try.prog 0 50 xfB (xfS l svc op lev [] 0) (.exit 0) (xfS l svc op lev x l.length)) : Contract Try.prog 24 [.sl 14 (l.map Rw.row), Sg svc, Sg op, I lev] [] (.own 0) [some (.arr 14 (x.map Rw.row))] := by
  exact Contract.cast (by
    first
      | rfl) (by
    first
      | rfl) (findR0_0 l x svc op lev hl )

theorem foldl_filter {α : Type} (p : α → Bool) : ∀ (l x : List α), l.foldl (fun x r => bif p r then x ++ [r] else x) x = x ++ l.filter p
  | [], x => by simp
  | r :: l, x => by
    rw [List.foldl_cons, foldl_filter p l]
    cases h : p r <;> simp [List.filter_cons, h]
theorem cFindR (l : List Rw) (svc op : ByteArray) (lev : Int) (hs : l.length ≤ 1000000) : Contract Try.prog 24 [.sl 14 (l.map Rw.row), Sg svc, Sg op, I lev] [] (.own 0) [some (.arr 14 ((l.filter (pFind svc op lev)).map Rw.row))] := by
  refine findR0 l _ svc op lev ?_
  have h := LoopC.fold (P := Try.prog) (k := 0) (n := 50) (c := xfB) l (fun x r => bif pFind svc op lev r then x ++ [r] else x) (fun i x => x.length ≤ i) (fun x i => xfS l svc op lev x i) (e := .exit 0) (by simp)
    (fun i x r hx hi hv => by
      have hs' : x.length ≤ 1000000 := by omega
      rcases tf (r.svc.toList == svc.toList) with e0 | e0
      · rcases tf (r.op.toList == op.toList) with e1 | e1
        · rcases tf (decide (r.lev = lev)) with e2 | e2
          · have : pFind svc op lev r = true := by simp only [pFind, e0, e1, e2]; rfl
            simp only [this, cond_true]
            exact ⟨xfA l svc op lev x r i hi hx hs hs' e0 e1 e2, by simp; omega⟩
          · have : pFind svc op lev r = false := by simp only [pFind, e0, e1, e2]; rfl
            simp only [this, cond_false]
            exact ⟨xfD l svc op lev x r i hi hx hs hs' e0 e1 e2, by omega⟩
        · have : pFind svc op lev r = false := by simp only [pFind, e0, e1]; rfl
          simp only [this, cond_false]
          exact ⟨xfC l svc op lev x r i hi hx hs hs' e0 e1, by omega⟩
      · have : pFind svc op lev r = false := by simp only [pFind, e0]; rfl
        simp only [this, cond_false]
        exact ⟨xfX l svc op lev x r i hi hx hs hs' e0, by omega⟩)
    (fun x _ => xfE l svc op lev x _ (Nat.le_refl _)) [] (by simp)
  rw [foldl_filter, List.nil_append] at h
  exact h
theorem beh_less {e b c : Int} (he : 0 ≤ e ∧ e ≤ 4611686018427387904) (hb : inI b) (hc : inI c) : behC e b c = decide (e ≤ lessC b c) := by
  unfold inI at hb hc
  unfold behC lessC
  rw [← Int.sub_eq_add_neg]
  simp only [IntKind.wrap_i64]
  rw [Bool.cond_eq_ite, Bool.cond_eq_ite, Bool.cond_eq_ite, Bool.cond_eq_ite]
  simp only [Bool.and_eq_true, decide_eq_true_eq]
  repeat' split
  all_goals first
    | rfl
    | (rw [eq_comm, decide_eq_true_eq]; omega)
    | (rw [eq_comm, decide_eq_false_iff_not]; omega)
    | (exfalso; omega)
theorem good_end {v n : Int} (h : goodW v n = true) : 0 ≤ (n + 1) * lenW v ∧ (n + 1) * lenW v ≤ 4611686018427387904 := by
  unfold goodW withinB at h
  rcases lenW_cases v with ⟨_, e⟩ | ⟨_, e⟩ | ⟨_, e⟩ | ⟨_, e⟩ <;> rw [e] at h ⊢ <;> simp at h <;> omega
theorem cExpR (l : List Rw) (sec : Int) (hz : Nat → Int) (hs : l.length ≤ 1000) (h0 : inI sec) (h1 : ∀ k, inI (hz k)) : Contract Try.prog 22 [.sl 14 (l.map Rw.row), I sec, .agg (h3 hz)] [] (.own 0) [some (.arr 14 ((l.filter (fun y => !goneB sec hz y)).map Rw.row))] := by
  refine expR0 l _ sec hz ?_
  have h := LoopC.fold (P := Try.prog) (k := 0) (n := 55) (c := xeB) l (fun x r => bif !goneB sec hz r then x ++ [r] else x) (fun i x => x.length ≤ i) (fun x i => xeS l sec hz x i) (e := .exit 0) (by simp)
    (fun i x r hx hi hv => by
      have hs' : x.length ≤ 1000 := by omega
      rcases tf (goodW r.lev r.win) with hg | hg
      · have hge := good_end hg
        have hv3 : ∃ v : Nat, v < 3 ∧ r.lev = (v : Int) := by
          rcases lenW_cases r.lev with ⟨e, _⟩ | ⟨e, _⟩ | ⟨e, _⟩ | ⟨_, e⟩
          · exact ⟨0, by omega, e⟩
          · exact ⟨1, by omega, e⟩
          · exact ⟨2, by omega, e⟩
          · unfold goodW at hg; rw [e] at hg; simp at hg
        obtain ⟨v, hv3, hlv⟩ := hv3
        have hgb : goneB sec hz r = behC ((r.win + 1) * lenW r.lev) sec (hz v) := by
          unfold goneB
          rw [hg, show r.lev.toNat = v by omega, beh_less hge h0 (h1 v)]; rfl
        rw [hgb]
        have : v = 0 ∨ v = 1 ∨ v = 2 := by omega
        cases hb : behC ((r.win + 1) * lenW r.lev) sec (hz v) with
        | true =>
          refine ⟨?_, by simp only [Bool.not_true, Bool.not_false, cond_true, cond_false, List.length_append, List.length_singleton]; omega⟩
          rcases this with rfl | rfl | rfl
          · exact xeG0 l sec hz x i r hi hx hs hs' hg hlv hb
          · exact xeG1 l sec hz x i r hi hx hs hs' hg hlv hb
          · exact xeG2 l sec hz x i r hi hx hs hs' hg hlv hb
        | false =>
          refine ⟨?_, by simp only [Bool.not_true, Bool.not_false, cond_true, cond_false, List.length_append, List.length_singleton]; omega⟩
          rcases this with rfl | rfl | rfl
          · exact xeK0 l sec hz x i r hi hx hs hs' hg hlv hb
          · exact xeK1 l sec hz x i r hi hx hs hs' hg hlv hb
          · exact xeK2 l sec hz x i r hi hx hs hs' hg hlv hb
      · have hgb : goneB sec hz r = true := by unfold goneB; rw [hg]; rfl
        rw [hgb]
        exact ⟨xeN l sec hz x i r hi hx hs hs' hg, by simp only [Bool.not_true, cond_false]; omega⟩)
    (fun x _ => xeE l sec hz x _ (Nat.le_refl _)) [] (by simp)
  rw [foldl_filter, List.nil_append] at h
  exact h
end Go.Proofs.Ytigakemkanobaaa
