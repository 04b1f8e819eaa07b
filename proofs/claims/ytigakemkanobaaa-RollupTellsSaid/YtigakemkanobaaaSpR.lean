/- spans: which may be, by the reference. -/
import Derived.Test.YtigakemkanobaaaSpB
namespace Go.Proofs.Ytigakemkanobaaa
open E
set_option maxRecDepth 100000
set_option linter.unusedVariables false
set_option linter.unusedSimpArgs false

def rsS (s : Sp) (r : Bool) (i : Nat) : SL := ⟨[(1, .ptr 1000 0 0 0), (2, Bo r), (3, I (i : Int))], [(1000, .box s.row)], [1000]⟩
def rkS (s : Sp) (r : Bool) (i k : Nat) : SL := ⟨[(1, .ptr 1000 0 0 0), (2, Bo r), (3, I (i : Int)), (4, I (k : Int))], [(1000, .box s.row)], [1000]⟩
def badN (a : At) : Bool := !nameB a.key || decide ((a.val.size : Int) > 16)
def FWithin : List V → Option V
  | [.val (.int _ n), .val (.int _ lo), .val (.int _ hi)] => some (Bo (withinB n lo hi))
  | _ => none
noncomputable def rsB : Code := codeAt Try.prog 15 [true, true, false, true, false, false]

noncomputable def rkB : Code := codeAt Try.prog 15 [true, true, false, true, false, false, true, false, false, true, true, false, false]

theorem cWithin_0 (n lo hi : Int)  (tq0 : (decide (n ≥ lo)) = true) : Contract Try.prog 29 [I n, I lo, I hi] [] (Bo (decide (n ≤ hi))) ([]) :=
  vcP hmix [.reg 1 [(3, [], some true)]] [] [
      decide (n ≥ lo) = true] (by kernel_rfl)
    (by
      have d0 := tq0
      try simp only [Int.ofNat_eq_natCast, List.length_map, Bool.not_eq_true', Bool.not_eq_false', decide_eq_true_eq, decide_eq_false_iff_not] at d0
      simp only [allP]
      and_intros <;> first
        | omega)

theorem cWithin_1 (n lo hi : Int)  (tq0 : (decide (n ≥ lo)) = false) : Contract Try.prog 29 [I n, I lo, I hi] [] (Bo false) ([]) :=
  vcP hmix [.reg 1 [(3, [], some false)]] [] [
      decide (n ≥ lo) = false] (by kernel_rfl)
    (by
      have d0 := tq0
      try simp only [Int.ofNat_eq_natCast, List.length_map, Bool.not_eq_true', Bool.not_eq_false', decide_eq_true_eq, decide_eq_false_iff_not] at d0
      simp only [allP]
      and_intros <;> first
        | omega)

theorem cWithin (n lo hi : Int)  : Contract Try.prog 29 [I n, I lo, I hi] [] (Bo (withinB n lo hi)) [] := by
  rcases tf (decide (n ≥ lo)) with tq0 | tq0
  · exact Contract.cast (by
      first
        | (simp only [withinB, tq0, cond_true, cond_false]; rfl)) (by
      first
        | rfl) (cWithin_0 n lo hi  tq0)
  · exact Contract.cast (by
      first
        | (simp only [withinB, tq0, cond_true, cond_false]; rfl)) (by
      first
        | rfl) (cWithin_1 n lo hi  tq0)

theorem rk_0 (s : Sp) (a b : At) (i k : Nat) (h : k < i) (hx : s.attrs[i]? = some a) (hi : i < s.attrs.length) (hy : s.attrs[k]? = some b) (hs : s.attrs.length ≤ 4) (tq0 : (ByteArray.toList (At.key b) == ByteArray.toList (At.key a)) = true) : CodeC Try.prog 0 79 rkB (rkS s false i k) (Ex.ret) ({ env := [((1 : Nat), V.ptr (1000 : Nat) (0 : Nat) (0 : Nat) (0 : Nat)), ((2 : Nat), Bo false), ((3 : Nat), I (Int.ofNat i)), ((4 : Nat), I (Int.ofNat k))], st := [((1000 : Nat), Obj.box [V.val (Value.int IntKind.u64 (Sp.hi s)), V.val (Value.int IntKind.u64 (Sp.lo s)), V.val (Value.int IntKind.u64 (Sp.id s)), V.val (Value.int IntKind.u64 (Sp.par s)), Sg (Sp.svc s), Sg (Sp.op s), I (Sp.start s), I (Sp.dur s), Bo (Sp.err s), V.sl (2 : Nat) (List.map At.row (Sp.attrs s))])], ids := [(1000 : Nat)] }) :=
  runP hmix [.reg 9 [(2, [], some true)], .reg 11 [(5, [.row (At.row b)], none), (11, [.row (At.row a)], none), (12, [], some true)]] ⟨[1, 2, 3, 4], [(1000, 1000)], []⟩ [
      decide (Int.ofNat k < Int.ofNat i) = true,
      (0 : Int) ≤ Int.ofNat k,
      Int.ofNat k < Int.ofNat (List.length (List.map At.row (Sp.attrs s))),
      (List.map At.row (Sp.attrs s))[k]? = some (At.row b),
      (0 : Int) ≤ Int.ofNat i,
      Int.ofNat i < Int.ofNat (List.length (List.map At.row (Sp.attrs s))),
      (List.map At.row (Sp.attrs s))[i]? = some (At.row a),
      (ByteArray.toList (At.key b) == ByteArray.toList (At.key a)) = true] (by kernel_rfl)
    (by
      have d0 := tq0
      try simp only [Int.ofNat_eq_natCast, List.length_map, Bool.not_eq_true', Bool.not_eq_false', decide_eq_true_eq, decide_eq_false_iff_not] at d0
      simp only [allP]
      and_intros <;> first
        | omega
        | (simp; omega)
        | (simp [hx]; done)
        | (simp [hy]; done))

theorem rk_1 (s : Sp) (a b : At) (i k : Nat) (h : k < i) (hx : s.attrs[i]? = some a) (hi : i < s.attrs.length) (hy : s.attrs[k]? = some b) (hs : s.attrs.length ≤ 4) (tq0 : (ByteArray.toList (At.key b) == ByteArray.toList (At.key a)) = false) : CodeC Try.prog 0 79 rkB (rkS s false i k) (Ex.normal) ({ env := [((1 : Nat), V.ptr (1000 : Nat) (0 : Nat) (0 : Nat) (0 : Nat)), ((2 : Nat), Bo false), ((3 : Nat), I (Int.ofNat i)), ((4 : Nat), I (Int.ofNat (k + (1 : Nat))))], st := [((1000 : Nat), Obj.box [V.val (Value.int IntKind.u64 (Sp.hi s)), V.val (Value.int IntKind.u64 (Sp.lo s)), V.val (Value.int IntKind.u64 (Sp.id s)), V.val (Value.int IntKind.u64 (Sp.par s)), Sg (Sp.svc s), Sg (Sp.op s), I (Sp.start s), I (Sp.dur s), Bo (Sp.err s), V.sl (2 : Nat) (List.map At.row (Sp.attrs s))])], ids := [(1000 : Nat)] }) :=
  runP hmix [.reg 9 [(2, [], some true)], .reg 11 [(5, [.row (At.row b)], none), (11, [.row (At.row a)], none), (12, [], some false)], .reg 10 [(1, [.be (I ((k + 1 : Nat) : Int))], none)]] ⟨[1, 2, 3, 4], [(1000, 1000)], []⟩ [
      decide (Int.ofNat k < Int.ofNat i) = true,
      (0 : Int) ≤ Int.ofNat k,
      Int.ofNat k < Int.ofNat (List.length (List.map At.row (Sp.attrs s))),
      (List.map At.row (Sp.attrs s))[k]? = some (At.row b),
      (0 : Int) ≤ Int.ofNat i,
      Int.ofNat i < Int.ofNat (List.length (List.map At.row (Sp.attrs s))),
      (List.map At.row (Sp.attrs s))[i]? = some (At.row a),
      (ByteArray.toList (At.key b) == ByteArray.toList (At.key a)) = false,
      IntKind.wrap IntKind.i64 (Int.ofNat (k + (1 : Nat))) = Int.ofNat (k + (1 : Nat))] (by kernel_rfl)
    (by
      have d0 := tq0
      try simp only [Int.ofNat_eq_natCast, List.length_map, Bool.not_eq_true', Bool.not_eq_false', decide_eq_true_eq, decide_eq_false_iff_not] at d0
      simp only [allP]
      and_intros <;> first
        | omega
        | (simp; omega)
        | (simp [hx]; done)
        | (simp [hy]; done)
        | exact i64_small (by simp; omega))

theorem rkGo (s : Sp) (a b : At) (i k : Nat) (h : k < i) (hx : s.attrs[i]? = some a) (hi : i < s.attrs.length) (hy : s.attrs[k]? = some b) (hs : s.attrs.length ≤ 4) (hb : pKey a b = false) : CodeC Try.prog 0 79 rkB (rkS s false i k) .normal (rkS s false i (k + 1)) := by
  rcases tf (ByteArray.toList (At.key b) == ByteArray.toList (At.key a)) with tq0 | tq0
  · exact absurd hb (by
      first
        | (simp [pKey, tq0]; done))
  · exact CodeC.cast (by
      first
        | rfl) (rk_1 s a b i k h hx hi hy hs tq0)

theorem rkStop (s : Sp) (a b : At) (i k : Nat) (h : k < i) (hx : s.attrs[i]? = some a) (hi : i < s.attrs.length) (hy : s.attrs[k]? = some b) (hs : s.attrs.length ≤ 4) (hb : pKey a b = true) : CodeC Try.prog 0 79 rkB (rkS s false i k) .ret (rkS s false i k) := by
  rcases tf (ByteArray.toList (At.key b) == ByteArray.toList (At.key a)) with tq0 | tq0
  · exact CodeC.cast (by
      first
        | rfl) (rk_0 s a b i k h hx hi hy hs tq0)
  · exact absurd hb (by
      first
        | (simp [pKey, tq0]; done))

theorem rkE_0 (s : Sp) (i k : Nat) (h : i ≤ k) : CodeC Try.prog 0 79 rkB (rkS s false i k) (Ex.exit (2 : Nat)) ({ env := [((1 : Nat), V.ptr (1000 : Nat) (0 : Nat) (0 : Nat) (0 : Nat)), ((2 : Nat), Bo false), ((3 : Nat), I (Int.ofNat i)), ((4 : Nat), I (Int.ofNat k))], st := [((1000 : Nat), Obj.box [V.val (Value.int IntKind.u64 (Sp.hi s)), V.val (Value.int IntKind.u64 (Sp.lo s)), V.val (Value.int IntKind.u64 (Sp.id s)), V.val (Value.int IntKind.u64 (Sp.par s)), Sg (Sp.svc s), Sg (Sp.op s), I (Sp.start s), I (Sp.dur s), Bo (Sp.err s), V.sl (2 : Nat) (List.map At.row (Sp.attrs s))])], ids := [(1000 : Nat)] }) :=
  runP hmix [.reg 9 [(2, [], some false)]] ⟨[1, 2, 3, 4], [(1000, 1000)], []⟩ [
      decide (Int.ofNat k < Int.ofNat i) = false] (by kernel_rfl)
    (by
      simp only [allP]
      and_intros <;> first
        | (simp; omega))

theorem rkE (s : Sp) (i k : Nat) (h : i ≤ k)  : CodeC Try.prog 0 79 rkB (rkS s false i k) (.exit 2) (rkS s false i k) := by
  exact CodeC.cast (by
    first
      | rfl) (rkE_0 s i k h )

theorem rsX_0 (s : Sp) (a : At) (i : Nat) (h : i < s.attrs.length) (hx : s.attrs[i]? = some a) (hs : s.attrs.length ≤ 4) (hl : LoopC Try.prog 0 79 rkB (rkS s false i 0) (.exit 2) (rkS s false i i)) (tq0 : (!withinB (Int.ofNat (ByteArray.size (At.key a))) (1 : Int) (16 : Int)) = true) : CodeC Try.prog 0 79 rsB (rsS s false i) (Ex.ret) ({ env := [((1 : Nat), V.ptr (1000 : Nat) (0 : Nat) (0 : Nat) (0 : Nat)), ((2 : Nat), Bo false), ((3 : Nat), I (Int.ofNat i))], st := [((1000 : Nat), Obj.box [V.val (Value.int IntKind.u64 (Sp.hi s)), V.val (Value.int IntKind.u64 (Sp.lo s)), V.val (Value.int IntKind.u64 (Sp.id s)), V.val (Value.int IntKind.u64 (Sp.par s)), Sg (Sp.svc s), Sg (Sp.op s), I (Sp.start s), I (Sp.dur s), Bo (Sp.err s), V.sl (2 : Nat) (List.map At.row (Sp.attrs s))])], ids := [(1000 : Nat)] }) :=
  runP hmix [.reg 4 [(4, [], some true)], .reg 6 [(5, [.row (At.row a)], none), (9, [], some true)], .tab [(29, FWithin)]] ⟨[1, 2, 3], [(1000, 1000)], []⟩ [
      decide (Int.ofNat i < Int.ofNat (List.length (List.map At.row (Sp.attrs s)))) = true,
      (0 : Int) ≤ Int.ofNat i,
      Int.ofNat i < Int.ofNat (List.length (List.map At.row (Sp.attrs s))),
      (List.map At.row (Sp.attrs s))[i]? = some (At.row a),
      Contract Try.prog (29 : Nat) [I (Int.ofNat (ByteArray.size (At.key a))), I (1 : Int), I (16 : Int)] [] (Bo (withinB (Int.ofNat (ByteArray.size (At.key a))) (1 : Int) (16 : Int))) [],
      (!withinB (Int.ofNat (ByteArray.size (At.key a))) (1 : Int) (16 : Int)) = true] (by kernel_rfl)
    (by
      have d0 := tq0
      try simp only [Int.ofNat_eq_natCast, List.length_map, Bool.not_eq_true', Bool.not_eq_false', decide_eq_true_eq, decide_eq_false_iff_not] at d0
      simp only [allP]
      and_intros <;> first
        | omega
        | exact cWithin _ _ _
        | (simp; omega)
        | (simp [hx]; done))

theorem rsX_1 (s : Sp) (a : At) (i : Nat) (h : i < s.attrs.length) (hx : s.attrs[i]? = some a) (hs : s.attrs.length ≤ 4) (hl : LoopC Try.prog 0 79 rkB (rkS s false i 0) (.exit 2) (rkS s false i i)) (tq0 : (!withinB (Int.ofNat (ByteArray.size (At.key a))) (1 : Int) (16 : Int)) = false) (tq1 : (decide (Int.ofNat (ByteArray.size (At.val a)) > (16 : Int))) = true) : CodeC Try.prog 0 79 rsB (rsS s false i) (Ex.ret) ({ env := [((1 : Nat), V.ptr (1000 : Nat) (0 : Nat) (0 : Nat) (0 : Nat)), ((2 : Nat), Bo false), ((3 : Nat), I (Int.ofNat i))], st := [((1000 : Nat), Obj.box [V.val (Value.int IntKind.u64 (Sp.hi s)), V.val (Value.int IntKind.u64 (Sp.lo s)), V.val (Value.int IntKind.u64 (Sp.id s)), V.val (Value.int IntKind.u64 (Sp.par s)), Sg (Sp.svc s), Sg (Sp.op s), I (Sp.start s), I (Sp.dur s), Bo (Sp.err s), V.sl (2 : Nat) (List.map At.row (Sp.attrs s))])], ids := [(1000 : Nat)] }) :=
  runP hmix [.reg 4 [(4, [], some true)], .reg 6 [(5, [.row (At.row a)], none), (9, [], some false), (15, [.row (At.row a)], none), (18, [], some true)], .tab [(29, FWithin)]] ⟨[1, 2, 3], [(1000, 1000)], []⟩ [
      decide (Int.ofNat i < Int.ofNat (List.length (List.map At.row (Sp.attrs s)))) = true,
      (0 : Int) ≤ Int.ofNat i,
      Int.ofNat i < Int.ofNat (List.length (List.map At.row (Sp.attrs s))),
      (List.map At.row (Sp.attrs s))[i]? = some (At.row a),
      Contract Try.prog (29 : Nat) [I (Int.ofNat (ByteArray.size (At.key a))), I (1 : Int), I (16 : Int)] [] (Bo (withinB (Int.ofNat (ByteArray.size (At.key a))) (1 : Int) (16 : Int))) [],
      (!withinB (Int.ofNat (ByteArray.size (At.key a))) (1 : Int) (16 : Int)) = false,
      (0 : Int) ≤ Int.ofNat i,
      Int.ofNat i < Int.ofNat (List.length (List.map At.row (Sp.attrs s))),
      (List.map At.row (Sp.attrs s))[i]? = some (At.row a),
      decide (Int.ofNat (ByteArray.size (At.val a)) > (16 : Int)) = true] (by kernel_rfl)
    (by
      have d0 := tq0
      have d1 := tq1
      try simp only [Int.ofNat_eq_natCast, List.length_map, Bool.not_eq_true', Bool.not_eq_false', decide_eq_true_eq, decide_eq_false_iff_not] at d0 d1
      simp only [allP]
      and_intros <;> first
        | omega
        | exact cWithin _ _ _
        | (simp; omega)
        | (simp [hx]; done))

theorem rsX_2 (s : Sp) (a : At) (i : Nat) (h : i < s.attrs.length) (hx : s.attrs[i]? = some a) (hs : s.attrs.length ≤ 4) (hl : LoopC Try.prog 0 79 rkB (rkS s false i 0) (.exit 2) (rkS s false i i)) (tq0 : (!withinB (Int.ofNat (ByteArray.size (At.key a))) (1 : Int) (16 : Int)) = false) (tq1 : (decide (Int.ofNat (ByteArray.size (At.val a)) > (16 : Int))) = false) : CodeC Try.prog 0 79 rsB (rsS s false i) (Ex.normal) ({ env := [((1 : Nat), V.ptr (1000 : Nat) (0 : Nat) (0 : Nat) (0 : Nat)), ((2 : Nat), Bo false), ((3 : Nat), I (Int.ofNat (i + (1 : Nat))))], st := [((1000 : Nat), Obj.box [V.val (Value.int IntKind.u64 (Sp.hi s)), V.val (Value.int IntKind.u64 (Sp.lo s)), V.val (Value.int IntKind.u64 (Sp.id s)), V.val (Value.int IntKind.u64 (Sp.par s)), Sg (Sp.svc s), Sg (Sp.op s), I (Sp.start s), I (Sp.dur s), Bo (Sp.err s), V.sl (2 : Nat) (List.map At.row (Sp.attrs s))])], ids := [(1000 : Nat)] }) :=
  runP hmix [.reg 4 [(4, [], some true)], .reg 6 [(5, [.row (At.row a)], none), (9, [], some false), (15, [.row (At.row a)], none), (18, [], some false)], .cut ⟨[1, 2, 3, 4], [(1000, 1000)], []⟩ (.exit 2) (rkS s false i i), .reg 5 [(1, [.be (I ((i + 1 : Nat) : Int))], none)], .tab [(29, FWithin)]] ⟨[1, 2, 3], [(1000, 1000)], []⟩ [
      decide (Int.ofNat i < Int.ofNat (List.length (List.map At.row (Sp.attrs s)))) = true,
      (0 : Int) ≤ Int.ofNat i,
      Int.ofNat i < Int.ofNat (List.length (List.map At.row (Sp.attrs s))),
      (List.map At.row (Sp.attrs s))[i]? = some (At.row a),
      Contract Try.prog (29 : Nat) [I (Int.ofNat (ByteArray.size (At.key a))), I (1 : Int), I (16 : Int)] [] (Bo (withinB (Int.ofNat (ByteArray.size (At.key a))) (1 : Int) (16 : Int))) [],
      (!withinB (Int.ofNat (ByteArray.size (At.key a))) (1 : Int) (16 : Int)) = false,
      (0 : Int) ≤ Int.ofNat i,
      Int.ofNat i < Int.ofNat (List.length (List.map At.row (Sp.attrs s))),
      (List.map At.row (Sp.attrs s))[i]? = some (At.row a),
      decide (Int.ofNat (ByteArray.size (At.val a)) > (16 : Int)) = false,
      LoopC Try.prog (0 : Nat) (79 : Nat) rkB { env := [((1 : Nat), V.ptr (1000 : Nat) (0 : Nat) (0 : Nat) (0 : Nat)), ((2 : Nat), Bo false), ((3 : Nat), I (Int.ofNat i)), ((4 : Nat), I (0 : Int))], st := [((1000 : Nat), Obj.box [V.val (Value.int IntKind.u64 (Sp.hi s)), V.val (Value.int IntKind.u64 (Sp.lo s)), V.val (Value.int IntKind.u64 (Sp.id s)), V.val (Value.int IntKind.u64 (Sp.par s)), Sg (Sp.svc s), Sg (Sp.op s), I (Sp.start s), I (Sp.dur s), Bo (Sp.err s), V.sl (2 : Nat) (List.map At.row (Sp.attrs s))])], ids := [(1000 : Nat)] } (Ex.exit (2 : Nat)) { env := [((1 : Nat), V.ptr (1000 : Nat) (0 : Nat) (0 : Nat) (0 : Nat)), ((2 : Nat), Bo false), ((3 : Nat), I (Int.ofNat i)), ((4 : Nat), I (Int.ofNat i))], st := [((1000 : Nat), Obj.box (Sp.row s))], ids := [(1000 : Nat)] },
      IntKind.wrap IntKind.i64 (Int.ofNat (i + (1 : Nat))) = Int.ofNat (i + (1 : Nat))] (by kernel_rfl)
    (by
      have d0 := tq0
      have d1 := tq1
      try simp only [Int.ofNat_eq_natCast, List.length_map, Bool.not_eq_true', Bool.not_eq_false', decide_eq_true_eq, decide_eq_false_iff_not] at d0 d1
      simp only [allP]
      and_intros <;> first
        | omega
        | exact cWithin _ _ _
        | (simp; omega)
        | (simp [hx]; done)
        | exact i64_small (by simp; omega)
        | exact hl)

theorem rsXGo (s : Sp) (a : At) (i : Nat) (h : i < s.attrs.length) (hx : s.attrs[i]? = some a) (hs : s.attrs.length ≤ 4) (hl : LoopC Try.prog 0 79 rkB (rkS s false i 0) (.exit 2) (rkS s false i i)) (hb : badN a = false) : CodeC Try.prog 0 79 rsB (rsS s false i) .normal (rsS s false (i + 1)) := by
  rcases tf (!withinB (Int.ofNat (ByteArray.size (At.key a))) (1 : Int) (16 : Int)) with tq0 | tq0
  · exact absurd hb (by
      first
        | ((try simp only [Int.ofNat_eq_natCast, List.length_map, Bool.not_eq_true', Bool.not_eq_false', decide_eq_true_eq, decide_eq_false_iff_not] at tq0); simp [badN, nameB, tq0]; done))
  · rcases tf (decide (Int.ofNat (ByteArray.size (At.val a)) > (16 : Int))) with tq1 | tq1
    · exact absurd hb (by
        first
          | ((try simp only [Int.ofNat_eq_natCast, List.length_map, Bool.not_eq_true', Bool.not_eq_false', decide_eq_true_eq, decide_eq_false_iff_not] at tq0 tq1); simp [badN, nameB, tq0, tq1]; done))
    · exact CodeC.cast (by
        first
          | rfl) (rsX_2 s a i h hx hs hl tq0 tq1)

theorem rsXStop (s : Sp) (a : At) (i : Nat) (h : i < s.attrs.length) (hx : s.attrs[i]? = some a) (hs : s.attrs.length ≤ 4) (hl : LoopC Try.prog 0 79 rkB (rkS s false i 0) (.exit 2) (rkS s false i i)) (hb : badN a = true) : CodeC Try.prog 0 79 rsB (rsS s false i) .ret (rsS s false i) := by
  rcases tf (!withinB (Int.ofNat (ByteArray.size (At.key a))) (1 : Int) (16 : Int)) with tq0 | tq0
  · exact CodeC.cast (by
      first
        | rfl) (rsX_0 s a i h hx hs hl tq0)
  · rcases tf (decide (Int.ofNat (ByteArray.size (At.val a)) > (16 : Int))) with tq1 | tq1
    · exact CodeC.cast (by
        first
          | rfl) (rsX_1 s a i h hx hs hl tq0 tq1)
    · exact absurd hb (by
        first
          | ((try simp only [Int.ofNat_eq_natCast, List.length_map, Bool.not_eq_true', Bool.not_eq_false', decide_eq_true_eq, decide_eq_false_iff_not] at tq0 tq1); simp [badN, nameB, tq0, tq1]; done))

theorem rsY_0 (s : Sp) (a : At) (i k : Nat) (h : i < s.attrs.length) (hx : s.attrs[i]? = some a) (hs : s.attrs.length ≤ 4) (hl : LoopC Try.prog 0 79 rkB (rkS s false i 0) .ret (rkS s false i k)) (tq0 : (!withinB (Int.ofNat (ByteArray.size (At.key a))) (1 : Int) (16 : Int)) = true) : CodeC Try.prog 0 79 rsB (rsS s false i) (Ex.ret) ({ env := [((1 : Nat), V.ptr (1000 : Nat) (0 : Nat) (0 : Nat) (0 : Nat)), ((2 : Nat), Bo false), ((3 : Nat), I (Int.ofNat i))], st := [((1000 : Nat), Obj.box [V.val (Value.int IntKind.u64 (Sp.hi s)), V.val (Value.int IntKind.u64 (Sp.lo s)), V.val (Value.int IntKind.u64 (Sp.id s)), V.val (Value.int IntKind.u64 (Sp.par s)), Sg (Sp.svc s), Sg (Sp.op s), I (Sp.start s), I (Sp.dur s), Bo (Sp.err s), V.sl (2 : Nat) (List.map At.row (Sp.attrs s))])], ids := [(1000 : Nat)] }) :=
  runP hmix [.reg 4 [(4, [], some true)], .reg 6 [(5, [.row (At.row a)], none), (9, [], some true)], .tab [(29, FWithin)]] ⟨[1, 2, 3], [(1000, 1000)], []⟩ [
      decide (Int.ofNat i < Int.ofNat (List.length (List.map At.row (Sp.attrs s)))) = true,
      (0 : Int) ≤ Int.ofNat i,
      Int.ofNat i < Int.ofNat (List.length (List.map At.row (Sp.attrs s))),
      (List.map At.row (Sp.attrs s))[i]? = some (At.row a),
      Contract Try.prog (29 : Nat) [I (Int.ofNat (ByteArray.size (At.key a))), I (1 : Int), I (16 : Int)] [] (Bo (withinB (Int.ofNat (ByteArray.size (At.key a))) (1 : Int) (16 : Int))) [],
      (!withinB (Int.ofNat (ByteArray.size (At.key a))) (1 : Int) (16 : Int)) = true] (by kernel_rfl)
    (by
      have d0 := tq0
      try simp only [Int.ofNat_eq_natCast, List.length_map, Bool.not_eq_true', Bool.not_eq_false', decide_eq_true_eq, decide_eq_false_iff_not] at d0
      simp only [allP]
      and_intros <;> first
        | omega
        | exact cWithin _ _ _
        | (simp; omega)
        | (simp [hx]; done))

theorem rsY_1 (s : Sp) (a : At) (i k : Nat) (h : i < s.attrs.length) (hx : s.attrs[i]? = some a) (hs : s.attrs.length ≤ 4) (hl : LoopC Try.prog 0 79 rkB (rkS s false i 0) .ret (rkS s false i k)) (tq0 : (!withinB (Int.ofNat (ByteArray.size (At.key a))) (1 : Int) (16 : Int)) = false) (tq1 : (decide (Int.ofNat (ByteArray.size (At.val a)) > (16 : Int))) = true) : CodeC Try.prog 0 79 rsB (rsS s false i) (Ex.ret) ({ env := [((1 : Nat), V.ptr (1000 : Nat) (0 : Nat) (0 : Nat) (0 : Nat)), ((2 : Nat), Bo false), ((3 : Nat), I (Int.ofNat i))], st := [((1000 : Nat), Obj.box [V.val (Value.int IntKind.u64 (Sp.hi s)), V.val (Value.int IntKind.u64 (Sp.lo s)), V.val (Value.int IntKind.u64 (Sp.id s)), V.val (Value.int IntKind.u64 (Sp.par s)), Sg (Sp.svc s), Sg (Sp.op s), I (Sp.start s), I (Sp.dur s), Bo (Sp.err s), V.sl (2 : Nat) (List.map At.row (Sp.attrs s))])], ids := [(1000 : Nat)] }) :=
  runP hmix [.reg 4 [(4, [], some true)], .reg 6 [(5, [.row (At.row a)], none), (9, [], some false), (15, [.row (At.row a)], none), (18, [], some true)], .tab [(29, FWithin)]] ⟨[1, 2, 3], [(1000, 1000)], []⟩ [
      decide (Int.ofNat i < Int.ofNat (List.length (List.map At.row (Sp.attrs s)))) = true,
      (0 : Int) ≤ Int.ofNat i,
      Int.ofNat i < Int.ofNat (List.length (List.map At.row (Sp.attrs s))),
      (List.map At.row (Sp.attrs s))[i]? = some (At.row a),
      Contract Try.prog (29 : Nat) [I (Int.ofNat (ByteArray.size (At.key a))), I (1 : Int), I (16 : Int)] [] (Bo (withinB (Int.ofNat (ByteArray.size (At.key a))) (1 : Int) (16 : Int))) [],
      (!withinB (Int.ofNat (ByteArray.size (At.key a))) (1 : Int) (16 : Int)) = false,
      (0 : Int) ≤ Int.ofNat i,
      Int.ofNat i < Int.ofNat (List.length (List.map At.row (Sp.attrs s))),
      (List.map At.row (Sp.attrs s))[i]? = some (At.row a),
      decide (Int.ofNat (ByteArray.size (At.val a)) > (16 : Int)) = true] (by kernel_rfl)
    (by
      have d0 := tq0
      have d1 := tq1
      try simp only [Int.ofNat_eq_natCast, List.length_map, Bool.not_eq_true', Bool.not_eq_false', decide_eq_true_eq, decide_eq_false_iff_not] at d0 d1
      simp only [allP]
      and_intros <;> first
        | omega
        | exact cWithin _ _ _
        | (simp; omega)
        | (simp [hx]; done))

theorem rsY_2 (s : Sp) (a : At) (i k : Nat) (h : i < s.attrs.length) (hx : s.attrs[i]? = some a) (hs : s.attrs.length ≤ 4) (hl : LoopC Try.prog 0 79 rkB (rkS s false i 0) .ret (rkS s false i k)) (tq0 : (!withinB (Int.ofNat (ByteArray.size (At.key a))) (1 : Int) (16 : Int)) = false) (tq1 : (decide (Int.ofNat (ByteArray.size (At.val a)) > (16 : Int))) = false) : CodeC Try.prog 0 79 rsB (rsS s false i) (Ex.ret) ({ env := [((1 : Nat), V.ptr (1000 : Nat) (0 : Nat) (0 : Nat) (0 : Nat)), ((2 : Nat), Bo false), ((3 : Nat), I (Int.ofNat i))], st := [((1000 : Nat), Obj.box [V.val (Value.int IntKind.u64 (Sp.hi s)), V.val (Value.int IntKind.u64 (Sp.lo s)), V.val (Value.int IntKind.u64 (Sp.id s)), V.val (Value.int IntKind.u64 (Sp.par s)), Sg (Sp.svc s), Sg (Sp.op s), I (Sp.start s), I (Sp.dur s), Bo (Sp.err s), V.sl (2 : Nat) (List.map At.row (Sp.attrs s))])], ids := [(1000 : Nat)] }) :=
  runP hmix [.reg 4 [(4, [], some true)], .reg 6 [(5, [.row (At.row a)], none), (9, [], some false), (15, [.row (At.row a)], none), (18, [], some false)], .cut ⟨[1, 2, 3, 4], [(1000, 1000)], []⟩ .ret (rkS s false i k), .tab [(29, FWithin)]] ⟨[1, 2, 3], [(1000, 1000)], []⟩ [
      decide (Int.ofNat i < Int.ofNat (List.length (List.map At.row (Sp.attrs s)))) = true,
      (0 : Int) ≤ Int.ofNat i,
      Int.ofNat i < Int.ofNat (List.length (List.map At.row (Sp.attrs s))),
      (List.map At.row (Sp.attrs s))[i]? = some (At.row a),
      Contract Try.prog (29 : Nat) [I (Int.ofNat (ByteArray.size (At.key a))), I (1 : Int), I (16 : Int)] [] (Bo (withinB (Int.ofNat (ByteArray.size (At.key a))) (1 : Int) (16 : Int))) [],
      (!withinB (Int.ofNat (ByteArray.size (At.key a))) (1 : Int) (16 : Int)) = false,
      (0 : Int) ≤ Int.ofNat i,
      Int.ofNat i < Int.ofNat (List.length (List.map At.row (Sp.attrs s))),
      (List.map At.row (Sp.attrs s))[i]? = some (At.row a),
      decide (Int.ofNat (ByteArray.size (At.val a)) > (16 : Int)) = false,
      LoopC Try.prog (0 : Nat) (79 : Nat) rkB { env := [((1 : Nat), V.ptr (1000 : Nat) (0 : Nat) (0 : Nat) (0 : Nat)), ((2 : Nat), Bo false), ((3 : Nat), I (Int.ofNat i)), ((4 : Nat), I (0 : Int))], st := [((1000 : Nat), Obj.box [V.val (Value.int IntKind.u64 (Sp.hi s)), V.val (Value.int IntKind.u64 (Sp.lo s)), V.val (Value.int IntKind.u64 (Sp.id s)), V.val (Value.int IntKind.u64 (Sp.par s)), Sg (Sp.svc s), Sg (Sp.op s), I (Sp.start s), I (Sp.dur s), Bo (Sp.err s), V.sl (2 : Nat) (List.map At.row (Sp.attrs s))])], ids := [(1000 : Nat)] } Ex.ret { env := [((1 : Nat), V.ptr (1000 : Nat) (0 : Nat) (0 : Nat) (0 : Nat)), ((2 : Nat), Bo false), ((3 : Nat), I (Int.ofNat i)), ((4 : Nat), I (Int.ofNat k))], st := [((1000 : Nat), Obj.box (Sp.row s))], ids := [(1000 : Nat)] }] (by kernel_rfl)
    (by
      have d0 := tq0
      have d1 := tq1
      try simp only [Int.ofNat_eq_natCast, List.length_map, Bool.not_eq_true', Bool.not_eq_false', decide_eq_true_eq, decide_eq_false_iff_not] at d0 d1
      simp only [allP]
      and_intros <;> first
        | omega
        | exact cWithin _ _ _
        | (simp; omega)
        | (simp [hx]; done)
        | exact hl)

theorem rsY (s : Sp) (a : At) (i k : Nat) (h : i < s.attrs.length) (hx : s.attrs[i]? = some a) (hs : s.attrs.length ≤ 4) (hl : LoopC Try.prog 0 79 rkB (rkS s false i 0) .ret (rkS s false i k))  : CodeC Try.prog 0 79 rsB (rsS s false i) .ret (rsS s false i) := by
  rcases tf (!withinB (Int.ofNat (ByteArray.size (At.key a))) (1 : Int) (16 : Int)) with tq0 | tq0
  · exact CodeC.cast (by
      first
        | rfl) (rsY_0 s a i k h hx hs hl tq0)
  · rcases tf (decide (Int.ofNat (ByteArray.size (At.val a)) > (16 : Int))) with tq1 | tq1
    · exact CodeC.cast (by
        first
          | rfl) (rsY_1 s a i k h hx hs hl tq0 tq1)
    · exact CodeC.cast (by
        first
          | rfl) (rsY_2 s a i k h hx hs hl tq0 tq1)

theorem rsE_0 (s : Sp) (i : Nat) (h : s.attrs.length ≤ i) : CodeC Try.prog 0 79 rsB (rsS s false i) (Ex.exit (0 : Nat)) ({ env := [((1 : Nat), V.ptr (1000 : Nat) (0 : Nat) (0 : Nat) (0 : Nat)), ((2 : Nat), Bo false), ((3 : Nat), I (Int.ofNat i))], st := [((1000 : Nat), Obj.box [V.val (Value.int IntKind.u64 (Sp.hi s)), V.val (Value.int IntKind.u64 (Sp.lo s)), V.val (Value.int IntKind.u64 (Sp.id s)), V.val (Value.int IntKind.u64 (Sp.par s)), Sg (Sp.svc s), Sg (Sp.op s), I (Sp.start s), I (Sp.dur s), Bo (Sp.err s), V.sl (2 : Nat) (List.map At.row (Sp.attrs s))])], ids := [(1000 : Nat)] }) :=
  runP hmix [.reg 4 [(4, [], some false)]] ⟨[1, 2, 3], [(1000, 1000)], []⟩ [
      decide (Int.ofNat i < Int.ofNat (List.length (List.map At.row (Sp.attrs s)))) = false] (by kernel_rfl)
    (by
      simp only [allP]
      and_intros <;> first
        | (simp; omega))

theorem rsE (s : Sp) (i : Nat) (h : s.attrs.length ≤ i)  : CodeC Try.prog 0 79 rsB (rsS s false i) (.exit 0) (rsS s false i) := by
  exact CodeC.cast (by
    first
      | rfl) (rsE_0 s i h )

theorem rs1_0 (s : Sp) (i : Nat) (hl : LoopC Try.prog 0 79 rsB (rsS s false 0) .ret (rsS s false i)) (tq0 : (!withinB (Int.ofNat (ByteArray.size (Sp.svc s))) (1 : Int) (16 : Int)) = true) : Contract Try.prog 15 [s.v] [] (Bo false) ([]) :=
  vcP hmix [.reg 1 [(5, [], some true)], .tab [(29, FWithin)]] [] [
      Contract Try.prog (29 : Nat) [I (Int.ofNat (ByteArray.size (Sp.svc s))), I (1 : Int), I (16 : Int)] [] (Bo (withinB (Int.ofNat (ByteArray.size (Sp.svc s))) (1 : Int) (16 : Int))) [],
      (!withinB (Int.ofNat (ByteArray.size (Sp.svc s))) (1 : Int) (16 : Int)) = true] (by kernel_rfl)
    (by
      have d0 := tq0
      try simp only [Int.ofNat_eq_natCast, List.length_map, Bool.not_eq_true', Bool.not_eq_false', decide_eq_true_eq, decide_eq_false_iff_not] at d0
      simp only [allP]
      and_intros <;> first
        | omega
        | exact cWithin _ _ _)

theorem rs1_1 (s : Sp) (i : Nat) (hl : LoopC Try.prog 0 79 rsB (rsS s false 0) .ret (rsS s false i)) (tq0 : (!withinB (Int.ofNat (ByteArray.size (Sp.svc s))) (1 : Int) (16 : Int)) = false) (tq1 : (!withinB (Int.ofNat (ByteArray.size (Sp.op s))) (1 : Int) (16 : Int)) = true) : Contract Try.prog 15 [s.v] [] (Bo false) ([]) :=
  vcP hmix [.reg 1 [(5, [], some false), (12, [], some true)], .tab [(29, FWithin)]] [] [
      Contract Try.prog (29 : Nat) [I (Int.ofNat (ByteArray.size (Sp.svc s))), I (1 : Int), I (16 : Int)] [] (Bo (withinB (Int.ofNat (ByteArray.size (Sp.svc s))) (1 : Int) (16 : Int))) [],
      (!withinB (Int.ofNat (ByteArray.size (Sp.svc s))) (1 : Int) (16 : Int)) = false,
      Contract Try.prog (29 : Nat) [I (Int.ofNat (ByteArray.size (Sp.op s))), I (1 : Int), I (16 : Int)] [] (Bo (withinB (Int.ofNat (ByteArray.size (Sp.op s))) (1 : Int) (16 : Int))) [],
      (!withinB (Int.ofNat (ByteArray.size (Sp.op s))) (1 : Int) (16 : Int)) = true] (by kernel_rfl)
    (by
      have d0 := tq0
      have d1 := tq1
      try simp only [Int.ofNat_eq_natCast, List.length_map, Bool.not_eq_true', Bool.not_eq_false', decide_eq_true_eq, decide_eq_false_iff_not] at d0 d1
      simp only [allP]
      and_intros <;> first
        | omega
        | exact cWithin _ _ _)

theorem rs1_2 (s : Sp) (i : Nat) (hl : LoopC Try.prog 0 79 rsB (rsS s false 0) .ret (rsS s false i)) (tq0 : (!withinB (Int.ofNat (ByteArray.size (Sp.svc s))) (1 : Int) (16 : Int)) = false) (tq1 : (!withinB (Int.ofNat (ByteArray.size (Sp.op s))) (1 : Int) (16 : Int)) = false) (tq2 : (!withinB (Sp.start s) (0 : Int) (1099511627776 : Int)) = true) : Contract Try.prog 15 [s.v] [] (Bo false) ([]) :=
  vcP hmix [.reg 1 [(5, [], some false), (12, [], some false), (18, [], some true)], .tab [(29, FWithin)]] [] [
      Contract Try.prog (29 : Nat) [I (Int.ofNat (ByteArray.size (Sp.svc s))), I (1 : Int), I (16 : Int)] [] (Bo (withinB (Int.ofNat (ByteArray.size (Sp.svc s))) (1 : Int) (16 : Int))) [],
      (!withinB (Int.ofNat (ByteArray.size (Sp.svc s))) (1 : Int) (16 : Int)) = false,
      Contract Try.prog (29 : Nat) [I (Int.ofNat (ByteArray.size (Sp.op s))), I (1 : Int), I (16 : Int)] [] (Bo (withinB (Int.ofNat (ByteArray.size (Sp.op s))) (1 : Int) (16 : Int))) [],
      (!withinB (Int.ofNat (ByteArray.size (Sp.op s))) (1 : Int) (16 : Int)) = false,
      Contract Try.prog (29 : Nat) [I (Sp.start s), I (0 : Int), I (1099511627776 : Int)] [] (Bo (withinB (Sp.start s) (0 : Int) (1099511627776 : Int))) [],
      (!withinB (Sp.start s) (0 : Int) (1099511627776 : Int)) = true] (by kernel_rfl)
    (by
      have d0 := tq0
      have d1 := tq1
      have d2 := tq2
      try simp only [Int.ofNat_eq_natCast, List.length_map, Bool.not_eq_true', Bool.not_eq_false', decide_eq_true_eq, decide_eq_false_iff_not] at d0 d1 d2
      simp only [allP]
      and_intros <;> first
        | omega
        | exact cWithin _ _ _)

theorem rs1_3 (s : Sp) (i : Nat) (hl : LoopC Try.prog 0 79 rsB (rsS s false 0) .ret (rsS s false i)) (tq0 : (!withinB (Int.ofNat (ByteArray.size (Sp.svc s))) (1 : Int) (16 : Int)) = false) (tq1 : (!withinB (Int.ofNat (ByteArray.size (Sp.op s))) (1 : Int) (16 : Int)) = false) (tq2 : (!withinB (Sp.start s) (0 : Int) (1099511627776 : Int)) = false) (tq3 : (!withinB (Sp.dur s) (0 : Int) (1073741824 : Int)) = true) : Contract Try.prog 15 [s.v] [] (Bo false) ([]) :=
  vcP hmix [.reg 1 [(5, [], some false), (12, [], some false), (18, [], some false), (24, [], some true)], .tab [(29, FWithin)]] [] [
      Contract Try.prog (29 : Nat) [I (Int.ofNat (ByteArray.size (Sp.svc s))), I (1 : Int), I (16 : Int)] [] (Bo (withinB (Int.ofNat (ByteArray.size (Sp.svc s))) (1 : Int) (16 : Int))) [],
      (!withinB (Int.ofNat (ByteArray.size (Sp.svc s))) (1 : Int) (16 : Int)) = false,
      Contract Try.prog (29 : Nat) [I (Int.ofNat (ByteArray.size (Sp.op s))), I (1 : Int), I (16 : Int)] [] (Bo (withinB (Int.ofNat (ByteArray.size (Sp.op s))) (1 : Int) (16 : Int))) [],
      (!withinB (Int.ofNat (ByteArray.size (Sp.op s))) (1 : Int) (16 : Int)) = false,
      Contract Try.prog (29 : Nat) [I (Sp.start s), I (0 : Int), I (1099511627776 : Int)] [] (Bo (withinB (Sp.start s) (0 : Int) (1099511627776 : Int))) [],
      (!withinB (Sp.start s) (0 : Int) (1099511627776 : Int)) = false,
      Contract Try.prog (29 : Nat) [I (Sp.dur s), I (0 : Int), I (1073741824 : Int)] [] (Bo (withinB (Sp.dur s) (0 : Int) (1073741824 : Int))) [],
      (!withinB (Sp.dur s) (0 : Int) (1073741824 : Int)) = true] (by kernel_rfl)
    (by
      have d0 := tq0
      have d1 := tq1
      have d2 := tq2
      have d3 := tq3
      try simp only [Int.ofNat_eq_natCast, List.length_map, Bool.not_eq_true', Bool.not_eq_false', decide_eq_true_eq, decide_eq_false_iff_not] at d0 d1 d2 d3
      simp only [allP]
      and_intros <;> first
        | omega
        | exact cWithin _ _ _)

theorem rs1_4 (s : Sp) (i : Nat) (hl : LoopC Try.prog 0 79 rsB (rsS s false 0) .ret (rsS s false i)) (tq0 : (!withinB (Int.ofNat (ByteArray.size (Sp.svc s))) (1 : Int) (16 : Int)) = false) (tq1 : (!withinB (Int.ofNat (ByteArray.size (Sp.op s))) (1 : Int) (16 : Int)) = false) (tq2 : (!withinB (Sp.start s) (0 : Int) (1099511627776 : Int)) = false) (tq3 : (!withinB (Sp.dur s) (0 : Int) (1073741824 : Int)) = false) (tq4 : (decide (Int.ofNat (List.length (List.map At.row (Sp.attrs s))) > (4 : Int))) = true) : Contract Try.prog 15 [s.v] [] (Bo false) ([]) :=
  vcP hmix [.reg 1 [(5, [], some false), (12, [], some false), (18, [], some false), (24, [], some false), (29, [], some true)], .tab [(29, FWithin)]] [] [
      Contract Try.prog (29 : Nat) [I (Int.ofNat (ByteArray.size (Sp.svc s))), I (1 : Int), I (16 : Int)] [] (Bo (withinB (Int.ofNat (ByteArray.size (Sp.svc s))) (1 : Int) (16 : Int))) [],
      (!withinB (Int.ofNat (ByteArray.size (Sp.svc s))) (1 : Int) (16 : Int)) = false,
      Contract Try.prog (29 : Nat) [I (Int.ofNat (ByteArray.size (Sp.op s))), I (1 : Int), I (16 : Int)] [] (Bo (withinB (Int.ofNat (ByteArray.size (Sp.op s))) (1 : Int) (16 : Int))) [],
      (!withinB (Int.ofNat (ByteArray.size (Sp.op s))) (1 : Int) (16 : Int)) = false,
      Contract Try.prog (29 : Nat) [I (Sp.start s), I (0 : Int), I (1099511627776 : Int)] [] (Bo (withinB (Sp.start s) (0 : Int) (1099511627776 : Int))) [],
      (!withinB (Sp.start s) (0 : Int) (1099511627776 : Int)) = false,
      Contract Try.prog (29 : Nat) [I (Sp.dur s), I (0 : Int), I (1073741824 : Int)] [] (Bo (withinB (Sp.dur s) (0 : Int) (1073741824 : Int))) [],
      (!withinB (Sp.dur s) (0 : Int) (1073741824 : Int)) = false,
      decide (Int.ofNat (List.length (List.map At.row (Sp.attrs s))) > (4 : Int)) = true] (by kernel_rfl)
    (by
      have d0 := tq0
      have d1 := tq1
      have d2 := tq2
      have d3 := tq3
      have d4 := tq4
      try simp only [Int.ofNat_eq_natCast, List.length_map, Bool.not_eq_true', Bool.not_eq_false', decide_eq_true_eq, decide_eq_false_iff_not] at d0 d1 d2 d3 d4
      simp only [allP]
      and_intros <;> first
        | omega
        | exact cWithin _ _ _)

theorem rs1_5 (s : Sp) (i : Nat) (hl : LoopC Try.prog 0 79 rsB (rsS s false 0) .ret (rsS s false i)) (tq0 : (!withinB (Int.ofNat (ByteArray.size (Sp.svc s))) (1 : Int) (16 : Int)) = false) (tq1 : (!withinB (Int.ofNat (ByteArray.size (Sp.op s))) (1 : Int) (16 : Int)) = false) (tq2 : (!withinB (Sp.start s) (0 : Int) (1099511627776 : Int)) = false) (tq3 : (!withinB (Sp.dur s) (0 : Int) (1073741824 : Int)) = false) (tq4 : (decide (Int.ofNat (List.length (List.map At.row (Sp.attrs s))) > (4 : Int))) = false) : Contract Try.prog 15 [s.v] [] (Bo false) ([]) :=
  vcP hmix [.reg 1 [(5, [], some false), (12, [], some false), (18, [], some false), (24, [], some false), (29, [], some false)], .cut ⟨[1, 2, 3], [(1000, 1000)], []⟩ .ret (rsS s false i), .tab [(29, FWithin)]] [] [
      Contract Try.prog (29 : Nat) [I (Int.ofNat (ByteArray.size (Sp.svc s))), I (1 : Int), I (16 : Int)] [] (Bo (withinB (Int.ofNat (ByteArray.size (Sp.svc s))) (1 : Int) (16 : Int))) [],
      (!withinB (Int.ofNat (ByteArray.size (Sp.svc s))) (1 : Int) (16 : Int)) = false,
      Contract Try.prog (29 : Nat) [I (Int.ofNat (ByteArray.size (Sp.op s))), I (1 : Int), I (16 : Int)] [] (Bo (withinB (Int.ofNat (ByteArray.size (Sp.op s))) (1 : Int) (16 : Int))) [],
      (!withinB (Int.ofNat (ByteArray.size (Sp.op s))) (1 : Int) (16 : Int)) = false,
      Contract Try.prog (29 : Nat) [I (Sp.start s), I (0 : Int), I (1099511627776 : Int)] [] (Bo (withinB (Sp.start s) (0 : Int) (1099511627776 : Int))) [],
      (!withinB (Sp.start s) (0 : Int) (1099511627776 : Int)) = false,
      Contract Try.prog (29 : Nat) [I (Sp.dur s), I (0 : Int), I (1073741824 : Int)] [] (Bo (withinB (Sp.dur s) (0 : Int) (1073741824 : Int))) [],
      (!withinB (Sp.dur s) (0 : Int) (1073741824 : Int)) = false,
      decide (Int.ofNat (List.length (List.map At.row (Sp.attrs s))) > (4 : Int)) = false,
      LoopC Try.prog (0 : Nat) (79 : Nat) rsB { env := [((1 : Nat), V.ptr (1000 : Nat) (0 : Nat) (0 : Nat) (0 : Nat)), ((2 : Nat), Bo false), ((3 : Nat), I (0 : Int))], st := [((1000 : Nat), Obj.box [V.val (Value.int IntKind.u64 (Sp.hi s)), V.val (Value.int IntKind.u64 (Sp.lo s)), V.val (Value.int IntKind.u64 (Sp.id s)), V.val (Value.int IntKind.u64 (Sp.par s)), Sg (Sp.svc s), Sg (Sp.op s), I (Sp.start s), I (Sp.dur s), Bo (Sp.err s), V.sl (2 : Nat) (List.map At.row (Sp.attrs s))])], ids := [(1000 : Nat)] } Ex.ret { env := [((1 : Nat), V.ptr (1000 : Nat) (0 : Nat) (0 : Nat) (0 : Nat)), ((2 : Nat), Bo false), ((3 : Nat), I (Int.ofNat i))], st := [((1000 : Nat), Obj.box (Sp.row s))], ids := [(1000 : Nat)] }] (by kernel_rfl)
    (by
      have d0 := tq0
      have d1 := tq1
      have d2 := tq2
      have d3 := tq3
      have d4 := tq4
      try simp only [Int.ofNat_eq_natCast, List.length_map, Bool.not_eq_true', Bool.not_eq_false', decide_eq_true_eq, decide_eq_false_iff_not] at d0 d1 d2 d3 d4
      simp only [allP]
      and_intros <;> first
        | omega
        | exact cWithin _ _ _
        | exact hl)

theorem rs1 (s : Sp) (i : Nat) (hl : LoopC Try.prog 0 79 rsB (rsS s false 0) .ret (rsS s false i)) : Contract Try.prog 15 [s.v] [] (Bo false) [] := by
  rcases tf (!withinB (Int.ofNat (ByteArray.size (Sp.svc s))) (1 : Int) (16 : Int)) with tq0 | tq0
  · exact Contract.cast (by
      first
        | rfl) (by
      first
        | rfl) (rs1_0 s i hl tq0)
  · rcases tf (!withinB (Int.ofNat (ByteArray.size (Sp.op s))) (1 : Int) (16 : Int)) with tq1 | tq1
    · exact Contract.cast (by
        first
          | rfl) (by
        first
          | rfl) (rs1_1 s i hl tq0 tq1)
    · rcases tf (!withinB (Sp.start s) (0 : Int) (1099511627776 : Int)) with tq2 | tq2
      · exact Contract.cast (by
          first
            | rfl) (by
          first
            | rfl) (rs1_2 s i hl tq0 tq1 tq2)
      · rcases tf (!withinB (Sp.dur s) (0 : Int) (1073741824 : Int)) with tq3 | tq3
        · exact Contract.cast (by
            first
              | rfl) (by
            first
              | rfl) (rs1_3 s i hl tq0 tq1 tq2 tq3)
        · rcases tf (decide (Int.ofNat (List.length (List.map At.row (Sp.attrs s))) > (4 : Int))) with tq4 | tq4
          · exact Contract.cast (by
              first
                | rfl) (by
              first
                | rfl) (rs1_4 s i hl tq0 tq1 tq2 tq3 tq4)
          · exact Contract.cast (by
              first
                | rfl) (by
              first
                | rfl) (rs1_5 s i hl tq0 tq1 tq2 tq3 tq4)

theorem rs2_0 (s : Sp) (hl : LoopC Try.prog 0 79 rsB (rsS s false 0) (.exit 0) (rsS s false s.attrs.length)) (tq0 : (!withinB (Int.ofNat (ByteArray.size (Sp.svc s))) (1 : Int) (16 : Int)) = true) : Contract Try.prog 15 [s.v] [] (Bo false) ([]) :=
  vcP hmix [.reg 1 [(5, [], some true)], .tab [(29, FWithin)]] [] [
      Contract Try.prog (29 : Nat) [I (Int.ofNat (ByteArray.size (Sp.svc s))), I (1 : Int), I (16 : Int)] [] (Bo (withinB (Int.ofNat (ByteArray.size (Sp.svc s))) (1 : Int) (16 : Int))) [],
      (!withinB (Int.ofNat (ByteArray.size (Sp.svc s))) (1 : Int) (16 : Int)) = true] (by kernel_rfl)
    (by
      have d0 := tq0
      try simp only [Int.ofNat_eq_natCast, List.length_map, Bool.not_eq_true', Bool.not_eq_false', decide_eq_true_eq, decide_eq_false_iff_not] at d0
      simp only [allP]
      and_intros <;> first
        | omega
        | exact cWithin _ _ _)

theorem rs2_1 (s : Sp) (hl : LoopC Try.prog 0 79 rsB (rsS s false 0) (.exit 0) (rsS s false s.attrs.length)) (tq0 : (!withinB (Int.ofNat (ByteArray.size (Sp.svc s))) (1 : Int) (16 : Int)) = false) (tq1 : (!withinB (Int.ofNat (ByteArray.size (Sp.op s))) (1 : Int) (16 : Int)) = true) : Contract Try.prog 15 [s.v] [] (Bo false) ([]) :=
  vcP hmix [.reg 1 [(5, [], some false), (12, [], some true)], .tab [(29, FWithin)]] [] [
      Contract Try.prog (29 : Nat) [I (Int.ofNat (ByteArray.size (Sp.svc s))), I (1 : Int), I (16 : Int)] [] (Bo (withinB (Int.ofNat (ByteArray.size (Sp.svc s))) (1 : Int) (16 : Int))) [],
      (!withinB (Int.ofNat (ByteArray.size (Sp.svc s))) (1 : Int) (16 : Int)) = false,
      Contract Try.prog (29 : Nat) [I (Int.ofNat (ByteArray.size (Sp.op s))), I (1 : Int), I (16 : Int)] [] (Bo (withinB (Int.ofNat (ByteArray.size (Sp.op s))) (1 : Int) (16 : Int))) [],
      (!withinB (Int.ofNat (ByteArray.size (Sp.op s))) (1 : Int) (16 : Int)) = true] (by kernel_rfl)
    (by
      have d0 := tq0
      have d1 := tq1
      try simp only [Int.ofNat_eq_natCast, List.length_map, Bool.not_eq_true', Bool.not_eq_false', decide_eq_true_eq, decide_eq_false_iff_not] at d0 d1
      simp only [allP]
      and_intros <;> first
        | omega
        | exact cWithin _ _ _)

theorem rs2_2 (s : Sp) (hl : LoopC Try.prog 0 79 rsB (rsS s false 0) (.exit 0) (rsS s false s.attrs.length)) (tq0 : (!withinB (Int.ofNat (ByteArray.size (Sp.svc s))) (1 : Int) (16 : Int)) = false) (tq1 : (!withinB (Int.ofNat (ByteArray.size (Sp.op s))) (1 : Int) (16 : Int)) = false) (tq2 : (!withinB (Sp.start s) (0 : Int) (1099511627776 : Int)) = true) : Contract Try.prog 15 [s.v] [] (Bo false) ([]) :=
  vcP hmix [.reg 1 [(5, [], some false), (12, [], some false), (18, [], some true)], .tab [(29, FWithin)]] [] [
      Contract Try.prog (29 : Nat) [I (Int.ofNat (ByteArray.size (Sp.svc s))), I (1 : Int), I (16 : Int)] [] (Bo (withinB (Int.ofNat (ByteArray.size (Sp.svc s))) (1 : Int) (16 : Int))) [],
      (!withinB (Int.ofNat (ByteArray.size (Sp.svc s))) (1 : Int) (16 : Int)) = false,
      Contract Try.prog (29 : Nat) [I (Int.ofNat (ByteArray.size (Sp.op s))), I (1 : Int), I (16 : Int)] [] (Bo (withinB (Int.ofNat (ByteArray.size (Sp.op s))) (1 : Int) (16 : Int))) [],
      (!withinB (Int.ofNat (ByteArray.size (Sp.op s))) (1 : Int) (16 : Int)) = false,
      Contract Try.prog (29 : Nat) [I (Sp.start s), I (0 : Int), I (1099511627776 : Int)] [] (Bo (withinB (Sp.start s) (0 : Int) (1099511627776 : Int))) [],
      (!withinB (Sp.start s) (0 : Int) (1099511627776 : Int)) = true] (by kernel_rfl)
    (by
      have d0 := tq0
      have d1 := tq1
      have d2 := tq2
      try simp only [Int.ofNat_eq_natCast, List.length_map, Bool.not_eq_true', Bool.not_eq_false', decide_eq_true_eq, decide_eq_false_iff_not] at d0 d1 d2
      simp only [allP]
      and_intros <;> first
        | omega
        | exact cWithin _ _ _)

theorem rs2_3 (s : Sp) (hl : LoopC Try.prog 0 79 rsB (rsS s false 0) (.exit 0) (rsS s false s.attrs.length)) (tq0 : (!withinB (Int.ofNat (ByteArray.size (Sp.svc s))) (1 : Int) (16 : Int)) = false) (tq1 : (!withinB (Int.ofNat (ByteArray.size (Sp.op s))) (1 : Int) (16 : Int)) = false) (tq2 : (!withinB (Sp.start s) (0 : Int) (1099511627776 : Int)) = false) (tq3 : (!withinB (Sp.dur s) (0 : Int) (1073741824 : Int)) = true) : Contract Try.prog 15 [s.v] [] (Bo false) ([]) :=
  vcP hmix [.reg 1 [(5, [], some false), (12, [], some false), (18, [], some false), (24, [], some true)], .tab [(29, FWithin)]] [] [
      Contract Try.prog (29 : Nat) [I (Int.ofNat (ByteArray.size (Sp.svc s))), I (1 : Int), I (16 : Int)] [] (Bo (withinB (Int.ofNat (ByteArray.size (Sp.svc s))) (1 : Int) (16 : Int))) [],
      (!withinB (Int.ofNat (ByteArray.size (Sp.svc s))) (1 : Int) (16 : Int)) = false,
      Contract Try.prog (29 : Nat) [I (Int.ofNat (ByteArray.size (Sp.op s))), I (1 : Int), I (16 : Int)] [] (Bo (withinB (Int.ofNat (ByteArray.size (Sp.op s))) (1 : Int) (16 : Int))) [],
      (!withinB (Int.ofNat (ByteArray.size (Sp.op s))) (1 : Int) (16 : Int)) = false,
      Contract Try.prog (29 : Nat) [I (Sp.start s), I (0 : Int), I (1099511627776 : Int)] [] (Bo (withinB (Sp.start s) (0 : Int) (1099511627776 : Int))) [],
      (!withinB (Sp.start s) (0 : Int) (1099511627776 : Int)) = false,
      Contract Try.prog (29 : Nat) [I (Sp.dur s), I (0 : Int), I (1073741824 : Int)] [] (Bo (withinB (Sp.dur s) (0 : Int) (1073741824 : Int))) [],
      (!withinB (Sp.dur s) (0 : Int) (1073741824 : Int)) = true] (by kernel_rfl)
    (by
      have d0 := tq0
      have d1 := tq1
      have d2 := tq2
      have d3 := tq3
      try simp only [Int.ofNat_eq_natCast, List.length_map, Bool.not_eq_true', Bool.not_eq_false', decide_eq_true_eq, decide_eq_false_iff_not] at d0 d1 d2 d3
      simp only [allP]
      and_intros <;> first
        | omega
        | exact cWithin _ _ _)

theorem rs2_4 (s : Sp) (hl : LoopC Try.prog 0 79 rsB (rsS s false 0) (.exit 0) (rsS s false s.attrs.length)) (tq0 : (!withinB (Int.ofNat (ByteArray.size (Sp.svc s))) (1 : Int) (16 : Int)) = false) (tq1 : (!withinB (Int.ofNat (ByteArray.size (Sp.op s))) (1 : Int) (16 : Int)) = false) (tq2 : (!withinB (Sp.start s) (0 : Int) (1099511627776 : Int)) = false) (tq3 : (!withinB (Sp.dur s) (0 : Int) (1073741824 : Int)) = false) (tq4 : (decide (Int.ofNat (List.length (List.map At.row (Sp.attrs s))) > (4 : Int))) = true) : Contract Try.prog 15 [s.v] [] (Bo false) ([]) :=
  vcP hmix [.reg 1 [(5, [], some false), (12, [], some false), (18, [], some false), (24, [], some false), (29, [], some true)], .tab [(29, FWithin)]] [] [
      Contract Try.prog (29 : Nat) [I (Int.ofNat (ByteArray.size (Sp.svc s))), I (1 : Int), I (16 : Int)] [] (Bo (withinB (Int.ofNat (ByteArray.size (Sp.svc s))) (1 : Int) (16 : Int))) [],
      (!withinB (Int.ofNat (ByteArray.size (Sp.svc s))) (1 : Int) (16 : Int)) = false,
      Contract Try.prog (29 : Nat) [I (Int.ofNat (ByteArray.size (Sp.op s))), I (1 : Int), I (16 : Int)] [] (Bo (withinB (Int.ofNat (ByteArray.size (Sp.op s))) (1 : Int) (16 : Int))) [],
      (!withinB (Int.ofNat (ByteArray.size (Sp.op s))) (1 : Int) (16 : Int)) = false,
      Contract Try.prog (29 : Nat) [I (Sp.start s), I (0 : Int), I (1099511627776 : Int)] [] (Bo (withinB (Sp.start s) (0 : Int) (1099511627776 : Int))) [],
      (!withinB (Sp.start s) (0 : Int) (1099511627776 : Int)) = false,
      Contract Try.prog (29 : Nat) [I (Sp.dur s), I (0 : Int), I (1073741824 : Int)] [] (Bo (withinB (Sp.dur s) (0 : Int) (1073741824 : Int))) [],
      (!withinB (Sp.dur s) (0 : Int) (1073741824 : Int)) = false,
      decide (Int.ofNat (List.length (List.map At.row (Sp.attrs s))) > (4 : Int)) = true] (by kernel_rfl)
    (by
      have d0 := tq0
      have d1 := tq1
      have d2 := tq2
      have d3 := tq3
      have d4 := tq4
      try simp only [Int.ofNat_eq_natCast, List.length_map, Bool.not_eq_true', Bool.not_eq_false', decide_eq_true_eq, decide_eq_false_iff_not] at d0 d1 d2 d3 d4
      simp only [allP]
      and_intros <;> first
        | omega
        | exact cWithin _ _ _)

theorem rs2_5 (s : Sp) (hl : LoopC Try.prog 0 79 rsB (rsS s false 0) (.exit 0) (rsS s false s.attrs.length)) (tq0 : (!withinB (Int.ofNat (ByteArray.size (Sp.svc s))) (1 : Int) (16 : Int)) = false) (tq1 : (!withinB (Int.ofNat (ByteArray.size (Sp.op s))) (1 : Int) (16 : Int)) = false) (tq2 : (!withinB (Sp.start s) (0 : Int) (1099511627776 : Int)) = false) (tq3 : (!withinB (Sp.dur s) (0 : Int) (1073741824 : Int)) = false) (tq4 : (decide (Int.ofNat (List.length (List.map At.row (Sp.attrs s))) > (4 : Int))) = false) : Contract Try.prog 15 [s.v] [] (Bo true) ([]) :=
  vcP hmix [.reg 1 [(5, [], some false), (12, [], some false), (18, [], some false), (24, [], some false), (29, [], some false)], .cut ⟨[1, 2, 3], [(1000, 1000)], []⟩ (.exit 0) (rsS s false s.attrs.length), .tab [(29, FWithin)]] [] [
      Contract Try.prog (29 : Nat) [I (Int.ofNat (ByteArray.size (Sp.svc s))), I (1 : Int), I (16 : Int)] [] (Bo (withinB (Int.ofNat (ByteArray.size (Sp.svc s))) (1 : Int) (16 : Int))) [],
      (!withinB (Int.ofNat (ByteArray.size (Sp.svc s))) (1 : Int) (16 : Int)) = false,
      Contract Try.prog (29 : Nat) [I (Int.ofNat (ByteArray.size (Sp.op s))), I (1 : Int), I (16 : Int)] [] (Bo (withinB (Int.ofNat (ByteArray.size (Sp.op s))) (1 : Int) (16 : Int))) [],
      (!withinB (Int.ofNat (ByteArray.size (Sp.op s))) (1 : Int) (16 : Int)) = false,
      Contract Try.prog (29 : Nat) [I (Sp.start s), I (0 : Int), I (1099511627776 : Int)] [] (Bo (withinB (Sp.start s) (0 : Int) (1099511627776 : Int))) [],
      (!withinB (Sp.start s) (0 : Int) (1099511627776 : Int)) = false,
      Contract Try.prog (29 : Nat) [I (Sp.dur s), I (0 : Int), I (1073741824 : Int)] [] (Bo (withinB (Sp.dur s) (0 : Int) (1073741824 : Int))) [],
      (!withinB (Sp.dur s) (0 : Int) (1073741824 : Int)) = false,
      decide (Int.ofNat (List.length (List.map At.row (Sp.attrs s))) > (4 : Int)) = false,
      LoopC Try.prog (0 : Nat) (79 : Nat) rsB { env := [((1 : Nat), V.ptr (1000 : Nat) (0 : Nat) (0 : Nat) (0 : Nat)), ((2 : Nat), Bo false), ((3 : Nat), I (0 : Int))], st := [((1000 : Nat), Obj.box [V.val (Value.int IntKind.u64 (Sp.hi s)), V.val (Value.int IntKind.u64 (Sp.lo s)), V.val (Value.int IntKind.u64 (Sp.id s)), V.val (Value.int IntKind.u64 (Sp.par s)), Sg (Sp.svc s), Sg (Sp.op s), I (Sp.start s), I (Sp.dur s), Bo (Sp.err s), V.sl (2 : Nat) (List.map At.row (Sp.attrs s))])], ids := [(1000 : Nat)] } (Ex.exit (0 : Nat)) { env := [((1 : Nat), V.ptr (1000 : Nat) (0 : Nat) (0 : Nat) (0 : Nat)), ((2 : Nat), Bo false), ((3 : Nat), I (Int.ofNat (List.length (Sp.attrs s))))], st := [((1000 : Nat), Obj.box (Sp.row s))], ids := [(1000 : Nat)] }] (by kernel_rfl)
    (by
      have d0 := tq0
      have d1 := tq1
      have d2 := tq2
      have d3 := tq3
      have d4 := tq4
      try simp only [Int.ofNat_eq_natCast, List.length_map, Bool.not_eq_true', Bool.not_eq_false', decide_eq_true_eq, decide_eq_false_iff_not] at d0 d1 d2 d3 d4
      simp only [allP]
      and_intros <;> first
        | omega
        | exact cWithin _ _ _
        | exact hl)

theorem rs2 (s : Sp) (hl : LoopC Try.prog 0 79 rsB (rsS s false 0) (.exit 0) (rsS s false s.attrs.length)) : Contract Try.prog 15 [s.v] [] (Bo (nameB s.svc && nameB s.op && withinB s.start 0 1099511627776 && withinB s.dur 0 1073741824 && decide ((s.attrs.length : Int) ≤ 4))) [] := by
  rcases tf (!withinB (Int.ofNat (ByteArray.size (Sp.svc s))) (1 : Int) (16 : Int)) with tq0 | tq0
  · exact Contract.cast (by
      first
        | ((try simp only [Int.ofNat_eq_natCast, List.length_map, Bool.not_eq_true', Bool.not_eq_false', decide_eq_true_eq, decide_eq_false_iff_not] at tq0); simp [nameB, tq0]; done)) (by
      first
        | rfl) (rs2_0 s hl tq0)
  · rcases tf (!withinB (Int.ofNat (ByteArray.size (Sp.op s))) (1 : Int) (16 : Int)) with tq1 | tq1
    · exact Contract.cast (by
        first
          | ((try simp only [Int.ofNat_eq_natCast, List.length_map, Bool.not_eq_true', Bool.not_eq_false', decide_eq_true_eq, decide_eq_false_iff_not] at tq0 tq1); simp [nameB, tq0, tq1]; done)) (by
        first
          | rfl) (rs2_1 s hl tq0 tq1)
    · rcases tf (!withinB (Sp.start s) (0 : Int) (1099511627776 : Int)) with tq2 | tq2
      · exact Contract.cast (by
          first
            | ((try simp only [Int.ofNat_eq_natCast, List.length_map, Bool.not_eq_true', Bool.not_eq_false', decide_eq_true_eq, decide_eq_false_iff_not] at tq0 tq1 tq2); simp [nameB, tq0, tq1, tq2]; done)) (by
          first
            | rfl) (rs2_2 s hl tq0 tq1 tq2)
      · rcases tf (!withinB (Sp.dur s) (0 : Int) (1073741824 : Int)) with tq3 | tq3
        · exact Contract.cast (by
            first
              | ((try simp only [Int.ofNat_eq_natCast, List.length_map, Bool.not_eq_true', Bool.not_eq_false', decide_eq_true_eq, decide_eq_false_iff_not] at tq0 tq1 tq2 tq3); simp [nameB, tq0, tq1, tq2, tq3]; done)) (by
            first
              | rfl) (rs2_3 s hl tq0 tq1 tq2 tq3)
        · rcases tf (decide (Int.ofNat (List.length (List.map At.row (Sp.attrs s))) > (4 : Int))) with tq4 | tq4
          · exact Contract.cast (by
              first
                | ((try simp only [Int.ofNat_eq_natCast, List.length_map, Bool.not_eq_true', Bool.not_eq_false', decide_eq_true_eq, decide_eq_false_iff_not] at tq0 tq1 tq2 tq3 tq4); refine congrArg _ ?_; simp [nameB, tq0, tq1, tq2, tq3, tq4]; done)) (by
              first
                | rfl) (rs2_4 s hl tq0 tq1 tq2 tq3 tq4)
          · exact Contract.cast (by
              first
                | ((try simp only [Int.ofNat_eq_natCast, List.length_map, Bool.not_eq_true', Bool.not_eq_false', decide_eq_true_eq, decide_eq_false_iff_not] at tq0 tq1 tq2 tq3 tq4); refine congrArg _ ?_; simp [nameB, tq0, tq1, tq2, tq3, tq4]; omega)) (by
              first
                | rfl) (rs2_5 s hl tq0 tq1 tq2 tq3 tq4)

theorem rs3_0 (s : Sp) (h : decide ((s.attrs.length : Int) ≤ 4) = false) (tq0 : (!withinB (Int.ofNat (ByteArray.size (Sp.svc s))) (1 : Int) (16 : Int)) = true) : Contract Try.prog 15 [s.v] [] (Bo false) ([]) :=
  vcP hmix [.reg 1 [(5, [], some true), (28, [], some true)], .tab [(29, FWithin)]] [] [
      Contract Try.prog (29 : Nat) [I (Int.ofNat (ByteArray.size (Sp.svc s))), I (1 : Int), I (16 : Int)] [] (Bo (withinB (Int.ofNat (ByteArray.size (Sp.svc s))) (1 : Int) (16 : Int))) [],
      (!withinB (Int.ofNat (ByteArray.size (Sp.svc s))) (1 : Int) (16 : Int)) = true] (by kernel_rfl)
    (by
      have d0 := tq0
      try simp only [Int.ofNat_eq_natCast, List.length_map, Bool.not_eq_true', Bool.not_eq_false', decide_eq_true_eq, decide_eq_false_iff_not] at d0
      simp only [allP]
      and_intros <;> first
        | omega
        | exact cWithin _ _ _)

theorem rs3_1 (s : Sp) (h : decide ((s.attrs.length : Int) ≤ 4) = false) (tq0 : (!withinB (Int.ofNat (ByteArray.size (Sp.svc s))) (1 : Int) (16 : Int)) = false) (tq1 : (!withinB (Int.ofNat (ByteArray.size (Sp.op s))) (1 : Int) (16 : Int)) = true) : Contract Try.prog 15 [s.v] [] (Bo false) ([]) :=
  vcP hmix [.reg 1 [(5, [], some false), (12, [], some true), (28, [], some true)], .tab [(29, FWithin)]] [] [
      Contract Try.prog (29 : Nat) [I (Int.ofNat (ByteArray.size (Sp.svc s))), I (1 : Int), I (16 : Int)] [] (Bo (withinB (Int.ofNat (ByteArray.size (Sp.svc s))) (1 : Int) (16 : Int))) [],
      (!withinB (Int.ofNat (ByteArray.size (Sp.svc s))) (1 : Int) (16 : Int)) = false,
      Contract Try.prog (29 : Nat) [I (Int.ofNat (ByteArray.size (Sp.op s))), I (1 : Int), I (16 : Int)] [] (Bo (withinB (Int.ofNat (ByteArray.size (Sp.op s))) (1 : Int) (16 : Int))) [],
      (!withinB (Int.ofNat (ByteArray.size (Sp.op s))) (1 : Int) (16 : Int)) = true] (by kernel_rfl)
    (by
      have d0 := tq0
      have d1 := tq1
      try simp only [Int.ofNat_eq_natCast, List.length_map, Bool.not_eq_true', Bool.not_eq_false', decide_eq_true_eq, decide_eq_false_iff_not] at d0 d1
      simp only [allP]
      and_intros <;> first
        | omega
        | exact cWithin _ _ _)

theorem rs3_2 (s : Sp) (h : decide ((s.attrs.length : Int) ≤ 4) = false) (tq0 : (!withinB (Int.ofNat (ByteArray.size (Sp.svc s))) (1 : Int) (16 : Int)) = false) (tq1 : (!withinB (Int.ofNat (ByteArray.size (Sp.op s))) (1 : Int) (16 : Int)) = false) (tq2 : (!withinB (Sp.start s) (0 : Int) (1099511627776 : Int)) = true) : Contract Try.prog 15 [s.v] [] (Bo false) ([]) :=
  vcP hmix [.reg 1 [(5, [], some false), (12, [], some false), (18, [], some true), (28, [], some true)], .tab [(29, FWithin)]] [] [
      Contract Try.prog (29 : Nat) [I (Int.ofNat (ByteArray.size (Sp.svc s))), I (1 : Int), I (16 : Int)] [] (Bo (withinB (Int.ofNat (ByteArray.size (Sp.svc s))) (1 : Int) (16 : Int))) [],
      (!withinB (Int.ofNat (ByteArray.size (Sp.svc s))) (1 : Int) (16 : Int)) = false,
      Contract Try.prog (29 : Nat) [I (Int.ofNat (ByteArray.size (Sp.op s))), I (1 : Int), I (16 : Int)] [] (Bo (withinB (Int.ofNat (ByteArray.size (Sp.op s))) (1 : Int) (16 : Int))) [],
      (!withinB (Int.ofNat (ByteArray.size (Sp.op s))) (1 : Int) (16 : Int)) = false,
      Contract Try.prog (29 : Nat) [I (Sp.start s), I (0 : Int), I (1099511627776 : Int)] [] (Bo (withinB (Sp.start s) (0 : Int) (1099511627776 : Int))) [],
      (!withinB (Sp.start s) (0 : Int) (1099511627776 : Int)) = true] (by kernel_rfl)
    (by
      have d0 := tq0
      have d1 := tq1
      have d2 := tq2
      try simp only [Int.ofNat_eq_natCast, List.length_map, Bool.not_eq_true', Bool.not_eq_false', decide_eq_true_eq, decide_eq_false_iff_not] at d0 d1 d2
      simp only [allP]
      and_intros <;> first
        | omega
        | exact cWithin _ _ _)

theorem rs3_3 (s : Sp) (h : decide ((s.attrs.length : Int) ≤ 4) = false) (tq0 : (!withinB (Int.ofNat (ByteArray.size (Sp.svc s))) (1 : Int) (16 : Int)) = false) (tq1 : (!withinB (Int.ofNat (ByteArray.size (Sp.op s))) (1 : Int) (16 : Int)) = false) (tq2 : (!withinB (Sp.start s) (0 : Int) (1099511627776 : Int)) = false) (tq3 : (!withinB (Sp.dur s) (0 : Int) (1073741824 : Int)) = true) : Contract Try.prog 15 [s.v] [] (Bo false) ([]) :=
  vcP hmix [.reg 1 [(5, [], some false), (12, [], some false), (18, [], some false), (24, [], some true), (28, [], some true)], .tab [(29, FWithin)]] [] [
      Contract Try.prog (29 : Nat) [I (Int.ofNat (ByteArray.size (Sp.svc s))), I (1 : Int), I (16 : Int)] [] (Bo (withinB (Int.ofNat (ByteArray.size (Sp.svc s))) (1 : Int) (16 : Int))) [],
      (!withinB (Int.ofNat (ByteArray.size (Sp.svc s))) (1 : Int) (16 : Int)) = false,
      Contract Try.prog (29 : Nat) [I (Int.ofNat (ByteArray.size (Sp.op s))), I (1 : Int), I (16 : Int)] [] (Bo (withinB (Int.ofNat (ByteArray.size (Sp.op s))) (1 : Int) (16 : Int))) [],
      (!withinB (Int.ofNat (ByteArray.size (Sp.op s))) (1 : Int) (16 : Int)) = false,
      Contract Try.prog (29 : Nat) [I (Sp.start s), I (0 : Int), I (1099511627776 : Int)] [] (Bo (withinB (Sp.start s) (0 : Int) (1099511627776 : Int))) [],
      (!withinB (Sp.start s) (0 : Int) (1099511627776 : Int)) = false,
      Contract Try.prog (29 : Nat) [I (Sp.dur s), I (0 : Int), I (1073741824 : Int)] [] (Bo (withinB (Sp.dur s) (0 : Int) (1073741824 : Int))) [],
      (!withinB (Sp.dur s) (0 : Int) (1073741824 : Int)) = true] (by kernel_rfl)
    (by
      have d0 := tq0
      have d1 := tq1
      have d2 := tq2
      have d3 := tq3
      try simp only [Int.ofNat_eq_natCast, List.length_map, Bool.not_eq_true', Bool.not_eq_false', decide_eq_true_eq, decide_eq_false_iff_not] at d0 d1 d2 d3
      simp only [allP]
      and_intros <;> first
        | omega
        | exact cWithin _ _ _)

theorem rs3_4 (s : Sp) (h : decide ((s.attrs.length : Int) ≤ 4) = false) (tq0 : (!withinB (Int.ofNat (ByteArray.size (Sp.svc s))) (1 : Int) (16 : Int)) = false) (tq1 : (!withinB (Int.ofNat (ByteArray.size (Sp.op s))) (1 : Int) (16 : Int)) = false) (tq2 : (!withinB (Sp.start s) (0 : Int) (1099511627776 : Int)) = false) (tq3 : (!withinB (Sp.dur s) (0 : Int) (1073741824 : Int)) = false) : Contract Try.prog 15 [s.v] [] (Bo false) ([]) :=
  vcP hmix [.reg 1 [(5, [], some false), (12, [], some false), (18, [], some false), (24, [], some false), (28, [], some true)], .tab [(29, FWithin)]] [] [
      Contract Try.prog (29 : Nat) [I (Int.ofNat (ByteArray.size (Sp.svc s))), I (1 : Int), I (16 : Int)] [] (Bo (withinB (Int.ofNat (ByteArray.size (Sp.svc s))) (1 : Int) (16 : Int))) [],
      (!withinB (Int.ofNat (ByteArray.size (Sp.svc s))) (1 : Int) (16 : Int)) = false,
      Contract Try.prog (29 : Nat) [I (Int.ofNat (ByteArray.size (Sp.op s))), I (1 : Int), I (16 : Int)] [] (Bo (withinB (Int.ofNat (ByteArray.size (Sp.op s))) (1 : Int) (16 : Int))) [],
      (!withinB (Int.ofNat (ByteArray.size (Sp.op s))) (1 : Int) (16 : Int)) = false,
      Contract Try.prog (29 : Nat) [I (Sp.start s), I (0 : Int), I (1099511627776 : Int)] [] (Bo (withinB (Sp.start s) (0 : Int) (1099511627776 : Int))) [],
      (!withinB (Sp.start s) (0 : Int) (1099511627776 : Int)) = false,
      Contract Try.prog (29 : Nat) [I (Sp.dur s), I (0 : Int), I (1073741824 : Int)] [] (Bo (withinB (Sp.dur s) (0 : Int) (1073741824 : Int))) [],
      (!withinB (Sp.dur s) (0 : Int) (1073741824 : Int)) = false,
      decide (Int.ofNat (List.length (List.map At.row (Sp.attrs s))) > (4 : Int)) = true] (by kernel_rfl)
    (by
      have d0 := tq0
      have d1 := tq1
      have d2 := tq2
      have d3 := tq3
      try simp only [Int.ofNat_eq_natCast, List.length_map, Bool.not_eq_true', Bool.not_eq_false', decide_eq_true_eq, decide_eq_false_iff_not] at d0 d1 d2 d3
      simp only [allP]
      and_intros <;> first
        | omega
        | exact cWithin _ _ _
        | (simp at h ⊢; omega))

theorem rs3 (s : Sp) (h : decide ((s.attrs.length : Int) ≤ 4) = false) : Contract Try.prog 15 [s.v] [] (Bo false) [] := by
  rcases tf (!withinB (Int.ofNat (ByteArray.size (Sp.svc s))) (1 : Int) (16 : Int)) with tq0 | tq0
  · exact Contract.cast (by
      first
        | rfl) (by
      first
        | rfl) (rs3_0 s h tq0)
  · rcases tf (!withinB (Int.ofNat (ByteArray.size (Sp.op s))) (1 : Int) (16 : Int)) with tq1 | tq1
    · exact Contract.cast (by
        first
          | rfl) (by
        first
          | rfl) (rs3_1 s h tq0 tq1)
    · rcases tf (!withinB (Sp.start s) (0 : Int) (1099511627776 : Int)) with tq2 | tq2
      · exact Contract.cast (by
          first
            | rfl) (by
          first
            | rfl) (rs3_2 s h tq0 tq1 tq2)
      · rcases tf (!withinB (Sp.dur s) (0 : Int) (1073741824 : Int)) with tq3 | tq3
        · exact Contract.cast (by
            first
              | rfl) (by
            first
              | rfl) (rs3_3 s h tq0 tq1 tq2 tq3)
        · exact Contract.cast (by
            first
              | rfl) (by
            first
              | rfl) (rs3_4 s h tq0 tq1 tq2 tq3)

theorem cRightR (s : Sp) : Contract Try.prog 15 [s.v] [] (Bo (rightS s)) [] := by
  unfold rightS
  rcases tf (decide ((s.attrs.length : Int) ≤ 4)) with h3 | h3
  · have hs : s.attrs.length ≤ 4 := by simp at h3; omega
    have hin : ∀ (i : Nat) (a : At), s.attrs[i]? = some a → (∃ j, LoopC Try.prog 0 79 rkB (rkS s false i 0) .ret (rkS s false i j) ∧ badA s.attrs i a = true) ∨ (LoopC Try.prog 0 79 rkB (rkS s false i 0) (.exit 2) (rkS s false i i) ∧ badA s.attrs i a = badN a) := by
      intro i a hx
      have hi := (List.getElem?_eq_some_iff.1 hx).1
      have e : (s.attrs.take i).length = i := by simp; omega
      have hy : ∀ (j : Nat) (b : At), (s.attrs.take i)[j]? = some b → j < i ∧ s.attrs[j]? = some b := fun j b h => by
        have h1 := (List.getElem?_eq_some_iff.1 h).1
        rw [e] at h1
        refine ⟨h1, ?_⟩
        rw [List.getElem?_take_of_lt h1] at h
        exact h
      rcases LoopC.search (P := Try.prog) (k := 0) (n := 79) (c := rkB) (s.attrs.take i) (fun _ b => pKey a b) (fun k => rkS s false i k) (fun k => rkS s false i k) (e1 := .ret) (e2 := .exit 2) (by simp) (by simp)
        (fun k b hb _ hp => rkGo s a b i k (hy k b hb).1 hx hi (hy k b hb).2 hs hp) (fun k b hb _ hp => rkStop s a b i k (hy k b hb).1 hx hi (hy k b hb).2 hs hp) (rkE s i _ (by omega)) with ⟨j, b, k1, k2, _, k4⟩ | ⟨k1, k2⟩
      · refine .inl ⟨j, k4, ?_⟩
        unfold badA
        rw [Bool.or_eq_true]
        right
        unfold idxI
        cases hf : (s.attrs.take i).findIdx? (pKey a) with
        | some m => simp
        | none => rw [List.findIdx?_eq_none_iff] at hf; have := hf b (List.mem_of_getElem? k1); rw [this] at k2; cases k2
      · refine .inr ⟨by rw [e] at k2; exact k2, ?_⟩
        unfold badA badN
        have : idxI (pKey a) (s.attrs.take i) = -1 := by
          unfold idxI
          cases hf : (s.attrs.take i).findIdx? (pKey a) with
          | none => rfl
          | some m => 
            obtain ⟨q1, q2, _⟩ := List.findIdx?_eq_some_iff_getElem.1 hf
            have := k1 m _ (List.getElem?_eq_getElem q1)
            rw [this] at q2; cases q2
        rw [this]; simp
    rcases LoopC.search (P := Try.prog) (k := 0) (n := 79) (c := rsB) s.attrs (badA s.attrs) (fun i => rsS s false i) (fun i => rsS s false i) (e1 := .ret) (e2 := .exit 0) (by simp) (by simp)
      (fun i a hx hi hb => by
        rcases hin i a hx with ⟨j, _, k2⟩ | ⟨k1, k2⟩
        · rw [k2] at hb; cases hb
        · exact rsXGo s a i hi hx hs k1 (k2 ▸ hb))
      (fun i a hx hi hb => by
        rcases hin i a hx with ⟨j, k1, k2⟩ | ⟨k1, k2⟩
        · exact rsY s a i j hi hx hs k1
        · exact rsXStop s a i hi hx hs k1 (k2 ▸ hb)) (rsE s _ (Nat.le_refl _)) with ⟨i, a, k1, k2, _, k4⟩ | ⟨k1, k2⟩
    · rw [attrs_bad k1 k2, Bool.and_false]; exact rs1 s i k4
    · rw [attrs_good k1]
      simp only [h3, Bool.and_true]
      have := rs2 s k2
      simp only [h3, Bool.and_true] at this
      exact this
  · rw [h3]; simp only [Bool.and_false, Bool.false_and]; exact rs3 s h3
end Go.Proofs.Ytigakemkanobaaa
