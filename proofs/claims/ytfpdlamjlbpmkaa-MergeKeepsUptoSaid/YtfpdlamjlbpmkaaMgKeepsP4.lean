/- spans: which may be, by the reference. -/
import Derived.Test.YtfpdlamjlbpmkaaMgKeepsP3
namespace Go.Proofs.Ytfpdlamjlbpmkaa
open E
set_option maxRecDepth 100000
set_option linter.unusedVariables false
set_option linter.unusedSimpArgs false

def rsS (s : Sp) (r : Bool) (i : Nat) : SL := ⟨[(1, .ptr 1000 0 0 0), (2, Bo r), (3, I (i : Int))], [(1000, .box s.row)], [1000]⟩
def rkS (s : Sp) (r : Bool) (i k : Nat) : SL := ⟨[(1, .ptr 1000 0 0 0), (2, Bo r), (3, I (i : Int)), (4, I (k : Int))], [(1000, .box s.row)], [1000]⟩
def badN (a : At) : Bool := !nameB a.key || decide ((a.val.size : Int) > 16)
def FWithin : List V → Option V
  | [.val (.int _ n), .val (.int _ lo), .val (.int _ hi)] => some (Bo (withinB n lo hi))
  | _ => none
noncomputable def rsB : Code := codeAt Try.prog 32 [true, true, false, true, false, false]

noncomputable def rkB : Code := codeAt Try.prog 32 [true, true, false, true, false, false, true, false, false, true, true, false, false]

theorem cWithin_0 (n lo hi : Int)  (tq0 : (decide (n ≥ lo)) = true) : Contract Try.prog 39 [I n, I lo, I hi] [] (Bo (decide (n ≤ hi))) ([]) :=
  vcP hmix [.reg 1 [(3, [], some true)]] [] [
      decide (n ≥ lo) = true] (by kernel_rfl)
    (by
      have d0 := tq0
      try simp only [Int.ofNat_eq_natCast, List.length_map, Bool.not_eq_true', Bool.not_eq_false', decide_eq_true_eq, decide_eq_false_iff_not] at d0
      simp only [allP]
      and_intros <;> first
        | omega)

theorem cWithin_1 (n lo hi : Int)  (tq0 : (decide (n ≥ lo)) = false) : Contract Try.prog 39 [I n, I lo, I hi] [] (Bo false) ([]) :=
  vcP hmix [.reg 1 [(3, [], some false)]] [] [
      decide (n ≥ lo) = false] (by kernel_rfl)
    (by
      have d0 := tq0
      try simp only [Int.ofNat_eq_natCast, List.length_map, Bool.not_eq_true', Bool.not_eq_false', decide_eq_true_eq, decide_eq_false_iff_not] at d0
      simp only [allP]
      and_intros <;> first
        | omega)

theorem cWithin (n lo hi : Int)  : Contract Try.prog 39 [I n, I lo, I hi] [] (Bo (withinB n lo hi)) [] := by
  rcases tf (decide (n ≥ lo)) with tq0 | tq0
  · exact Contract.cast (by
      first
        | (simp only [withinB, tq0, cond_true, cond_false]; rfl)) (by
      first
        | rfl) (cWithin_0 n lo hi  tq0)
  · exact Contract.cast (by
      first
        | (simp only [withinB, tq0, cond_true, cond_false]; rfl)) (by
      first
        | rfl) (cWithin_1 n lo hi  tq0)

theorem rk_0 (s : Sp) (a b : At) (i k : Nat) (h : k < i) (hx : s.attrs[i]? = some a) (hi : i < s.attrs.length) (hy : s.attrs[k]? = some b) (hs : s.attrs.length ≤ 4) (tq0 : (ByteArray.toList (At.key b) == ByteArray.toList (At.key a)) = true) : CodeC Try.prog 0 79 rkB (rkS s false i k) (Ex.ret) ({ env := [((1 : Nat), V.ptr (1000 : Nat) (0 : Nat) (0 : Nat) (0 : Nat)), ((2 : Nat), Bo false), ((3 : Nat), I (Int.ofNat i)), ((4 : Nat), I (Int.ofNat k))], st := [((1000 : Nat), Obj.box [V.val (Value.int IntKind.u64 (Sp.hi s)), V.val (Value.int IntKind.u64 (Sp.lo s)), V.val (Value.int IntKind.u64 (Sp.id s)), V.val (Value.int IntKind.u64 (Sp.par s)), Sg (Sp.svc s), Sg (Sp.op s), I (Sp.start s), I (Sp.dur s), Bo (Sp.err s), V.sl (2 : Nat) (List.map At.row (Sp.attrs s))])], ids := [(1000 : Nat)] }) :=
  runP hmix [.reg 9 [(2, [], some true)], .reg 11 [(5, [.row (At.row b)], none), (11, [.row (At.row a)], none), (12, [], some true)]] ⟨[1, 2, 3, 4], [(1000, 1000)], []⟩ [
      decide (Int.ofNat k < Int.ofNat i) = true,
      (0 : Int) ≤ Int.ofNat k,
      Int.ofNat k < Int.ofNat (List.length (List.map At.row (Sp.attrs s))),
      (List.map At.row (Sp.attrs s))[k]? = some (At.row b),
      (0 : Int) ≤ Int.ofNat i,
      Int.ofNat i < Int.ofNat (List.length (List.map At.row (Sp.attrs s))),
      (List.map At.row (Sp.attrs s))[i]? = some (At.row a),
      (ByteArray.toList (At.key b) == ByteArray.toList (At.key a)) = true] (by kernel_rfl)
    (by
      have d0 := tq0
      try simp only [Int.ofNat_eq_natCast, List.length_map, Bool.not_eq_true', Bool.not_eq_false', decide_eq_true_eq, decide_eq_false_iff_not] at d0
      simp only [allP]
      and_intros <;> first
        | omega
        | (simp; omega)
        | (simp [hx]; done)
        | (simp [hy]; done))

theorem rk_1 (s : Sp) (a b : At) (i k : Nat) (h : k < i) (hx : s.attrs[i]? = some a) (hi : i < s.attrs.length) (hy : s.attrs[k]? = some b) (hs : s.attrs.length ≤ 4) (tq0 : (ByteArray.toList (At.key b) == ByteArray.toList (At.key a)) = false) : CodeC Try.prog 0 79 rkB (rkS s false i k) (Ex.normal) ({ env := [((1 : Nat), V.ptr (1000 : Nat) (0 : Nat) (0 : Nat) (0 : Nat)), ((2 : Nat), Bo false), ((3 : Nat), I (Int.ofNat i)), ((4 : Nat), I (Int.ofNat (k + (1 : Nat))))], st := [((1000 : Nat), Obj.box [V.val (Value.int IntKind.u64 (Sp.hi s)), V.val (Value.int IntKind.u64 (Sp.lo s)), V.val (Value.int IntKind.u64 (Sp.id s)), V.val (Value.int IntKind.u64 (Sp.par s)), Sg (Sp.svc s), Sg (Sp.op s), I (Sp.start s), I (Sp.dur s), Bo (Sp.err s), V.sl (2 : Nat) (List.map At.row (Sp.attrs s))])], ids := [(1000 : Nat)] }) :=
  runP hmix [.reg 9 [(2, [], some true)], .reg 11 [(5, [.row (At.row b)], none), (11, [.row (At.row a)], none), (12, [], some false)], .reg 10 [(1, [.be (I ((k + 1 : Nat) : Int))], none)]] ⟨[1, 2, 3, 4], [(1000, 1000)], []⟩ [
      decide (Int.ofNat k < Int.ofNat i) = true,
      (0 : Int) ≤ Int.ofNat k,
      Int.ofNat k < Int.ofNat (List.length (List.map At.row (Sp.attrs s))),
      (List.map At.row (Sp.attrs s))[k]? = some (At.row b),
      (0 : Int) ≤ Int.ofNat i,
      Int.ofNat i < Int.ofNat (List.length (List.map At.row (Sp.attrs s))),
      (List.map At.row (Sp.attrs s))[i]? = some (At.row a),
      (ByteArray.toList (At.key b) == ByteArray.toList (At.key a)) = false,
      IntKind.wrap IntKind.i64 (Int.ofNat (k + (1 : Nat))) = Int.ofNat (k + (1 : Nat))] (by kernel_rfl)
    (by
      have d0 := tq0
      try simp only [Int.ofNat_eq_natCast, List.length_map, Bool.not_eq_true', Bool.not_eq_false', decide_eq_true_eq, decide_eq_false_iff_not] at d0
      simp only [allP]
      and_intros <;> first
        | omega
        | (simp; omega)
        | (simp [hx]; done)
        | (simp [hy]; done)
        | exact i64_small (by simp; omega))

theorem rkGo (s : Sp) (a b : At) (i k : Nat) (h : k < i) (hx : s.attrs[i]? = some a) (hi : i < s.attrs.length) (hy : s.attrs[k]? = some b) (hs : s.attrs.length ≤ 4) (hb : pKey a b = false) : CodeC Try.prog 0 79 rkB (rkS s false i k) .normal (rkS s false i (k + 1)) := by
  rcases tf (ByteArray.toList (At.key b) == ByteArray.toList (At.key a)) with tq0 | tq0
  · exact absurd hb (by
      first
        | (simp [pKey, tq0]; done))
  · exact CodeC.cast (by
      first
        | rfl) (rk_1 s a b i k h hx hi hy hs tq0)

theorem rkStop (s : Sp) (a b : At) (i k : Nat) (h : k < i) (hx : s.attrs[i]? = some a) (hi : i < s.attrs.length) (hy : s.attrs[k]? = some b) (hs : s.attrs.length ≤ 4) (hb : pKey a b = true) : CodeC Try.prog 0 79 rkB (rkS s false i k) .ret (rkS s false i k) := by
  rcases tf (ByteArray.toList (At.key b) == ByteArray.toList (At.key a)) with tq0 | tq0
  · exact CodeC.cast (by
      first
        | rfl) (rk_0 s a b i k h hx hi hy hs tq0)
  · exact absurd hb (by
      first
        | (simp [pKey, tq0]; done))

theorem rkE_0 (s : Sp) (i k : Nat) (h : i ≤ k) : CodeC Try.prog 0 79 rkB (rkS s false i k) (Ex.exit (2 : Nat)) ({ env := [((1 : Nat), V.ptr (1000 : Nat) (0 : Nat) (0 : Nat) (0 : Nat)), ((2 : Nat), Bo false), ((3 : Nat), I (Int.ofNat i)), ((4 : Nat), I (Int.ofNat k))], st := [((1000 : Nat), Obj.box [V.val (Value.int IntKind.u64 (Sp.hi s)), V.val (Value.int IntKind.u64 (Sp.lo s)), V.val (Value.int IntKind.u64 (Sp.id s)), V.val (Value.int IntKind.u64 (Sp.par s)), Sg (Sp.svc s), Sg (Sp.op s), I (Sp.start s), I (Sp.dur s), Bo (Sp.err s), V.sl (2 : Nat) (List.map At.row (Sp.attrs s))])], ids := [(1000 : Nat)] }) :=
  runP hmix [.reg 9 [(2, [], some false)]] ⟨[1, 2, 3, 4], [(1000, 1000)], []⟩ [
      decide (Int.ofNat k < Int.ofNat i) = false] (by kernel_rfl)
    (by
      simp only [allP]
      and_intros <;> first
        | (simp; omega))

theorem rkE (s : Sp) (i k : Nat) (h : i ≤ k)  : CodeC Try.prog 0 79 rkB (rkS s false i k) (.exit 2) (rkS s false i k) := by
  exact CodeC.cast (by
    first
      | rfl) (rkE_0 s i k h )

theorem rsX_0 (s : Sp) (a : At) (i : Nat) (h : i < s.attrs.length) (hx : s.attrs[i]? = some a) (hs : s.attrs.length ≤ 4) (hl : LoopC Try.prog 0 79 rkB (rkS s false i 0) (.exit 2) (rkS s false i i)) (tq0 : (!withinB (Int.ofNat (ByteArray.size (At.key a))) (1 : Int) (16 : Int)) = true) : CodeC Try.prog 0 79 rsB (rsS s false i) (Ex.ret) ({ env := [((1 : Nat), V.ptr (1000 : Nat) (0 : Nat) (0 : Nat) (0 : Nat)), ((2 : Nat), Bo false), ((3 : Nat), I (Int.ofNat i))], st := [((1000 : Nat), Obj.box [V.val (Value.int IntKind.u64 (Sp.hi s)), V.val (Value.int IntKind.u64 (Sp.lo s)), V.val (Value.int IntKind.u64 (Sp.id s)), V.val (Value.int IntKind.u64 (Sp.par s)), Sg (Sp.svc s), Sg (Sp.op s), I (Sp.start s), I (Sp.dur s), Bo (Sp.err s), V.sl (2 : Nat) (List.map At.row (Sp.attrs s))])], ids := [(1000 : Nat)] }) :=
  runP hmix [.reg 4 [(4, [], some true)], .reg 6 [(5, [.row (At.row a)], none), (9, [], some true)], .tab [(39, FWithin)]] ⟨[1, 2, 3], [(1000, 1000)], []⟩ [
      decide (Int.ofNat i < Int.ofNat (List.length (List.map At.row (Sp.attrs s)))) = true,
      (0 : Int) ≤ Int.ofNat i,
      Int.ofNat i < Int.ofNat (List.length (List.map At.row (Sp.attrs s))),
      (List.map At.row (Sp.attrs s))[i]? = some (At.row a),
      Contract Try.prog (39 : Nat) [I (Int.ofNat (ByteArray.size (At.key a))), I (1 : Int), I (16 : Int)] [] (Bo (withinB (Int.ofNat (ByteArray.size (At.key a))) (1 : Int) (16 : Int))) [],
      (!withinB (Int.ofNat (ByteArray.size (At.key a))) (1 : Int) (16 : Int)) = true] (by kernel_rfl)
    (by
      have d0 := tq0
      try simp only [Int.ofNat_eq_natCast, List.length_map, Bool.not_eq_true', Bool.not_eq_false', decide_eq_true_eq, decide_eq_false_iff_not] at d0
      simp only [allP]
      and_intros <;> first
        | omega
        | exact cWithin _ _ _
        | (simp; omega)
        | (simp [hx]; done))

theorem rsX_1 (s : Sp) (a : At) (i : Nat) (h : i < s.attrs.length) (hx : s.attrs[i]? = some a) (hs : s.attrs.length ≤ 4) (hl : LoopC Try.prog 0 79 rkB (rkS s false i 0) (.exit 2) (rkS s false i i)) (tq0 : (!withinB (Int.ofNat (ByteArray.size (At.key a))) (1 : Int) (16 : Int)) = false) (tq1 : (decide (Int.ofNat (ByteArray.size (At.val a)) > (16 : Int))) = true) : CodeC Try.prog 0 79 rsB (rsS s false i) (Ex.ret) ({ env := [((1 : Nat), V.ptr (1000 : Nat) (0 : Nat) (0 : Nat) (0 : Nat)), ((2 : Nat), Bo false), ((3 : Nat), I (Int.ofNat i))], st := [((1000 : Nat), Obj.box [V.val (Value.int IntKind.u64 (Sp.hi s)), V.val (Value.int IntKind.u64 (Sp.lo s)), V.val (Value.int IntKind.u64 (Sp.id s)), V.val (Value.int IntKind.u64 (Sp.par s)), Sg (Sp.svc s), Sg (Sp.op s), I (Sp.start s), I (Sp.dur s), Bo (Sp.err s), V.sl (2 : Nat) (List.map At.row (Sp.attrs s))])], ids := [(1000 : Nat)] }) :=
  runP hmix [.reg 4 [(4, [], some true)], .reg 6 [(5, [.row (At.row a)], none), (9, [], some false), (15, [.row (At.row a)], none), (18, [], some true)], .tab [(39, FWithin)]] ⟨[1, 2, 3], [(1000, 1000)], []⟩ [
      decide (Int.ofNat i < Int.ofNat (List.length (List.map At.row (Sp.attrs s)))) = true,
      (0 : Int) ≤ Int.ofNat i,
      Int.ofNat i < Int.ofNat (List.length (List.map At.row (Sp.attrs s))),
      (List.map At.row (Sp.attrs s))[i]? = some (At.row a),
      Contract Try.prog (39 : Nat) [I (Int.ofNat (ByteArray.size (At.key a))), I (1 : Int), I (16 : Int)] [] (Bo (withinB (Int.ofNat (ByteArray.size (At.key a))) (1 : Int) (16 : Int))) [],
      (!withinB (Int.ofNat (ByteArray.size (At.key a))) (1 : Int) (16 : Int)) = false,
      (0 : Int) ≤ Int.ofNat i,
      Int.ofNat i < Int.ofNat (List.length (List.map At.row (Sp.attrs s))),
      (List.map At.row (Sp.attrs s))[i]? = some (At.row a),
      decide (Int.ofNat (ByteArray.size (At.val a)) > (16 : Int)) = true] (by kernel_rfl)
    (by
      have d0 := tq0
      have d1 := tq1
      try simp only [Int.ofNat_eq_natCast, List.length_map, Bool.not_eq_true', Bool.not_eq_false', decide_eq_true_eq, decide_eq_false_iff_not] at d0 d1
      simp only [allP]
      and_intros <;> first
        | omega
        | exact cWithin _ _ _
        | (simp; omega)
        | (simp [hx]; done))

theorem rsX_2 (s : Sp) (a : At) (i : Nat) (h : i < s.attrs.length) (hx : s.attrs[i]? = some a) (hs : s.attrs.length ≤ 4) (hl : LoopC Try.prog 0 79 rkB (rkS s false i 0) (.exit 2) (rkS s false i i)) (tq0 : (!withinB (Int.ofNat (ByteArray.size (At.key a))) (1 : Int) (16 : Int)) = false) (tq1 : (decide (Int.ofNat (ByteArray.size (At.val a)) > (16 : Int))) = false) : CodeC Try.prog 0 79 rsB (rsS s false i) (Ex.normal) ({ env := [((1 : Nat), V.ptr (1000 : Nat) (0 : Nat) (0 : Nat) (0 : Nat)), ((2 : Nat), Bo false), ((3 : Nat), I (Int.ofNat (i + (1 : Nat))))], st := [((1000 : Nat), Obj.box [V.val (Value.int IntKind.u64 (Sp.hi s)), V.val (Value.int IntKind.u64 (Sp.lo s)), V.val (Value.int IntKind.u64 (Sp.id s)), V.val (Value.int IntKind.u64 (Sp.par s)), Sg (Sp.svc s), Sg (Sp.op s), I (Sp.start s), I (Sp.dur s), Bo (Sp.err s), V.sl (2 : Nat) (List.map At.row (Sp.attrs s))])], ids := [(1000 : Nat)] }) :=
  runP hmix [.reg 4 [(4, [], some true)], .reg 6 [(5, [.row (At.row a)], none), (9, [], some false), (15, [.row (At.row a)], none), (18, [], some false)], .cut ⟨[1, 2, 3, 4], [(1000, 1000)], []⟩ (.exit 2) (rkS s false i i), .reg 5 [(1, [.be (I ((i + 1 : Nat) : Int))], none)], .tab [(39, FWithin)]] ⟨[1, 2, 3], [(1000, 1000)], []⟩ [
      decide (Int.ofNat i < Int.ofNat (List.length (List.map At.row (Sp.attrs s)))) = true,
      (0 : Int) ≤ Int.ofNat i,
      Int.ofNat i < Int.ofNat (List.length (List.map At.row (Sp.attrs s))),
      (List.map At.row (Sp.attrs s))[i]? = some (At.row a),
      Contract Try.prog (39 : Nat) [I (Int.ofNat (ByteArray.size (At.key a))), I (1 : Int), I (16 : Int)] [] (Bo (withinB (Int.ofNat (ByteArray.size (At.key a))) (1 : Int) (16 : Int))) [],
      (!withinB (Int.ofNat (ByteArray.size (At.key a))) (1 : Int) (16 : Int)) = false,
      (0 : Int) ≤ Int.ofNat i,
      Int.ofNat i < Int.ofNat (List.length (List.map At.row (Sp.attrs s))),
      (List.map At.row (Sp.attrs s))[i]? = some (At.row a),
      decide (Int.ofNat (ByteArray.size (At.val a)) > (16 : Int)) = false,
      LoopC Try.prog (0 : Nat) (79 : Nat) rkB { env := [((1 : Nat), V.ptr (1000 : Nat) (0 : Nat) (0 : Nat) (0 : Nat)), ((2 : Nat), Bo false), ((3 : Nat), I (Int.ofNat i)), ((4 : Nat), I (0 : Int))], st := [((1000 : Nat), Obj.box [V.val (Value.int IntKind.u64 (Sp.hi s)), V.val (Value.int IntKind.u64 (Sp.lo s)), V.val (Value.int IntKind.u64 (Sp.id s)), V.val (Value.int IntKind.u64 (Sp.par s)), Sg (Sp.svc s), Sg (Sp.op s), I (Sp.start s), I (Sp.dur s), Bo (Sp.err s), V.sl (2 : Nat) (List.map At.row (Sp.attrs s))])], ids := [(1000 : Nat)] } (Ex.exit (2 : Nat)) { env := [((1 : Nat), V.ptr (1000 : Nat) (0 : Nat) (0 : Nat) (0 : Nat)), ((2 : Nat), Bo false), ((3 : Nat), I (Int.ofNat i)), ((4 : Nat), I (Int.ofNat i))], st := [((1000 : Nat), Obj.box (Sp.row s))], ids := [(1000 : Nat)] },
      IntKind.wrap IntKind.i64 (Int.ofNat (i + (1 : Nat))) = Int.ofNat (i + (1 : Nat))] (by kernel_rfl)
    (by
      have d0 := tq0
      have d1 := tq1
      try simp only [Int.ofNat_eq_natCast, List.length_map, Bool.not_eq_true', Bool.not_eq_false', decide_eq_true_eq, decide_eq_false_iff_not] at d0 d1
      simp only [allP]
      and_intros <;> first
        | omega
        | exact cWithin _ _ _
        | (simp; omega)
        | (simp [hx]; done)
        | exact i64_small (by simp; omega)
        | exact hl)

theorem rsXGo (s : Sp) (a : At) (i : Nat) (h : i < s.attrs.length) (hx : s.attrs[i]? = some a) (hs : s.attrs.length ≤ 4) (hl : LoopC Try.prog 0 79 rkB (rkS s false i 0) (.exit 2) (rkS s false i i)) (hb : badN a = false) : CodeC Try.prog 0 79 rsB (rsS s false i) .normal (rsS s false (i + 1)) := by
  rcases tf (!withinB (Int.ofNat (ByteArray.size (At.key a))) (1 : Int) (16 : Int)) with tq0 | tq0
  · exact absurd hb (by
      first
        | ((try simp only [Int.ofNat_eq_natCast, List.length_map, Bool.not_eq_true', Bool.not_eq_false', decide_eq_true_eq, decide_eq_false_iff_not] at tq0); simp [badN, nameB, tq0]; done))
  · rcases tf (decide (Int.ofNat (ByteArray.size (At.val a)) > (16 : Int))) with tq1 | tq1
    · exact absurd hb (by
        first
          | ((try simp only [Int.ofNat_eq_natCast, List.length_map, Bool.not_eq_true', Bool.not_eq_false', decide_eq_true_eq, decide_eq_false_iff_not] at tq0 tq1); simp [badN, nameB, tq0, tq1]; done))
    · exact CodeC.cast (by
        first
          | rfl) (rsX_2 s a i h hx hs hl tq0 tq1)

theorem rsXStop (s : Sp) (a : At) (i : Nat) (h : i < s.attrs.length) (hx : s.attrs[i]? = some a) (hs : s.attrs.length ≤ 4) (hl : LoopC Try.prog 0 79 rkB (rkS s false i 0) (.exit 2) (rkS s false i i)) (hb : badN a = true) : CodeC Try.prog 0 79 rsB (rsS s false i) .ret (rsS s false i) := by
  rcases tf (!withinB (Int.ofNat (ByteArray.size (At.key a))) (1 : Int) (16 : Int)) with tq0 | tq0
  · exact CodeC.cast (by
      first
        | rfl) (rsX_0 s a i h hx hs hl tq0)
  · rcases tf (decide (Int.ofNat (ByteArray.size (At.val a)) > (16 : Int))) with tq1 | tq1
    · exact CodeC.cast (by
        first
          | rfl) (rsX_1 s a i h hx hs hl tq0 tq1)
    · exact absurd hb (by
        first
          | ((try simp only [Int.ofNat_eq_natCast, List.length_map, Bool.not_eq_true', Bool.not_eq_false', decide_eq_true_eq, decide_eq_false_iff_not] at tq0 tq1); simp [badN, nameB, tq0, tq1]; done))

theorem rsY_0 (s : Sp) (a : At) (i k : Nat) (h : i < s.attrs.length) (hx : s.attrs[i]? = some a) (hs : s.attrs.length ≤ 4) (hl : LoopC Try.prog 0 79 rkB (rkS s false i 0) .ret (rkS s false i k)) (tq0 : (!withinB (Int.ofNat (ByteArray.size (At.key a))) (1 : Int) (16 : Int)) = true) : CodeC Try.prog 0 79 rsB (rsS s false i) (Ex.ret) ({ env := [((1 : Nat), V.ptr (1000 : Nat) (0 : Nat) (0 : Nat) (0 : Nat)), ((2 : Nat), Bo false), ((3 : Nat), I (Int.ofNat i))], st := [((1000 : Nat), Obj.box [V.val (Value.int IntKind.u64 (Sp.hi s)), V.val (Value.int IntKind.u64 (Sp.lo s)), V.val (Value.int IntKind.u64 (Sp.id s)), V.val (Value.int IntKind.u64 (Sp.par s)), Sg (Sp.svc s), Sg (Sp.op s), I (Sp.start s), I (Sp.dur s), Bo (Sp.err s), V.sl (2 : Nat) (List.map At.row (Sp.attrs s))])], ids := [(1000 : Nat)] }) :=
  runP hmix [.reg 4 [(4, [], some true)], .reg 6 [(5, [.row (At.row a)], none), (9, [], some true)], .tab [(39, FWithin)]] ⟨[1, 2, 3], [(1000, 1000)], []⟩ [
      decide (Int.ofNat i < Int.ofNat (List.length (List.map At.row (Sp.attrs s)))) = true,
      (0 : Int) ≤ Int.ofNat i,
      Int.ofNat i < Int.ofNat (List.length (List.map At.row (Sp.attrs s))),
      (List.map At.row (Sp.attrs s))[i]? = some (At.row a),
      Contract Try.prog (39 : Nat) [I (Int.ofNat (ByteArray.size (At.key a))), I (1 : Int), I (16 : Int)] [] (Bo (withinB (Int.ofNat (ByteArray.size (At.key a))) (1 : Int) (16 : Int))) [],
      (!withinB (Int.ofNat (ByteArray.size (At.key a))) (1 : Int) (16 : Int)) = true] (by kernel_rfl)
    (by
      have d0 := tq0
      try simp only [Int.ofNat_eq_natCast, List.length_map, Bool.not_eq_true', Bool.not_eq_false', decide_eq_true_eq, decide_eq_false_iff_not] at d0
      simp only [allP]
      and_intros <;> first
        | omega
        | exact cWithin _ _ _
        | (simp; omega)
        | (simp [hx]; done))

theorem rsY_1 (s : Sp) (a : At) (i k : Nat) (h : i < s.attrs.length) (hx : s.attrs[i]? = some a) (hs : s.attrs.length ≤ 4) (hl : LoopC Try.prog 0 79 rkB (rkS s false i 0) .ret (rkS s false i k)) (tq0 : (!withinB (Int.ofNat (ByteArray.size (At.key a))) (1 : Int) (16 : Int)) = false) (tq1 : (decide (Int.ofNat (ByteArray.size (At.val a)) > (16 : Int))) = true) : CodeC Try.prog 0 79 rsB (rsS s false i) (Ex.ret) ({ env := [((1 : Nat), V.ptr (1000 : Nat) (0 : Nat) (0 : Nat) (0 : Nat)), ((2 : Nat), Bo false), ((3 : Nat), I (Int.ofNat i))], st := [((1000 : Nat), Obj.box [V.val (Value.int IntKind.u64 (Sp.hi s)), V.val (Value.int IntKind.u64 (Sp.lo s)), V.val (Value.int IntKind.u64 (Sp.id s)), V.val (Value.int IntKind.u64 (Sp.par s)), Sg (Sp.svc s), Sg (Sp.op s), I (Sp.start s), I (Sp.dur s), Bo (Sp.err s), V.sl (2 : Nat) (List.map At.row (Sp.attrs s))])], ids := [(1000 : Nat)] }) :=
  runP hmix [.reg 4 [(4, [], some true)], .reg 6 [(5, [.row (At.row a)], none), (9, [], some false), (15, [.row (At.row a)], none), (18, [], some true)], .tab [(39, FWithin)]] ⟨[1, 2, 3], [(1000, 1000)], []⟩ [
      decide (Int.ofNat i < Int.ofNat (List.length (List.map At.row (Sp.attrs s)))) = true,
      (0 : Int) ≤ Int.ofNat i,
      Int.ofNat i < Int.ofNat (List.length (List.map At.row (Sp.attrs s))),
      (List.map At.row (Sp.attrs s))[i]? = some (At.row a),
      Contract Try.prog (39 : Nat) [I (Int.ofNat (ByteArray.size (At.key a))), I (1 : Int), I (16 : Int)] [] (Bo (withinB (Int.ofNat (ByteArray.size (At.key a))) (1 : Int) (16 : Int))) [],
      (!withinB (Int.ofNat (ByteArray.size (At.key a))) (1 : Int) (16 : Int)) = false,
      (0 : Int) ≤ Int.ofNat i,
      Int.ofNat i < Int.ofNat (List.length (List.map At.row (Sp.attrs s))),
      (List.map At.row (Sp.attrs s))[i]? = some (At.row a),
      decide (Int.ofNat (ByteArray.size (At.val a)) > (16 : Int)) = true] (by kernel_rfl)
    (by
      have d0 := tq0
      have d1 := tq1
      try simp only [Int.ofNat_eq_natCast, List.length_map, Bool.not_eq_true', Bool.not_eq_false', decide_eq_true_eq, decide_eq_false_iff_not] at d0 d1
      simp only [allP]
      and_intros <;> first
        | omega
        | exact cWithin _ _ _
        | (simp; omega)
        | (simp [hx]; done))

theorem rsY_2 (s : Sp) (a : At) (i k : Nat) (h : i < s.attrs.length) (hx : s.attrs[i]? = some a) (hs : s.attrs.length ≤ 4) (hl : LoopC Try.prog 0 79 rkB (rkS s false i 0) .ret (rkS s false i k)) (tq0 : (!withinB (Int.ofNat (ByteArray.size (At.key a))) (1 : Int) (16 : Int)) = false) (tq1 : (decide (Int.ofNat (ByteArray.size (At.val a)) > (16 : Int))) = false) : CodeC Try.prog 0 79 rsB (rsS s false i) (Ex.ret) ({ env := [((1 : Nat), V.ptr (1000 : Nat) (0 : Nat) (0 : Nat) (0 : Nat)), ((2 : Nat), Bo false), ((3 : Nat), I (Int.ofNat i))], st := [((1000 : Nat), Obj.box [V.val (Value.int IntKind.u64 (Sp.hi s)), V.val (Value.int IntKind.u64 (Sp.lo s)), V.val (Value.int IntKind.u64 (Sp.id s)), V.val (Value.int IntKind.u64 (Sp.par s)), Sg (Sp.svc s), Sg (Sp.op s), I (Sp.start s), I (Sp.dur s), Bo (Sp.err s), V.sl (2 : Nat) (List.map At.row (Sp.attrs s))])], ids := [(1000 : Nat)] }) :=
  runP hmix [.reg 4 [(4, [], some true)], .reg 6 [(5, [.row (At.row a)], none), (9, [], some false), (15, [.row (At.row a)], none), (18, [], some false)], .cut ⟨[1, 2, 3, 4], [(1000, 1000)], []⟩ .ret (rkS s false i k), .tab [(39, FWithin)]] ⟨[1, 2, 3], [(1000, 1000)], []⟩ [
      decide (Int.ofNat i < Int.ofNat (List.length (List.map At.row (Sp.attrs s)))) = true,
      (0 : Int) ≤ Int.ofNat i,
      Int.ofNat i < Int.ofNat (List.length (List.map At.row (Sp.attrs s))),
      (List.map At.row (Sp.attrs s))[i]? = some (At.row a),
      Contract Try.prog (39 : Nat) [I (Int.ofNat (ByteArray.size (At.key a))), I (1 : Int), I (16 : Int)] [] (Bo (withinB (Int.ofNat (ByteArray.size (At.key a))) (1 : Int) (16 : Int))) [],
      (!withinB (Int.ofNat (ByteArray.size (At.key a))) (1 : Int) (16 : Int)) = false,
      (0 : Int) ≤ Int.ofNat i,
      Int.ofNat i < Int.ofNat (List.length (List.map At.row (Sp.attrs s))),
      (List.map At.row (Sp.attrs s))[i]? = some (At.row a),
      decide (Int.ofNat (ByteArray.size (At.val a)) > (16 : Int)) = false,
      LoopC Try.prog (0 : Nat) (79 : Nat) rkB { env := [((1 : Nat), V.ptr (1000 : Nat) (0 : Nat) (0 : Nat) (0 : Nat)), ((2 : Nat), Bo false), ((3 : Nat), I (Int.ofNat i)), ((4 : Nat), I (0 : Int))], st := [((1000 : Nat), Obj.box [V.val (Value.int IntKind.u64 (Sp.hi s)), V.val (Value.int IntKind.u64 (Sp.lo s)), V.val (Value.int IntKind.u64 (Sp.id s)), V.val (Value.int IntKind.u64 (Sp.par s)), Sg (Sp.svc s), Sg (Sp.op s), I (Sp.start s), I (Sp.dur s), Bo (Sp.err s), V.sl (2 : Nat) (List.map At.row (Sp.attrs s))])], ids := [(1000 : Nat)] } Ex.ret { env := [((1 : Nat), V.ptr (1000 : Nat) (0 : Nat) (0 : Nat) (0 : Nat)), ((2 : Nat), Bo false), ((3 : Nat), I (Int.ofNat i)), ((4 : Nat), I (Int.ofNat k))], st := [((1000 : Nat), Obj.box (Sp.row s))], ids := [(1000 : Nat)] }] (by kernel_rfl)
    (by
      have d0 := tq0
      have d1 := tq1
      try simp only [Int.ofNat_eq_natCast, List.length_map, Bool.not_eq_true', Bool.not_eq_false', decide_eq_true_eq, decide_eq_false_iff_not] at d0 d1
      simp only [allP]
      and_intros <;> first
        | omega
        | exact cWithin _ _ _
        | (simp; omega)
        | (simp [hx]; done)
        | exact hl)

theorem rsY (s : Sp) (a : At) (i k : Nat) (h : i < s.attrs.length) (hx : s.attrs[i]? = some a) (hs : s.attrs.length ≤ 4) (hl : LoopC Try.prog 0 79 rkB (rkS s false i 0) .ret (rkS s false i k))  : CodeC Try.prog 0 79 rsB (rsS s false i) .ret (rsS s false i) := by
  rcases tf (!withinB (Int.ofNat (ByteArray.size (At.key a))) (1 : Int) (16 : Int)) with tq0 | tq0
  · exact CodeC.cast (by
      first
        | rfl) (rsY_0 s a i k h hx hs hl tq0)
  · rcases tf (decide (Int.ofNat (ByteArray.size (At.val a)) > (16 : Int))) with tq1 | tq1
    · exact CodeC.cast (by
        first
          | rfl) (rsY_1 s a i k h hx hs hl tq0 tq1)
    · exact CodeC.cast (by
        first
          | rfl) (rsY_2 s a i k h hx hs hl tq0 tq1)

theorem rsE_0 (s : Sp) (i : Nat) (h : s.attrs.length ≤ i) : CodeC Try.prog 0 79 rsB (rsS s false i) (Ex.exit (0 : Nat)) ({ env := [((1 : Nat), V.ptr (1000 : Nat) (0 : Nat) (0 : Nat) (0 : Nat)), ((2 : Nat), Bo false), ((3 : Nat), I (Int.ofNat i))], st := [((1000 : Nat), Obj.box [V.val (Value.int IntKind.u64 (Sp.hi s)), V.val (Value.int IntKind.u64 (Sp.lo s)), V.val (Value.int IntKind.u64 (Sp.id s)), V.val (Value.int IntKind.u64 (Sp.par s)), Sg (Sp.svc s), Sg (Sp.op s), I (Sp.start s), I (Sp.dur s), Bo (Sp.err s), V.sl (2 : Nat) (List.map At.row (Sp.attrs s))])], ids := [(1000 : Nat)] }) :=
  runP hmix [.reg 4 [(4, [], some false)]] ⟨[1, 2, 3], [(1000, 1000)], []⟩ [
      decide (Int.ofNat i < Int.ofNat (List.length (List.map At.row (Sp.attrs s)))) = false] (by kernel_rfl)
    (by
      simp only [allP]
      and_intros <;> first
        | (simp; omega))

theorem rsE (s : Sp) (i : Nat) (h : s.attrs.length ≤ i)  : CodeC Try.prog 0 79 rsB (rsS s false i) (.exit 0) (rsS s false i) := by
  exact CodeC.cast (by
    first
      | rfl) (rsE_0 s i h )

theorem rs1_0 (s : Sp) (i : Nat) (hl : LoopC Try.prog 0 79 rsB (rsS s false 0) .ret (rsS s false i)) (tq0 : (!withinB (Int.ofNat (ByteArray.size (Sp.svc s))) (1 : Int) (16 : Int)) = true) : Contract Try.prog 32 [s.v] [] (Bo false) ([]) :=
  vcP hmix [.reg 1 [(5, [], some true)], .tab [(39, FWithin)]] [] [
      Contract Try.prog (39 : Nat) [I (Int.ofNat (ByteArray.size (Sp.svc s))), I (1 : Int), I (16 : Int)] [] (Bo (withinB (Int.ofNat (ByteArray.size (Sp.svc s))) (1 : Int) (16 : Int))) [],
      (!withinB (Int.ofNat (ByteArray.size (Sp.svc s))) (1 : Int) (16 : Int)) = true] (by kernel_rfl)
    (by
      have d0 := tq0
      try simp only [Int.ofNat_eq_natCast, List.length_map, Bool.not_eq_true', Bool.not_eq_false', decide_eq_true_eq, decide_eq_false_iff_not] at d0
      simp only [allP]
      and_intros <;> first
        | omega
        | exact cWithin _ _ _)

theorem rs1_1 (s : Sp) (i : Nat) (hl : LoopC Try.prog 0 79 rsB (rsS s false 0) .ret (rsS s false i)) (tq0 : (!withinB (Int.ofNat (ByteArray.size (Sp.svc s))) (1 : Int) (16 : Int)) = false) (tq1 : (!withinB (Int.ofNat (ByteArray.size (Sp.op s))) (1 : Int) (16 : Int)) = true) : Contract Try.prog 32 [s.v] [] (Bo false) ([]) :=
  vcP hmix [.reg 1 [(5, [], some false), (12, [], some true)], .tab [(39, FWithin)]] [] [
      Contract Try.prog (39 : Nat) [I (Int.ofNat (ByteArray.size (Sp.svc s))), I (1 : Int), I (16 : Int)] [] (Bo (withinB (Int.ofNat (ByteArray.size (Sp.svc s))) (1 : Int) (16 : Int))) [],
      (!withinB (Int.ofNat (ByteArray.size (Sp.svc s))) (1 : Int) (16 : Int)) = false,
      Contract Try.prog (39 : Nat) [I (Int.ofNat (ByteArray.size (Sp.op s))), I (1 : Int), I (16 : Int)] [] (Bo (withinB (Int.ofNat (ByteArray.size (Sp.op s))) (1 : Int) (16 : Int))) [],
      (!withinB (Int.ofNat (ByteArray.size (Sp.op s))) (1 : Int) (16 : Int)) = true] (by kernel_rfl)
    (by
      have d0 := tq0
      have d1 := tq1
      try simp only [Int.ofNat_eq_natCast, List.length_map, Bool.not_eq_true', Bool.not_eq_false', decide_eq_true_eq, decide_eq_false_iff_not] at d0 d1
      simp only [allP]
      and_intros <;> first
        | omega
        | exact cWithin _ _ _)

theorem rs1_2 (s : Sp) (i : Nat) (hl : LoopC Try.prog 0 79 rsB (rsS s false 0) .ret (rsS s false i)) (tq0 : (!withinB (Int.ofNat (ByteArray.size (Sp.svc s))) (1 : Int) (16 : Int)) = false) (tq1 : (!withinB (Int.ofNat (ByteArray.size (Sp.op s))) (1 : Int) (16 : Int)) = false) (tq2 : (!withinB (Sp.start s) (0 : Int) (1099511627776 : Int)) = true) : Contract Try.prog 32 [s.v] [] (Bo false) ([]) :=
  vcP hmix [.reg 1 [(5, [], some false), (12, [], some false), (18, [], some true)], .tab [(39, FWithin)]] [] [
      Contract Try.prog (39 : Nat) [I (Int.ofNat (ByteArray.size (Sp.svc s))), I (1 : Int), I (16 : Int)] [] (Bo (withinB (Int.ofNat (ByteArray.size (Sp.svc s))) (1 : Int) (16 : Int))) [],
      (!withinB (Int.ofNat (ByteArray.size (Sp.svc s))) (1 : Int) (16 : Int)) = false,
      Contract Try.prog (39 : Nat) [I (Int.ofNat (ByteArray.size (Sp.op s))), I (1 : Int), I (16 : Int)] [] (Bo (withinB (Int.ofNat (ByteArray.size (Sp.op s))) (1 : Int) (16 : Int))) [],
      (!withinB (Int.ofNat (ByteArray.size (Sp.op s))) (1 : Int) (16 : Int)) = false,
      Contract Try.prog (39 : Nat) [I (Sp.start s), I (0 : Int), I (1099511627776 : Int)] [] (Bo (withinB (Sp.start s) (0 : Int) (1099511627776 : Int))) [],
      (!withinB (Sp.start s) (0 : Int) (1099511627776 : Int)) = true] (by kernel_rfl)
    (by
      have d0 := tq0
      have d1 := tq1
      have d2 := tq2
      try simp only [Int.ofNat_eq_natCast, List.length_map, Bool.not_eq_true', Bool.not_eq_false', decide_eq_true_eq, decide_eq_false_iff_not] at d0 d1 d2
      simp only [allP]
      and_intros <;> first
        | omega
        | exact cWithin _ _ _)

theorem rs1_3 (s : Sp) (i : Nat) (hl : LoopC Try.prog 0 79 rsB (rsS s false 0) .ret (rsS s false i)) (tq0 : (!withinB (Int.ofNat (ByteArray.size (Sp.svc s))) (1 : Int) (16 : Int)) = false) (tq1 : (!withinB (Int.ofNat (ByteArray.size (Sp.op s))) (1 : Int) (16 : Int)) = false) (tq2 : (!withinB (Sp.start s) (0 : Int) (1099511627776 : Int)) = false) (tq3 : (!withinB (Sp.dur s) (0 : Int) (1073741824 : Int)) = true) : Contract Try.prog 32 [s.v] [] (Bo false) ([]) :=
  vcP hmix [.reg 1 [(5, [], some false), (12, [], some false), (18, [], some false), (24, [], some true)], .tab [(39, FWithin)]] [] [
      Contract Try.prog (39 : Nat) [I (Int.ofNat (ByteArray.size (Sp.svc s))), I (1 : Int), I (16 : Int)] [] (Bo (withinB (Int.ofNat (ByteArray.size (Sp.svc s))) (1 : Int) (16 : Int))) [],
      (!withinB (Int.ofNat (ByteArray.size (Sp.svc s))) (1 : Int) (16 : Int)) = false,
      Contract Try.prog (39 : Nat) [I (Int.ofNat (ByteArray.size (Sp.op s))), I (1 : Int), I (16 : Int)] [] (Bo (withinB (Int.ofNat (ByteArray.size (Sp.op s))) (1 : Int) (16 : Int))) [],
      (!withinB (Int.ofNat (ByteArray.size (Sp.op s))) (1 : Int) (16 : Int)) = false,
      Contract Try.prog (39 : Nat) [I (Sp.start s), I (0 : Int), I (1099511627776 : Int)] [] (Bo (withinB (Sp.start s) (0 : Int) (1099511627776 : Int))) [],
      (!withinB (Sp.start s) (0 : Int) (1099511627776 : Int)) = false,
      Contract Try.prog (39 : Nat) [I (Sp.dur s), I (0 : Int), I (1073741824 : Int)] [] (Bo (withinB (Sp.dur s) (0 : Int) (1073741824 : Int))) [],
      (!withinB (Sp.dur s) (0 : Int) (1073741824 : Int)) = true] (by kernel_rfl)
    (by
      have d0 := tq0
      have d1 := tq1
      have d2 := tq2
      have d3 := tq3
      try simp only [Int.ofNat_eq_natCast, List.length_map, Bool.not_eq_true', Bool.not_eq_false', decide_eq_true_eq, decide_eq_false_iff_not] at d0 d1 d2 d3
      simp only [allP]
      and_intros <;> first
        | omega
        | exact cWithin _ _ _)

theorem rs1_4 (s : Sp) (i : Nat) (hl : LoopC Try.prog 0 79 rsB (rsS s false 0) .ret (rsS s false i)) (tq0 : (!withinB (Int.ofNat (ByteArray.size (Sp.svc s))) (1 : Int) (16 : Int)) = false) (tq1 : (!withinB (Int.ofNat (ByteArray.size (Sp.op s))) (1 : Int) (16 : Int)) = false) (tq2 : (!withinB (Sp.start s) (0 : Int) (1099511627776 : Int)) = false) (tq3 : (!withinB (Sp.dur s) (0 : Int) (1073741824 : Int)) = false) (tq4 : (decide (Int.ofNat (List.length (List.map At.row (Sp.attrs s))) > (4 : Int))) = true) : Contract Try.prog 32 [s.v] [] (Bo false) ([]) :=
  vcP hmix [.reg 1 [(5, [], some false), (12, [], some false), (18, [], some false), (24, [], some false), (29, [], some true)], .tab [(39, FWithin)]] [] [
      Contract Try.prog (39 : Nat) [I (Int.ofNat (ByteArray.size (Sp.svc s))), I (1 : Int), I (16 : Int)] [] (Bo (withinB (Int.ofNat (ByteArray.size (Sp.svc s))) (1 : Int) (16 : Int))) [],
      (!withinB (Int.ofNat (ByteArray.size (Sp.svc s))) (1 : Int) (16 : Int)) = false,
      Contract Try.prog (39 : Nat) [I (Int.ofNat (ByteArray.size (Sp.op s))), I (1 : Int), I (16 : Int)] [] (Bo (withinB (Int.ofNat (ByteArray.size (Sp.op s))) (1 : Int) (16 : Int))) [],
      (!withinB (Int.ofNat (ByteArray.size (Sp.op s))) (1 : Int) (16 : Int)) = false,
      Contract Try.prog (39 : Nat) [I (Sp.start s), I (0 : Int), I (1099511627776 : Int)] [] (Bo (withinB (Sp.start s) (0 : Int) (1099511627776 : Int))) [],
      (!withinB (Sp.start s) (0 : Int) (1099511627776 : Int)) = false,
      Contract Try.prog (39 : Nat) [I (Sp.dur s), I (0 : Int), I (1073741824 : Int)] [] (Bo (withinB (Sp.dur s) (0 : Int) (1073741824 : Int))) [],
      (!withinB (Sp.dur s) (0 : Int) (1073741824 : Int)) = false,
      decide (Int.ofNat (List.length (List.map At.row (Sp.attrs s))) > (4 : Int)) = true] (by kernel_rfl)
    (by
      have d0 := tq0
      have d1 := tq1
      have d2 := tq2
      have d3 := tq3
      have d4 := tq4
      try simp only [Int.ofNat_eq_natCast, List.length_map, Bool.not_eq_true', Bool.not_eq_false', decide_eq_true_eq, decide_eq_false_iff_not] at d0 d1 d2 d3 d4
      simp only [allP]
      and_intros <;> first
        | omega
        | exact cWithin _ _ _)

theorem rs1_5 (s : Sp) (i : Nat) (hl : LoopC Try.prog 0 79 rsB (rsS s false 0) .ret (rsS s false i)) (tq0 : (!withinB (Int.ofNat (ByteArray.size (Sp.svc s))) (1 : Int) (16 : Int)) = false) (tq1 : (!withinB (Int.ofNat (ByteArray.size (Sp.op s))) (1 : Int) (16 : Int)) = false) (tq2 : (!withinB (Sp.start s) (0 : Int) (1099511627776 : Int)) = false) (tq3 : (!withinB (Sp.dur s) (0 : Int) (1073741824 : Int)) = false) (tq4 : (decide (Int.ofNat (List.length (List.map At.row (Sp.attrs s))) > (4 : Int))) = false) : Contract Try.prog 32 [s.v] [] (Bo false) ([]) :=
  vcP hmix [.reg 1 [(5, [], some false), (12, [], some false), (18, [], some false), (24, [], some false), (29, [], some false)], .cut ⟨[1, 2, 3], [(1000, 1000)], []⟩ .ret (rsS s false i), .tab [(39, FWithin)]] [] [
      Contract Try.prog (39 : Nat) [I (Int.ofNat (ByteArray.size (Sp.svc s))), I (1 : Int), I (16 : Int)] [] (Bo (withinB (Int.ofNat (ByteArray.size (Sp.svc s))) (1 : Int) (16 : Int))) [],
      (!withinB (Int.ofNat (ByteArray.size (Sp.svc s))) (1 : Int) (16 : Int)) = false,
      Contract Try.prog (39 : Nat) [I (Int.ofNat (ByteArray.size (Sp.op s))), I (1 : Int), I (16 : Int)] [] (Bo (withinB (Int.ofNat (ByteArray.size (Sp.op s))) (1 : Int) (16 : Int))) [],
      (!withinB (Int.ofNat (ByteArray.size (Sp.op s))) (1 : Int) (16 : Int)) = false,
      Contract Try.prog (39 : Nat) [I (Sp.start s), I (0 : Int), I (1099511627776 : Int)] [] (Bo (withinB (Sp.start s) (0 : Int) (1099511627776 : Int))) [],
      (!withinB (Sp.start s) (0 : Int) (1099511627776 : Int)) = false,
      Contract Try.prog (39 : Nat) [I (Sp.dur s), I (0 : Int), I (1073741824 : Int)] [] (Bo (withinB (Sp.dur s) (0 : Int) (1073741824 : Int))) [],
      (!withinB (Sp.dur s) (0 : Int) (1073741824 : Int)) = false,
      decide (Int.ofNat (List.length (List.map At.row (Sp.attrs s))) > (4 : Int)) = false,
      LoopC Try.prog (0 : Nat) (79 : Nat) rsB { env := [((1 : Nat), V.ptr (1000 : Nat) (0 : Nat) (0 : Nat) (0 : Nat)), ((2 : Nat), Bo false), ((3 : Nat), I (0 : Int))], st := [((1000 : Nat), Obj.box [V.val (Value.int IntKind.u64 (Sp.hi s)), V.val (Value.int IntKind.u64 (Sp.lo s)), V.val (Value.int IntKind.u64 (Sp.id s)), V.val (Value.int IntKind.u64 (Sp.par s)), Sg (Sp.svc s), Sg (Sp.op s), I (Sp.start s), I (Sp.dur s), Bo (Sp.err s), V.sl (2 : Nat) (List.map At.row (Sp.attrs s))])], ids := [(1000 : Nat)] } Ex.ret { env := [((1 : Nat), V.ptr (1000 : Nat) (0 : Nat) (0 : Nat) (0 : Nat)), ((2 : Nat), Bo false), ((3 : Nat), I (Int.ofNat i))], st := [((1000 : Nat), Obj.box (Sp.row s))], ids := [(1000 : Nat)] }] (by kernel_rfl)
    (by
      have d0 := tq0
      have d1 := tq1
      have d2 := tq2
      have d3 := tq3
      have d4 := tq4
      try simp only [Int.ofNat_eq_natCast, List.length_map, Bool.not_eq_true', Bool.not_eq_false', decide_eq_true_eq, decide_eq_false_iff_not] at d0 d1 d2 d3 d4
      simp only [allP]
      and_intros <;> first
        | omega
        | exact cWithin _ _ _
        | exact hl)

theorem rs1 (s : Sp) (i : Nat) (hl : LoopC Try.prog 0 79 rsB (rsS s false 0) .ret (rsS s false i)) : Contract Try.prog 32 [s.v] [] (Bo false) [] := by
  rcases tf (!withinB (Int.ofNat (ByteArray.size (Sp.svc s))) (1 : Int) (16 : Int)) with tq0 | tq0
  · exact Contract.cast (by
      first
        | rfl) (by
      first
        | rfl) (rs1_0 s i hl tq0)
  · rcases tf (!withinB (Int.ofNat (ByteArray.size (Sp.op s))) (1 : Int) (16 : Int)) with tq1 | tq1
    · exact Contract.cast (by
        first
          | rfl) (by
        first
          | rfl) (rs1_1 s i hl tq0 tq1)
    · rcases tf (!withinB (Sp.start s) (0 : Int) (1099511627776 : Int)) with tq2 | tq2
      · exact Contract.cast (by
          first
            | rfl) (by
          first
            | rfl) (rs1_2 s i hl tq0 tq1 tq2)
      · rcases tf (!withinB (Sp.dur s) (0 : Int) (1073741824 : Int)) with tq3 | tq3
        · exact Contract.cast (by
            first
              | rfl) (by
            first
              | rfl) (rs1_3 s i hl tq0 tq1 tq2 tq3)
        · rcases tf (decide (Int.ofNat (List.length (List.map At.row (Sp.attrs s))) > (4 : Int))) with tq4 | tq4
          · exact Contract.cast (by
              first
                | rfl) (by
              first
                | rfl) (rs1_4 s i hl tq0 tq1 tq2 tq3 tq4)
          · exact Contract.cast (by
              first
                | rfl) (by
              first
                | rfl) (rs1_5 s i hl tq0 tq1 tq2 tq3 tq4)

theorem rs2_0 (s : Sp) (hl : LoopC Try.prog 0 79 rsB (rsS s false 0) (.exit 0) (rsS s false s.attrs.length)) (tq0 : (!withinB (Int.ofNat (ByteArray.size (Sp.svc s))) (1 : Int) (16 : Int)) = true) : Contract Try.prog 32 [s.v] [] (Bo false) ([]) :=
  vcP hmix [.reg 1 [(5, [], some true)], .tab [(39, FWithin)]] [] [
      Contract Try.prog (39 : Nat) [I (Int.ofNat (ByteArray.size (Sp.svc s))), I (1 : Int), I (16 : Int)] [] (Bo (withinB (Int.ofNat (ByteArray.size (Sp.svc s))) (1 : Int) (16 : Int))) [],
      (!withinB (Int.ofNat (ByteArray.size (Sp.svc s))) (1 : Int) (16 : Int)) = true] (by kernel_rfl)
    (by
      have d0 := tq0
      try simp only [Int.ofNat_eq_natCast, List.length_map, Bool.not_eq_true', Bool.not_eq_false', decide_eq_true_eq, decide_eq_false_iff_not] at d0
      simp only [allP]
      and_intros <;> first
        | omega
        | exact cWithin _ _ _)

theorem rs2_1 (s : Sp) (hl : LoopC Try.prog 0 79 rsB (rsS s false 0) (.exit 0) (rsS s false s.attrs.length)) (tq0 : (!withinB (Int.ofNat (ByteArray.size (Sp.svc s))) (1 : Int) (16 : Int)) = false) (tq1 : (!withinB (Int.ofNat (ByteArray.size (Sp.op s))) (1 : Int) (16 : Int)) = true) : Contract Try.prog 32 [s.v] [] (Bo false) ([]) :=
  vcP hmix [.reg 1 [(5, [], some false), (12, [], some true)], .tab [(39, FWithin)]] [] [
      Contract Try.prog (39 : Nat) [I (Int.ofNat (ByteArray.size (Sp.svc s))), I (1 : Int), I (16 : Int)] [] (Bo (withinB (Int.ofNat (ByteArray.size (Sp.svc s))) (1 : Int) (16 : Int))) [],
      (!withinB (Int.ofNat (ByteArray.size (Sp.svc s))) (1 : Int) (16 : Int)) = false,
      Contract Try.prog (39 : Nat) [I (Int.ofNat (ByteArray.size (Sp.op s))), I (1 : Int), I (16 : Int)] [] (Bo (withinB (Int.ofNat (ByteArray.size (Sp.op s))) (1 : Int) (16 : Int))) [],
      (!withinB (Int.ofNat (ByteArray.size (Sp.op s))) (1 : Int) (16 : Int)) = true] (by kernel_rfl)
    (by
      have d0 := tq0
      have d1 := tq1
      try simp only [Int.ofNat_eq_natCast, List.length_map, Bool.not_eq_true', Bool.not_eq_false', decide_eq_true_eq, decide_eq_false_iff_not] at d0 d1
      simp only [allP]
      and_intros <;> first
        | omega
        | exact cWithin _ _ _)

theorem rs2_2 (s : Sp) (hl : LoopC Try.prog 0 79 rsB (rsS s false 0) (.exit 0) (rsS s false s.attrs.length)) (tq0 : (!withinB (Int.ofNat (ByteArray.size (Sp.svc s))) (1 : Int) (16 : Int)) = false) (tq1 : (!withinB (Int.ofNat (ByteArray.size (Sp.op s))) (1 : Int) (16 : Int)) = false) (tq2 : (!withinB (Sp.start s) (0 : Int) (1099511627776 : Int)) = true) : Contract Try.prog 32 [s.v] [] (Bo false) ([]) :=
  vcP hmix [.reg 1 [(5, [], some false), (12, [], some false), (18, [], some true)], .tab [(39, FWithin)]] [] [
      Contract Try.prog (39 : Nat) [I (Int.ofNat (ByteArray.size (Sp.svc s))), I (1 : Int), I (16 : Int)] [] (Bo (withinB (Int.ofNat (ByteArray.size (Sp.svc s))) (1 : Int) (16 : Int))) [],
      (!withinB (Int.ofNat (ByteArray.size (Sp.svc s))) (1 : Int) (16 : Int)) = false,
      Contract Try.prog (39 : Nat) [I (Int.ofNat (ByteArray.size (Sp.op s))), I (1 : Int), I (16 : Int)] [] (Bo (withinB (Int.ofNat (ByteArray.size (Sp.op s))) (1 : Int) (16 : Int))) [],
      (!withinB (Int.ofNat (ByteArray.size (Sp.op s))) (1 : Int) (16 : Int)) = false,
      Contract Try.prog (39 : Nat) [I (Sp.start s), I (0 : Int), I (1099511627776 : Int)] [] (Bo (withinB (Sp.start s) (0 : Int) (1099511627776 : Int))) [],
      (!withinB (Sp.start s) (0 : Int) (1099511627776 : Int)) = true] (by kernel_rfl)
    (by
      have d0 := tq0
      have d1 := tq1
      have d2 := tq2
      try simp only [Int.ofNat_eq_natCast, List.length_map, Bool.not_eq_true', Bool.not_eq_false', decide_eq_true_eq, decide_eq_false_iff_not] at d0 d1 d2
      simp only [allP]
      and_intros <;> first
        | omega
        | exact cWithin _ _ _)

theorem rs2_3 (s : Sp) (hl : LoopC Try.prog 0 79 rsB (rsS s false 0) (.exit 0) (rsS s false s.attrs.length)) (tq0 : (!withinB (Int.ofNat (ByteArray.size (Sp.svc s))) (1 : Int) (16 : Int)) = false) (tq1 : (!withinB (Int.ofNat (ByteArray.size (Sp.op s))) (1 : Int) (16 : Int)) = false) (tq2 : (!withinB (Sp.start s) (0 : Int) (1099511627776 : Int)) = false) (tq3 : (!withinB (Sp.dur s) (0 : Int) (1073741824 : Int)) = true) : Contract Try.prog 32 [s.v] [] (Bo false) ([]) :=
  vcP hmix [.reg 1 [(5, [], some false), (12, [], some false), (18, [], some false), (24, [], some true)], .tab [(39, FWithin)]] [] [
      Contract Try.prog (39 : Nat) [I (Int.ofNat (ByteArray.size (Sp.svc s))), I (1 : Int), I (16 : Int)] [] (Bo (withinB (Int.ofNat (ByteArray.size (Sp.svc s))) (1 : Int) (16 : Int))) [],
      (!withinB (Int.ofNat (ByteArray.size (Sp.svc s))) (1 : Int) (16 : Int)) = false,
      Contract Try.prog (39 : Nat) [I (Int.ofNat (ByteArray.size (Sp.op s))), I (1 : Int), I (16 : Int)] [] (Bo (withinB (Int.ofNat (ByteArray.size (Sp.op s))) (1 : Int) (16 : Int))) [],
      (!withinB (Int.ofNat (ByteArray.size (Sp.op s))) (1 : Int) (16 : Int)) = false,
      Contract Try.prog (39 : Nat) [I (Sp.start s), I (0 : Int), I (1099511627776 : Int)] [] (Bo (withinB (Sp.start s) (0 : Int) (1099511627776 : Int))) [],
      (!withinB (Sp.start s) (0 : Int) (1099511627776 : Int)) = false,
      Contract Try.prog (39 : Nat) [I (Sp.dur s), I (0 : Int), I (1073741824 : Int)] [] (Bo (withinB (Sp.dur s) (0 : Int) (1073741824 : Int))) [],
      (!withinB (Sp.dur s) (0 : Int) (1073741824 : Int)) = true] (by kernel_rfl)
    (by
      have d0 := tq0
      have d1 := tq1
      have d2 := tq2
      have d3 := tq3
      try simp only [Int.ofNat_eq_natCast, List.length_map, Bool.not_eq_true', Bool.not_eq_false', decide_eq_true_eq, decide_eq_false_iff_not] at d0 d1 d2 d3
      simp only [allP]
      and_intros <;> first
        | omega
        | exact cWithin _ _ _)

theorem rs2_4 (s : Sp) (hl : LoopC Try.prog 0 79 rsB (rsS s false 0) (.exit 0) (rsS s false s.attrs.length)) (tq0 : (!withinB (Int.ofNat (ByteArray.size (Sp.svc s))) (1 : Int) (16 : Int)) = false) (tq1 : (!withinB (Int.ofNat (ByteArray.size (Sp.op s))) (1 : Int) (16 : Int)) = false) (tq2 : (!withinB (Sp.start s) (0 : Int) (1099511627776 : Int)) = false) (tq3 : (!withinB (Sp.dur s) (0 : Int) (1073741824 : Int)) = false) (tq4 : (decide (Int.ofNat (List.length (List.map At.row (Sp.attrs s))) > (4 : Int))) = true) : Contract Try.prog 32 [s.v] [] (Bo false) ([]) :=
  vcP hmix [.reg 1 [(5, [], some false), (12, [], some false), (18, [], some false), (24, [], some false), (29, [], some true)], .tab [(39, FWithin)]] [] [
      Contract Try.prog (39 : Nat) [I (Int.ofNat (ByteArray.size (Sp.svc s))), I (1 : Int), I (16 : Int)] [] (Bo (withinB (Int.ofNat (ByteArray.size (Sp.svc s))) (1 : Int) (16 : Int))) [],
      (!withinB (Int.ofNat (ByteArray.size (Sp.svc s))) (1 : Int) (16 : Int)) = false,
      Contract Try.prog (39 : Nat) [I (Int.ofNat (ByteArray.size (Sp.op s))), I (1 : Int), I (16 : Int)] [] (Bo (withinB (Int.ofNat (ByteArray.size (Sp.op s))) (1 : Int) (16 : Int))) [],
      (!withinB (Int.ofNat (ByteArray.size (Sp.op s))) (1 : Int) (16 : Int)) = false,
      Contract Try.prog (39 : Nat) [I (Sp.start s), I (0 : Int), I (1099511627776 : Int)] [] (Bo (withinB (Sp.start s) (0 : Int) (1099511627776 : Int))) [],
      (!withinB (Sp.start s) (0 : Int) (1099511627776 : Int)) = false,
      Contract Try.prog (39 : Nat) [I (Sp.dur s), I (0 : Int), I (1073741824 : Int)] [] (Bo (withinB (Sp.dur s) (0 : Int) (1073741824 : Int))) [],
      (!withinB (Sp.dur s) (0 : Int) (1073741824 : Int)) = false,
      decide (Int.ofNat (List.length (List.map At.row (Sp.attrs s))) > (4 : Int)) = true] (by kernel_rfl)
    (by
      have d0 := tq0
      have d1 := tq1
      have d2 := tq2
      have d3 := tq3
      have d4 := tq4
      try simp only [Int.ofNat_eq_natCast, List.length_map, Bool.not_eq_true', Bool.not_eq_false', decide_eq_true_eq, decide_eq_false_iff_not] at d0 d1 d2 d3 d4
      simp only [allP]
      and_intros <;> first
        | omega
        | exact cWithin _ _ _)

theorem rs2_5 (s : Sp) (hl : LoopC Try.prog 0 79 rsB (rsS s false 0) (.exit 0) (rsS s false s.attrs.length)) (tq0 : (!withinB (Int.ofNat (ByteArray.size (Sp.svc s))) (1 : Int) (16 : Int)) = false) (tq1 : (!withinB (Int.ofNat (ByteArray.size (Sp.op s))) (1 : Int) (16 : Int)) = false) (tq2 : (!withinB (Sp.start s) (0 : Int) (1099511627776 : Int)) = false) (tq3 : (!withinB (Sp.dur s) (0 : Int) (1073741824 : Int)) = false) (tq4 : (decide (Int.ofNat (List.length (List.map At.row (Sp.attrs s))) > (4 : Int))) = false) : Contract Try.prog 32 [s.v] [] (Bo true) ([]) :=
  vcP hmix [.reg 1 [(5, [], some false), (12, [], some false), (18, [], some false), (24, [], some false), (29, [], some false)], .cut ⟨[1, 2, 3], [(1000, 1000)], []⟩ (.exit 0) (rsS s false s.attrs.length), .tab [(39, FWithin)]] [] [
      Contract Try.prog (39 : Nat) [I (Int.ofNat (ByteArray.size (Sp.svc s))), I (1 : Int), I (16 : Int)] [] (Bo (withinB (Int.ofNat (ByteArray.size (Sp.svc s))) (1 : Int) (16 : Int))) [],
      (!withinB (Int.ofNat (ByteArray.size (Sp.svc s))) (1 : Int) (16 : Int)) = false,
      Contract Try.prog (39 : Nat) [I (Int.ofNat (ByteArray.size (Sp.op s))), I (1 : Int), I (16 : Int)] [] (Bo (withinB (Int.ofNat (ByteArray.size (Sp.op s))) (1 : Int) (16 : Int))) [],
      (!withinB (Int.ofNat (ByteArray.size (Sp.op s))) (1 : Int) (16 : Int)) = false,
      Contract Try.prog (39 : Nat) [I (Sp.start s), I (0 : Int), I (1099511627776 : Int)] [] (Bo (withinB (Sp.start s) (0 : Int) (1099511627776 : Int))) [],
      (!withinB (Sp.start s) (0 : Int) (1099511627776 : Int)) = false,
      Contract Try.prog (39 : Nat) [I (Sp.dur s), I (0 : Int), I (1073741824 : Int)] [] (Bo (withinB (Sp.dur s) (0 : Int) (1073741824 : Int))) [],
      (!withinB (Sp.dur s) (0 : Int) (1073741824 : Int)) = false,
      decide (Int.ofNat (List.length (List.map At.row (Sp.attrs s))) > (4 : Int)) = false,
      LoopC Try.prog (0 : Nat) (79 : Nat) rsB { env := [((1 : Nat), V.ptr (1000 : Nat) (0 : Nat) (0 : Nat) (0 : Nat)), ((2 : Nat), Bo false), ((3 : Nat), I (0 : Int))], st := [((1000 : Nat), Obj.box [V.val (Value.int IntKind.u64 (Sp.hi s)), V.val (Value.int IntKind.u64 (Sp.lo s)), V.val (Value.int IntKind.u64 (Sp.id s)), V.val (Value.int IntKind.u64 (Sp.par s)), Sg (Sp.svc s), Sg (Sp.op s), I (Sp.start s), I (Sp.dur s), Bo (Sp.err s), V.sl (2 : Nat) (List.map At.row (Sp.attrs s))])], ids := [(1000 : Nat)] } (Ex.exit (0 : Nat)) { env := [((1 : Nat), V.ptr (1000 : Nat) (0 : Nat) (0 : Nat) (0 : Nat)), ((2 : Nat), Bo false), ((3 : Nat), I (Int.ofNat (List.length (Sp.attrs s))))], st := [((1000 : Nat), Obj.box (Sp.row s))], ids := [(1000 : Nat)] }] (by kernel_rfl)
    (by
      have d0 := tq0
      have d1 := tq1
      have d2 := tq2
      have d3 := tq3
      have d4 := tq4
      try simp only [Int.ofNat_eq_natCast, List.length_map, Bool.not_eq_true', Bool.not_eq_false', decide_eq_true_eq, decide_eq_false_iff_not] at d0 d1 d2 d3 d4
      simp only [allP]
      and_intros <;> first
        | omega
        | exact cWithin _ _ _
        | exact hl)

theorem rs2 (s : Sp) (hl : LoopC Try.prog 0 79 rsB (rsS s false 0) (.exit 0) (rsS s false s.attrs.length)) : Contract Try.prog 32 [s.v] [] (Bo (nameB s.svc && nameB s.op && withinB s.start 0 1099511627776 && withinB s.dur 0 1073741824 && decide ((s.attrs.length : Int) ≤ 4))) [] := by
  rcases tf (!withinB (Int.ofNat (ByteArray.size (Sp.svc s))) (1 : Int) (16 : Int)) with tq0 | tq0
  · exact Contract.cast (by
      first
        | ((try simp only [Int.ofNat_eq_natCast, List.length_map, Bool.not_eq_true', Bool.not_eq_false', decide_eq_true_eq, decide_eq_false_iff_not] at tq0); simp [nameB, tq0]; done)) (by
      first
        | rfl) (rs2_0 s hl tq0)
  · rcases tf (!withinB (Int.ofNat (ByteArray.size (Sp.op s))) (1 : Int) (16 : Int)) with tq1 | tq1
    · exact Contract.cast (by
        first
          | ((try simp only [Int.ofNat_eq_natCast, List.length_map, Bool.not_eq_true', Bool.not_eq_false', decide_eq_true_eq, decide_eq_false_iff_not] at tq0 tq1); simp [nameB, tq0, tq1]; done)) (by
        first
          | rfl) (rs2_1 s hl tq0 tq1)
    · rcases tf (!withinB (Sp.start s) (0 : Int) (1099511627776 : Int)) with tq2 | tq2
      · exact Contract.cast (by
          first
            | ((try simp only [Int.ofNat_eq_natCast, List.length_map, Bool.not_eq_true', Bool.not_eq_false', decide_eq_true_eq, decide_eq_false_iff_not] at tq0 tq1 tq2); simp [nameB, tq0, tq1, tq2]; done)) (by
          first
            | rfl) (rs2_2 s hl tq0 tq1 tq2)
      · rcases tf (!withinB (Sp.dur s) (0 : Int) (1073741824 : Int)) with tq3 | tq3
        · exact Contract.cast (by
            first
              | ((try simp only [Int.ofNat_eq_natCast, List.length_map, Bool.not_eq_true', Bool.not_eq_false', decide_eq_true_eq, decide_eq_false_iff_not] at tq0 tq1 tq2 tq3); simp [nameB, tq0, tq1, tq2, tq3]; done)) (by
            first
              | rfl) (rs2_3 s hl tq0 tq1 tq2 tq3)
        · rcases tf (decide (Int.ofNat (List.length (List.map At.row (Sp.attrs s))) > (4 : Int))) with tq4 | tq4
          · exact Contract.cast (by
              first
                | ((try simp only [Int.ofNat_eq_natCast, List.length_map, Bool.not_eq_true', Bool.not_eq_false', decide_eq_true_eq, decide_eq_false_iff_not] at tq0 tq1 tq2 tq3 tq4); refine congrArg _ ?_; simp [nameB, tq0, tq1, tq2, tq3, tq4]; done)) (by
              first
                | rfl) (rs2_4 s hl tq0 tq1 tq2 tq3 tq4)
          · exact Contract.cast (by
              first
                | ((try simp only [Int.ofNat_eq_natCast, List.length_map, Bool.not_eq_true', Bool.not_eq_false', decide_eq_true_eq, decide_eq_false_iff_not] at tq0 tq1 tq2 tq3 tq4); refine congrArg _ ?_; simp [nameB, tq0, tq1, tq2, tq3, tq4]; omega)) (by
              first
                | rfl) (rs2_5 s hl tq0 tq1 tq2 tq3 tq4)

theorem rs3_0 (s : Sp) (h : decide ((s.attrs.length : Int) ≤ 4) = false) (tq0 : (!withinB (Int.ofNat (ByteArray.size (Sp.svc s))) (1 : Int) (16 : Int)) = true) : Contract Try.prog 32 [s.v] [] (Bo false) ([]) :=
  vcP hmix [.reg 1 [(5, [], some true), (28, [], some true)], .tab [(39, FWithin)]] [] [
      Contract Try.prog (39 : Nat) [I (Int.ofNat (ByteArray.size (Sp.svc s))), I (1 : Int), I (16 : Int)] [] (Bo (withinB (Int.ofNat (ByteArray.size (Sp.svc s))) (1 : Int) (16 : Int))) [],
      (!withinB (Int.ofNat (ByteArray.size (Sp.svc s))) (1 : Int) (16 : Int)) = true] (by kernel_rfl)
    (by
      have d0 := tq0
      try simp only [Int.ofNat_eq_natCast, List.length_map, Bool.not_eq_true', Bool.not_eq_false', decide_eq_true_eq, decide_eq_false_iff_not] at d0
      simp only [allP]
      and_intros <;> first
        | omega
        | exact cWithin _ _ _)

theorem rs3_1 (s : Sp) (h : decide ((s.attrs.length : Int) ≤ 4) = false) (tq0 : (!withinB (Int.ofNat (ByteArray.size (Sp.svc s))) (1 : Int) (16 : Int)) = false) (tq1 : (!withinB (Int.ofNat (ByteArray.size (Sp.op s))) (1 : Int) (16 : Int)) = true) : Contract Try.prog 32 [s.v] [] (Bo false) ([]) :=
  vcP hmix [.reg 1 [(5, [], some false), (12, [], some true), (28, [], some true)], .tab [(39, FWithin)]] [] [
      Contract Try.prog (39 : Nat) [I (Int.ofNat (ByteArray.size (Sp.svc s))), I (1 : Int), I (16 : Int)] [] (Bo (withinB (Int.ofNat (ByteArray.size (Sp.svc s))) (1 : Int) (16 : Int))) [],
      (!withinB (Int.ofNat (ByteArray.size (Sp.svc s))) (1 : Int) (16 : Int)) = false,
      Contract Try.prog (39 : Nat) [I (Int.ofNat (ByteArray.size (Sp.op s))), I (1 : Int), I (16 : Int)] [] (Bo (withinB (Int.ofNat (ByteArray.size (Sp.op s))) (1 : Int) (16 : Int))) [],
      (!withinB (Int.ofNat (ByteArray.size (Sp.op s))) (1 : Int) (16 : Int)) = true] (by kernel_rfl)
    (by
      have d0 := tq0
      have d1 := tq1
      try simp only [Int.ofNat_eq_natCast, List.length_map, Bool.not_eq_true', Bool.not_eq_false', decide_eq_true_eq, decide_eq_false_iff_not] at d0 d1
      simp only [allP]
      and_intros <;> first
        | omega
        | exact cWithin _ _ _)

theorem rs3_2 (s : Sp) (h : decide ((s.attrs.length : Int) ≤ 4) = false) (tq0 : (!withinB (Int.ofNat (ByteArray.size (Sp.svc s))) (1 : Int) (16 : Int)) = false) (tq1 : (!withinB (Int.ofNat (ByteArray.size (Sp.op s))) (1 : Int) (16 : Int)) = false) (tq2 : (!withinB (Sp.start s) (0 : Int) (1099511627776 : Int)) = true) : Contract Try.prog 32 [s.v] [] (Bo false) ([]) :=
  vcP hmix [.reg 1 [(5, [], some false), (12, [], some false), (18, [], some true), (28, [], some true)], .tab [(39, FWithin)]] [] [
      Contract Try.prog (39 : Nat) [I (Int.ofNat (ByteArray.size (Sp.svc s))), I (1 : Int), I (16 : Int)] [] (Bo (withinB (Int.ofNat (ByteArray.size (Sp.svc s))) (1 : Int) (16 : Int))) [],
      (!withinB (Int.ofNat (ByteArray.size (Sp.svc s))) (1 : Int) (16 : Int)) = false,
      Contract Try.prog (39 : Nat) [I (Int.ofNat (ByteArray.size (Sp.op s))), I (1 : Int), I (16 : Int)] [] (Bo (withinB (Int.ofNat (ByteArray.size (Sp.op s))) (1 : Int) (16 : Int))) [],
      (!withinB (Int.ofNat (ByteArray.size (Sp.op s))) (1 : Int) (16 : Int)) = false,
      Contract Try.prog (39 : Nat) [I (Sp.start s), I (0 : Int), I (1099511627776 : Int)] [] (Bo (withinB (Sp.start s) (0 : Int) (1099511627776 : Int))) [],
      (!withinB (Sp.start s) (0 : Int) (1099511627776 : Int)) = true] (by kernel_rfl)
    (by
      have d0 := tq0
      have d1 := tq1
      have d2 := tq2
      try simp only [Int.ofNat_eq_natCast, List.length_map, Bool.not_eq_true', Bool.not_eq_false', decide_eq_true_eq, decide_eq_false_iff_not] at d0 d1 d2
      simp only [allP]
      and_intros <;> first
        | omega
        | exact cWithin _ _ _)

theorem rs3_3 (s : Sp) (h : decide ((s.attrs.length : Int) ≤ 4) = false) (tq0 : (!withinB (Int.ofNat (ByteArray.size (Sp.svc s))) (1 : Int) (16 : Int)) = false) (tq1 : (!withinB (Int.ofNat (ByteArray.size (Sp.op s))) (1 : Int) (16 : Int)) = false) (tq2 : (!withinB (Sp.start s) (0 : Int) (1099511627776 : Int)) = false) (tq3 : (!withinB (Sp.dur s) (0 : Int) (1073741824 : Int)) = true) : Contract Try.prog 32 [s.v] [] (Bo false) ([]) :=
  vcP hmix [.reg 1 [(5, [], some false), (12, [], some false), (18, [], some false), (24, [], some true), (28, [], some true)], .tab [(39, FWithin)]] [] [
      Contract Try.prog (39 : Nat) [I (Int.ofNat (ByteArray.size (Sp.svc s))), I (1 : Int), I (16 : Int)] [] (Bo (withinB (Int.ofNat (ByteArray.size (Sp.svc s))) (1 : Int) (16 : Int))) [],
      (!withinB (Int.ofNat (ByteArray.size (Sp.svc s))) (1 : Int) (16 : Int)) = false,
      Contract Try.prog (39 : Nat) [I (Int.ofNat (ByteArray.size (Sp.op s))), I (1 : Int), I (16 : Int)] [] (Bo (withinB (Int.ofNat (ByteArray.size (Sp.op s))) (1 : Int) (16 : Int))) [],
      (!withinB (Int.ofNat (ByteArray.size (Sp.op s))) (1 : Int) (16 : Int)) = false,
      Contract Try.prog (39 : Nat) [I (Sp.start s), I (0 : Int), I (1099511627776 : Int)] [] (Bo (withinB (Sp.start s) (0 : Int) (1099511627776 : Int))) [],
      (!withinB (Sp.start s) (0 : Int) (1099511627776 : Int)) = false,
      Contract Try.prog (39 : Nat) [I (Sp.dur s), I (0 : Int), I (1073741824 : Int)] [] (Bo (withinB (Sp.dur s) (0 : Int) (1073741824 : Int))) [],
      (!withinB (Sp.dur s) (0 : Int) (1073741824 : Int)) = true] (by kernel_rfl)
    (by
      have d0 := tq0
      have d1 := tq1
      have d2 := tq2
      have d3 := tq3
      try simp only [Int.ofNat_eq_natCast, List.length_map, Bool.not_eq_true', Bool.not_eq_false', decide_eq_true_eq, decide_eq_false_iff_not] at d0 d1 d2 d3
      simp only [allP]
      and_intros <;> first
        | omega
        | exact cWithin _ _ _)

theorem rs3_4 (s : Sp) (h : decide ((s.attrs.length : Int) ≤ 4) = false) (tq0 : (!withinB (Int.ofNat (ByteArray.size (Sp.svc s))) (1 : Int) (16 : Int)) = false) (tq1 : (!withinB (Int.ofNat (ByteArray.size (Sp.op s))) (1 : Int) (16 : Int)) = false) (tq2 : (!withinB (Sp.start s) (0 : Int) (1099511627776 : Int)) = false) (tq3 : (!withinB (Sp.dur s) (0 : Int) (1073741824 : Int)) = false) : Contract Try.prog 32 [s.v] [] (Bo false) ([]) :=
  vcP hmix [.reg 1 [(5, [], some false), (12, [], some false), (18, [], some false), (24, [], some false), (28, [], some true)], .tab [(39, FWithin)]] [] [
      Contract Try.prog (39 : Nat) [I (Int.ofNat (ByteArray.size (Sp.svc s))), I (1 : Int), I (16 : Int)] [] (Bo (withinB (Int.ofNat (ByteArray.size (Sp.svc s))) (1 : Int) (16 : Int))) [],
      (!withinB (Int.ofNat (ByteArray.size (Sp.svc s))) (1 : Int) (16 : Int)) = false,
      Contract Try.prog (39 : Nat) [I (Int.ofNat (ByteArray.size (Sp.op s))), I (1 : Int), I (16 : Int)] [] (Bo (withinB (Int.ofNat (ByteArray.size (Sp.op s))) (1 : Int) (16 : Int))) [],
      (!withinB (Int.ofNat (ByteArray.size (Sp.op s))) (1 : Int) (16 : Int)) = false,
      Contract Try.prog (39 : Nat) [I (Sp.start s), I (0 : Int), I (1099511627776 : Int)] [] (Bo (withinB (Sp.start s) (0 : Int) (1099511627776 : Int))) [],
      (!withinB (Sp.start s) (0 : Int) (1099511627776 : Int)) = false,
      Contract Try.prog (39 : Nat) [I (Sp.dur s), I (0 : Int), I (1073741824 : Int)] [] (Bo (withinB (Sp.dur s) (0 : Int) (1073741824 : Int))) [],
      (!withinB (Sp.dur s) (0 : Int) (1073741824 : Int)) = false,
      decide (Int.ofNat (List.length (List.map At.row (Sp.attrs s))) > (4 : Int)) = true] (by kernel_rfl)
    (by
      have d0 := tq0
      have d1 := tq1
      have d2 := tq2
      have d3 := tq3
      try simp only [Int.ofNat_eq_natCast, List.length_map, Bool.not_eq_true', Bool.not_eq_false', decide_eq_true_eq, decide_eq_false_iff_not] at d0 d1 d2 d3
      simp only [allP]
      and_intros <;> first
        | omega
        | exact cWithin _ _ _
        | (simp at h ⊢; omega))

theorem rs3 (s : Sp) (h : decide ((s.attrs.length : Int) ≤ 4) = false) : Contract Try.prog 32 [s.v] [] (Bo false) [] := by
  rcases tf (!withinB (Int.ofNat (ByteArray.size (Sp.svc s))) (1 : Int) (16 : Int)) with tq0 | tq0
  · exact Contract.cast (by
      first
        | rfl) (by
      first
        | rfl) (rs3_0 s h tq0)
  · rcases tf (!withinB (Int.ofNat (ByteArray.size (Sp.op s))) (1 : Int) (16 : Int)) with tq1 | tq1
    · exact Contract.cast (by
        first
          | rfl) (by
        first
          | rfl) (rs3_1 s h tq0 tq1)
    · rcases tf (!withinB (Sp.start s) (0 : Int) (1099511627776 : Int)) with tq2 | tq2
      · exact Contract.cast (by
          first
            | rfl) (by
          first
            | rfl) (rs3_2 s h tq0 tq1 tq2)
      · rcases tf (!withinB (Sp.dur s) (0 : Int) (1073741824 : Int)) with tq3 | tq3
        · exact Contract.cast (by
            first
              | rfl) (by
            first
              | rfl) (rs3_3 s h tq0 tq1 tq2 tq3)
        · exact Contract.cast (by
            first
              | rfl) (by
            first
              | rfl) (rs3_4 s h tq0 tq1 tq2 tq3)

theorem cRightR (s : Sp) : Contract Try.prog 32 [s.v] [] (Bo (rightS s)) [] := by
  unfold rightS
  rcases tf (decide ((s.attrs.length : Int) ≤ 4)) with h3 | h3
  · have hs : s.attrs.length ≤ 4 := by simp at h3; omega
    have hin : ∀ (i : Nat) (a : At), s.attrs[i]? = some a → (∃ j, LoopC Try.prog 0 79 rkB (rkS s false i 0) .ret (rkS s false i j) ∧ badA s.attrs i a = true) ∨ (LoopC Try.prog 0 79 rkB (rkS s false i 0) (.exit 2) (rkS s false i i) ∧ badA s.attrs i a = badN a) := by
      intro i a hx
      have hi := (List.getElem?_eq_some_iff.1 hx).1
      have e : (s.attrs.take i).length = i := by simp; omega
      have hy : ∀ (j : Nat) (b : At), (s.attrs.take i)[j]? = some b → j < i ∧ s.attrs[j]? = some b := fun j b h => by
        have h1 := (List.getElem?_eq_some_iff.1 h).1
        rw [e] at h1
        refine ⟨h1, ?_⟩
        rw [List.getElem?_take_of_lt h1] at h
        exact h
      rcases LoopC.search (P := Try.prog) (k := 0) (n := 79) (c := rkB) (s.attrs.take i) (fun _ b => pKey a b) (fun k => rkS s false i k) (fun k => rkS s false i k) (e1 := .ret) (e2 := .exit 2) (by simp) (by simp)
        (fun k b hb _ hp => rkGo s a b i k (hy k b hb).1 hx hi (hy k b hb).2 hs hp) (fun k b hb _ hp => rkStop s a b i k (hy k b hb).1 hx hi (hy k b hb).2 hs hp) (rkE s i _ (by omega)) with ⟨j, b, k1, k2, _, k4⟩ | ⟨k1, k2⟩
      · refine .inl ⟨j, k4, ?_⟩
        unfold badA
        rw [Bool.or_eq_true]
        right
        unfold idxI
        cases hf : (s.attrs.take i).findIdx? (pKey a) with
        | some m => simp
        | none => rw [List.findIdx?_eq_none_iff] at hf; have := hf b (List.mem_of_getElem? k1); rw [this] at k2; cases k2
      · refine .inr ⟨by rw [e] at k2; exact k2, ?_⟩
        unfold badA badN
        have : idxI (pKey a) (s.attrs.take i) = -1 := by
          unfold idxI
          cases hf : (s.attrs.take i).findIdx? (pKey a) with
          | none => rfl
          | some m => 
            obtain ⟨q1, q2, _⟩ := List.findIdx?_eq_some_iff_getElem.1 hf
            have := k1 m _ (List.getElem?_eq_getElem q1)
            rw [this] at q2; cases q2
        rw [this]; simp
    rcases LoopC.search (P := Try.prog) (k := 0) (n := 79) (c := rsB) s.attrs (badA s.attrs) (fun i => rsS s false i) (fun i => rsS s false i) (e1 := .ret) (e2 := .exit 0) (by simp) (by simp)
      (fun i a hx hi hb => by
        rcases hin i a hx with ⟨j, _, k2⟩ | ⟨k1, k2⟩
        · rw [k2] at hb; cases hb
        · exact rsXGo s a i hi hx hs k1 (k2 ▸ hb))
      (fun i a hx hi hb => by
        rcases hin i a hx with ⟨j, k1, k2⟩ | ⟨k1, k2⟩
        · exact rsY s a i j hi hx hs k1
        · exact rsXStop s a i hi hx hs k1 (k2 ▸ hb)) (rsE s _ (Nat.le_refl _)) with ⟨i, a, k1, k2, _, k4⟩ | ⟨k1, k2⟩
    · rw [attrs_bad k1 k2, Bool.and_false]; exact rs1 s i k4
    · rw [attrs_good k1]
      simp only [h3, Bool.and_true]
      have := rs2 s k2
      simp only [h3, Bool.and_true] at this
      exact this
  · rw [h3]; simp only [Bool.and_false, Bool.false_and]; exact rs3 s h3
end Go.Proofs.Ytfpdlamjlbpmkaa

/- episodes and blocks that may be, by the reference. -/
namespace Go.Proofs.Ytfpdlamjlbpmkaa
open E
set_option maxRecDepth 100000
set_option linter.unusedVariables false
set_option linter.unusedSimpArgs false

def countB (n : Int) : Bool := withinB n 0 1099511627776
def FCount : List V → Option V
  | [.val (.int _ n)] => some (Bo (countB n))
  | _ => none
def reS (e : Ep) (r : Bool) (i : Nat) : SL := ⟨[(1, .ptr 1000 0 0 0), (2, Bo r), (3, I (i : Int))], [(1000, .box e.row)], [1000]⟩
def rjS (e : Ep) (r : Bool) (i k : Nat) : SL := ⟨[(1, .ptr 1000 0 0 0), (2, Bo r), (3, I (i : Int)), (4, I (k : Int))], [(1000, .box e.row)], [1000]⟩
def badX (e : Ep) (x : Sp) : Bool := !rightS x || !(x.hi == e.hi && x.lo == e.lo)
/-- What is wrong with a span of an episode. -/
def badE (e : Ep) (i : Nat) (x : Sp) : Bool := badX e x || !allI (fun _ (y : Sp) => y.id == x.id) (e.spans.take i)
def rightE (e : Ep) : Bool := (countB e.first && countB e.last && !((e.spans.length : Int) == 0)) && allI (fun i (x : Sp) => badE e i x) e.spans
def rbS (b : Bk) (r : Bool) (i : Nat) : SL := ⟨[(1, .ptr 1000 0 0 0), (2, Bo r), (3, I (i : Int))], [(1000, .box b.row)], [1000]⟩
def badB (b : Bk) (i : Nat) (x : Ep) : Bool := !rightE x || (decide (0 < i) && (match b.eps[i - 1]? with
  | some y => soLt x y
  | none => false))
def rightB (b : Bk) : Bool := allI (fun i (x : Ep) => badB b i x) b.eps && (countB b.num && countB b.born && countB b.tier)
noncomputable def reB : Code := codeAt Try.prog 23 [true, true, false, true, false, false]

noncomputable def rjB : Code := codeAt Try.prog 23 [true, true, false, true, false, false, true, false, false, true, true, false, false]

noncomputable def rbB : Code := codeAt Try.prog 14 [true, false, true, false, false]

theorem take_get {α : Type} {l : List α} {m i : Nat} {x : α} (h : (l.take m)[i]? = some x) : l[i]? = some x := by
  have h1 := (List.getElem?_eq_some_iff.1 h).1
  simp only [List.length_take] at h1
  rw [List.getElem?_take_of_lt (by omega)] at h
  exact h
theorem cCount_0 (n : Int)  (tq0 : (decide (n ≥ (0 : Int))) = true) : Contract Try.prog 25 [I n] [] (Bo (decide (n ≤ (1099511627776 : Int)))) ([]) :=
  vcP hmix [.reg 1 [(2, [], some true)]] [] [
      decide (n ≥ (0 : Int)) = true] (by kernel_rfl)
    (by
      have d0 := tq0
      try simp only [Int.ofNat_eq_natCast, List.length_map, Bool.not_eq_true', Bool.not_eq_false', decide_eq_true_eq, decide_eq_false_iff_not] at d0
      simp only [allP]
      and_intros <;> first
        | omega)

theorem cCount_1 (n : Int)  (tq0 : (decide (n ≥ (0 : Int))) = false) : Contract Try.prog 25 [I n] [] (Bo false) ([]) :=
  vcP hmix [.reg 1 [(2, [], some false)]] [] [
      decide (n ≥ (0 : Int)) = false] (by kernel_rfl)
    (by
      have d0 := tq0
      try simp only [Int.ofNat_eq_natCast, List.length_map, Bool.not_eq_true', Bool.not_eq_false', decide_eq_true_eq, decide_eq_false_iff_not] at d0
      simp only [allP]
      and_intros <;> first
        | omega)

theorem cCount (n : Int)  : Contract Try.prog 25 [I n] [] (Bo (countB n)) [] := by
  rcases tf (decide (n ≥ (0 : Int))) with tq0 | tq0
  · exact Contract.cast (by
      first
        | (simp only [countB, withinB, tq0, cond_true, cond_false]; rfl)) (by
      first
        | rfl) (cCount_0 n  tq0)
  · exact Contract.cast (by
      first
        | (simp only [countB, withinB, tq0, cond_true, cond_false]; rfl)) (by
      first
        | rfl) (cCount_1 n  tq0)

theorem rj_0 (e : Ep) (z : Sp) (m : Nat) (x : Sp) (i : Nat) (hx : (e.spans.take m)[i]? = some x) (hi : i < (e.spans.take m).length) (hz : e.spans[m]? = some z) (hs : e.spans.length ≤ 1048576) (tq0 : (Sp.id x == Sp.id z) = true) : CodeC Try.prog 0 64 rjB (rjS e false m (i)) (Ex.ret) ({ env := [((1 : Nat), V.ptr (1000 : Nat) (0 : Nat) (0 : Nat) (0 : Nat)), ((2 : Nat), Bo false), ((3 : Nat), I (Int.ofNat m)), ((4 : Nat), I (Int.ofNat i))], st := [((1000 : Nat), Obj.box [V.val (Value.int IntKind.u64 (Ep.hi e)), V.val (Value.int IntKind.u64 (Ep.lo e)), I (Ep.first e), I (Ep.last e), Bo (Ep.sure e), V.sl (10 : Nat) (List.map Sp.row (Ep.spans e))])], ids := [(1000 : Nat)] }) :=
  runP hmix [.reg 9 [(2, [], some true)], .reg 11 [(5, [.row (Sp.row x)], none), (11, [.row (Sp.row z)], none), (12, [], some true)]] ⟨[1, 2, 3, 4], [(1000, 1000)], []⟩ [
      decide (Int.ofNat i < Int.ofNat m) = true,
      (0 : Int) ≤ Int.ofNat i,
      Int.ofNat i < Int.ofNat (List.length (List.map Sp.row (Ep.spans e))),
      (List.map Sp.row (Ep.spans e))[i]? = some (Sp.row x),
      (0 : Int) ≤ Int.ofNat m,
      Int.ofNat m < Int.ofNat (List.length (List.map Sp.row (Ep.spans e))),
      (List.map Sp.row (Ep.spans e))[m]? = some (Sp.row z),
      (Sp.id x == Sp.id z) = true] (by kernel_rfl)
    (by
      have d0 := tq0
      try simp only [Int.ofNat_eq_natCast, List.length_map, Bool.not_eq_true', Bool.not_eq_false', decide_eq_true_eq, decide_eq_false_iff_not] at d0
      simp only [allP]
      and_intros <;> first
        | omega
        | (simp at hi; simp; omega)
        | (have q := (List.getElem?_eq_some_iff.1 hz).1; simp; omega)
        | (rw [List.getElem?_map, take_get hx]; rfl)
        | (simp [hz]; done))

theorem rj_1 (e : Ep) (z : Sp) (m : Nat) (x : Sp) (i : Nat) (hx : (e.spans.take m)[i]? = some x) (hi : i < (e.spans.take m).length) (hz : e.spans[m]? = some z) (hs : e.spans.length ≤ 1048576) (tq0 : (Sp.id x == Sp.id z) = false) : CodeC Try.prog 0 64 rjB (rjS e false m (i)) (Ex.normal) ({ env := [((1 : Nat), V.ptr (1000 : Nat) (0 : Nat) (0 : Nat) (0 : Nat)), ((2 : Nat), Bo false), ((3 : Nat), I (Int.ofNat m)), ((4 : Nat), I (Int.ofNat (i + (1 : Nat))))], st := [((1000 : Nat), Obj.box [V.val (Value.int IntKind.u64 (Ep.hi e)), V.val (Value.int IntKind.u64 (Ep.lo e)), I (Ep.first e), I (Ep.last e), Bo (Ep.sure e), V.sl (10 : Nat) (List.map Sp.row (Ep.spans e))])], ids := [(1000 : Nat)] }) :=
  runP hmix [.reg 9 [(2, [], some true)], .reg 11 [(5, [.row (Sp.row x)], none), (11, [.row (Sp.row z)], none), (12, [], some false)], .reg 10 [(1, [.be (I ((i + 1 : Nat) : Int))], none)]] ⟨[1, 2, 3, 4], [(1000, 1000)], []⟩ [
      decide (Int.ofNat i < Int.ofNat m) = true,
      (0 : Int) ≤ Int.ofNat i,
      Int.ofNat i < Int.ofNat (List.length (List.map Sp.row (Ep.spans e))),
      (List.map Sp.row (Ep.spans e))[i]? = some (Sp.row x),
      (0 : Int) ≤ Int.ofNat m,
      Int.ofNat m < Int.ofNat (List.length (List.map Sp.row (Ep.spans e))),
      (List.map Sp.row (Ep.spans e))[m]? = some (Sp.row z),
      (Sp.id x == Sp.id z) = false,
      IntKind.wrap IntKind.i64 (Int.ofNat (i + (1 : Nat))) = Int.ofNat (i + (1 : Nat))] (by kernel_rfl)
    (by
      have d0 := tq0
      try simp only [Int.ofNat_eq_natCast, List.length_map, Bool.not_eq_true', Bool.not_eq_false', decide_eq_true_eq, decide_eq_false_iff_not] at d0
      simp only [allP]
      and_intros <;> first
        | omega
        | (simp at hi; simp; omega)
        | (have q := (List.getElem?_eq_some_iff.1 hz).1; simp; omega)
        | (rw [List.getElem?_map, take_get hx]; rfl)
        | (simp [hz]; done)
        | (have q := (List.getElem?_eq_some_iff.1 (take_get hx)).1; exact i64_small (by simp; omega)))

theorem rjGo (e : Ep) (z : Sp) (m : Nat) (x : Sp) (i : Nat) (hx : (e.spans.take m)[i]? = some x) (hi : i < (e.spans.take m).length) (hz : e.spans[m]? = some z) (hs : e.spans.length ≤ 1048576) (hb : (x.id == z.id) = false) : CodeC Try.prog 0 64 rjB (rjS e false m (i)) .normal (rjS e false m (i + 1)) := by
  rcases tf (Sp.id x == Sp.id z) with tq0 | tq0
  · exact absurd hb (by
      first
        | (simp [tq0]; done))
  · exact CodeC.cast (by
      first
        | rfl) (rj_1 e z m x i hx hi hz hs tq0)

theorem rjStop (e : Ep) (z : Sp) (m : Nat) (x : Sp) (i : Nat) (hx : (e.spans.take m)[i]? = some x) (hi : i < (e.spans.take m).length) (hz : e.spans[m]? = some z) (hs : e.spans.length ≤ 1048576) (hb : (x.id == z.id) = true) : CodeC Try.prog 0 64 rjB (rjS e false m (i)) .ret (rjS e false m (i)) := by
  rcases tf (Sp.id x == Sp.id z) with tq0 | tq0
  · exact CodeC.cast (by
      first
        | rfl) (rj_0 e z m x i hx hi hz hs tq0)
  · exact absurd hb (by
      first
        | (simp [tq0]; done))

theorem rjE_0 (e : Ep) (z : Sp) (m : Nat) (i : Nat) (hz : e.spans[m]? = some z) (hs : e.spans.length ≤ 1048576) (h : (e.spans.take m).length ≤ i) : CodeC Try.prog 0 64 rjB (rjS e false m (i)) (Ex.exit (2 : Nat)) ({ env := [((1 : Nat), V.ptr (1000 : Nat) (0 : Nat) (0 : Nat) (0 : Nat)), ((2 : Nat), Bo false), ((3 : Nat), I (Int.ofNat m)), ((4 : Nat), I (Int.ofNat i))], st := [((1000 : Nat), Obj.box [V.val (Value.int IntKind.u64 (Ep.hi e)), V.val (Value.int IntKind.u64 (Ep.lo e)), I (Ep.first e), I (Ep.last e), Bo (Ep.sure e), V.sl (10 : Nat) (List.map Sp.row (Ep.spans e))])], ids := [(1000 : Nat)] }) :=
  runP hmix [.reg 9 [(2, [], some false)]] ⟨[1, 2, 3, 4], [(1000, 1000)], []⟩ [
      decide (Int.ofNat i < Int.ofNat m) = false] (by kernel_rfl)
    (by
      simp only [allP]
      and_intros <;> first
        | (have q := (List.getElem?_eq_some_iff.1 hz).1; simp at h ⊢; omega))

theorem rjE (e : Ep) (z : Sp) (m : Nat) (i : Nat) (hz : e.spans[m]? = some z) (hs : e.spans.length ≤ 1048576) (h : (e.spans.take m).length ≤ i)  : CodeC Try.prog 0 64 rjB (rjS e false m (i)) (.exit 2) (rjS e false m (i)) := by
  exact CodeC.cast (by
    first
      | rfl) (rjE_0 e z m i hz hs h )

theorem rjL (e : Ep) (z : Sp) (m : Nat) (hz : e.spans[m]? = some z) (hs : e.spans.length ≤ 1048576) : (∃ i x, (e.spans.take m)[i]? = some x ∧ (x.id == z.id) = true ∧ LoopC Try.prog 0 64 rjB (rjS e false m (0)) .ret (rjS e false m (i))) ∨ ((∀ (i : Nat) (x : Sp), (e.spans.take m)[i]? = some x → (x.id == z.id) = false) ∧ LoopC Try.prog 0 64 rjB (rjS e false m (0)) (.exit 2) (rjS e false m ((e.spans.take m).length))) := by
  rcases LoopC.search (P := Try.prog) (k := 0) (n := 64) (c := rjB) (e.spans.take m) (fun i (x : Sp) => x.id == z.id) (fun i => rjS e false m (i)) (fun i => rjS e false m (i)) (e1 := .ret) (e2 := (.exit 2)) (by simp) (by simp)
    (fun i x hx hi hb => rjGo e z m x i hx hi hz hs hb) (fun i x hx hi hb => rjStop e z m x i hx hi hz hs hb) (rjE e z m _ hz hs (Nat.le_refl _)) with ⟨i, x, k1, k2, _, k4⟩ | ⟨k1, k2⟩
  · exact .inl ⟨i, x, k1, k2, k4⟩
  · exact .inr ⟨k1, k2⟩

theorem reX_0 (e : Ep) (x : Sp) (i : Nat) (hx : e.spans[i]? = some x) (hi : i < e.spans.length) (hs : e.spans.length ≤ 1048576) (hl : LoopC Try.prog 0 64 rjB (rjS e false i 0) (.exit 2) (rjS e false i (e.spans.take i).length)) (tq0 : (!rightS x) = true) : CodeC Try.prog 0 64 reB (reS e false i) (Ex.ret) ({ env := [((1 : Nat), V.ptr (1000 : Nat) (0 : Nat) (0 : Nat) (0 : Nat)), ((2 : Nat), Bo false), ((3 : Nat), I (Int.ofNat i))], st := [((1000 : Nat), Obj.box [V.val (Value.int IntKind.u64 (Ep.hi e)), V.val (Value.int IntKind.u64 (Ep.lo e)), I (Ep.first e), I (Ep.last e), Bo (Ep.sure e), V.sl (10 : Nat) (List.map Sp.row (Ep.spans e))])], ids := [(1000 : Nat)] }) :=
  runP hmix [.reg 4 [(4, [], some true)], .reg 6 [(4, [.row (Sp.row x)], none), (5, [.call [] [] (Bo (rightS x)) []], none), (7, [], some true), (13, [.row (Sp.row x)], none)]] ⟨[1, 2, 3], [(1000, 1000)], []⟩ [
      decide (Int.ofNat i < Int.ofNat (List.length (List.map Sp.row (Ep.spans e)))) = true,
      (0 : Int) ≤ Int.ofNat i,
      Int.ofNat i < Int.ofNat (List.length (List.map Sp.row (Ep.spans e))),
      (List.map Sp.row (Ep.spans e))[i]? = some (Sp.row x),
      Contract Try.prog (32 : Nat) [V.agg [V.val (Value.int IntKind.u64 (Sp.hi x)), V.val (Value.int IntKind.u64 (Sp.lo x)), V.val (Value.int IntKind.u64 (Sp.id x)), V.val (Value.int IntKind.u64 (Sp.par x)), Sg (Sp.svc x), Sg (Sp.op x), I (Sp.start x), I (Sp.dur x), Bo (Sp.err x), V.sl (2 : Nat) (List.map At.row (Sp.attrs x))]] [] (Bo (rightS x)) [],
      (!rightS x) = true] (by kernel_rfl)
    (by
      have d0 := tq0
      try simp only [Int.ofNat_eq_natCast, List.length_map, Bool.not_eq_true', Bool.not_eq_false', decide_eq_true_eq, decide_eq_false_iff_not] at d0
      simp only [allP]
      and_intros <;> first
        | omega
        | exact cRightR x
        | (simp; omega)
        | (simp [hx]; done))

theorem reX_1 (e : Ep) (x : Sp) (i : Nat) (hx : e.spans[i]? = some x) (hi : i < e.spans.length) (hs : e.spans.length ≤ 1048576) (hl : LoopC Try.prog 0 64 rjB (rjS e false i 0) (.exit 2) (rjS e false i (e.spans.take i).length)) (tq0 : (!rightS x) = false) (tq1 : (!(decide (Sp.hi x = Ep.hi e) && (decide (Sp.lo x = Ep.lo e) && true))) = true) : CodeC Try.prog 0 64 reB (reS e false i) (Ex.ret) ({ env := [((1 : Nat), V.ptr (1000 : Nat) (0 : Nat) (0 : Nat) (0 : Nat)), ((2 : Nat), Bo false), ((3 : Nat), I (Int.ofNat i))], st := [((1000 : Nat), Obj.box [V.val (Value.int IntKind.u64 (Ep.hi e)), V.val (Value.int IntKind.u64 (Ep.lo e)), I (Ep.first e), I (Ep.last e), Bo (Ep.sure e), V.sl (10 : Nat) (List.map Sp.row (Ep.spans e))])], ids := [(1000 : Nat)] }) :=
  runP hmix [.reg 4 [(4, [], some true)], .reg 6 [(4, [.row (Sp.row x)], none), (5, [.call [] [] (Bo (rightS x)) []], none), (7, [], some false), (13, [.row (Sp.row x)], none), (17, [], some true)]] ⟨[1, 2, 3], [(1000, 1000)], []⟩ [
      decide (Int.ofNat i < Int.ofNat (List.length (List.map Sp.row (Ep.spans e)))) = true,
      (0 : Int) ≤ Int.ofNat i,
      Int.ofNat i < Int.ofNat (List.length (List.map Sp.row (Ep.spans e))),
      (List.map Sp.row (Ep.spans e))[i]? = some (Sp.row x),
      Contract Try.prog (32 : Nat) [V.agg [V.val (Value.int IntKind.u64 (Sp.hi x)), V.val (Value.int IntKind.u64 (Sp.lo x)), V.val (Value.int IntKind.u64 (Sp.id x)), V.val (Value.int IntKind.u64 (Sp.par x)), Sg (Sp.svc x), Sg (Sp.op x), I (Sp.start x), I (Sp.dur x), Bo (Sp.err x), V.sl (2 : Nat) (List.map At.row (Sp.attrs x))]] [] (Bo (rightS x)) [],
      (!rightS x) = false,
      (0 : Int) ≤ Int.ofNat i,
      Int.ofNat i < Int.ofNat (List.length (List.map Sp.row (Ep.spans e))),
      (List.map Sp.row (Ep.spans e))[i]? = some (Sp.row x),
      (!(decide (Sp.hi x = Ep.hi e) && (decide (Sp.lo x = Ep.lo e) && true))) = true] (by kernel_rfl)
    (by
      have d0 := tq0
      have d1 := tq1
      try simp only [Int.ofNat_eq_natCast, List.length_map, Bool.not_eq_true', Bool.not_eq_false', decide_eq_true_eq, decide_eq_false_iff_not] at d0 d1
      simp only [allP]
      and_intros <;> first
        | omega
        | exact cRightR x
        | (simp; omega)
        | (simp [hx]; done))

theorem reX_2 (e : Ep) (x : Sp) (i : Nat) (hx : e.spans[i]? = some x) (hi : i < e.spans.length) (hs : e.spans.length ≤ 1048576) (hl : LoopC Try.prog 0 64 rjB (rjS e false i 0) (.exit 2) (rjS e false i (e.spans.take i).length)) (tq0 : (!rightS x) = false) (tq1 : (!(decide (Sp.hi x = Ep.hi e) && (decide (Sp.lo x = Ep.lo e) && true))) = false) : CodeC Try.prog 0 64 reB (reS e false i) (Ex.normal) ({ env := [((1 : Nat), V.ptr (1000 : Nat) (0 : Nat) (0 : Nat) (0 : Nat)), ((2 : Nat), Bo false), ((3 : Nat), I (Int.ofNat (i + (1 : Nat))))], st := [((1000 : Nat), Obj.box [V.val (Value.int IntKind.u64 (Ep.hi e)), V.val (Value.int IntKind.u64 (Ep.lo e)), I (Ep.first e), I (Ep.last e), Bo (Ep.sure e), V.sl (10 : Nat) (List.map Sp.row (Ep.spans e))])], ids := [(1000 : Nat)] }) :=
  runP hmix [.reg 4 [(4, [], some true)], .reg 6 [(4, [.row (Sp.row x)], none), (5, [.call [] [] (Bo (rightS x)) []], none), (7, [], some false), (13, [.row (Sp.row x)], none), (17, [], some false)], .cut ⟨[1, 2, 3, 4], [(1000, 1000)], []⟩ (.exit 2) (rjS e false i (e.spans.take i).length), .reg 5 [(1, [.be (I ((i + 1 : Nat) : Int))], none)]] ⟨[1, 2, 3], [(1000, 1000)], []⟩ [
      decide (Int.ofNat i < Int.ofNat (List.length (List.map Sp.row (Ep.spans e)))) = true,
      (0 : Int) ≤ Int.ofNat i,
      Int.ofNat i < Int.ofNat (List.length (List.map Sp.row (Ep.spans e))),
      (List.map Sp.row (Ep.spans e))[i]? = some (Sp.row x),
      Contract Try.prog (32 : Nat) [V.agg [V.val (Value.int IntKind.u64 (Sp.hi x)), V.val (Value.int IntKind.u64 (Sp.lo x)), V.val (Value.int IntKind.u64 (Sp.id x)), V.val (Value.int IntKind.u64 (Sp.par x)), Sg (Sp.svc x), Sg (Sp.op x), I (Sp.start x), I (Sp.dur x), Bo (Sp.err x), V.sl (2 : Nat) (List.map At.row (Sp.attrs x))]] [] (Bo (rightS x)) [],
      (!rightS x) = false,
      (0 : Int) ≤ Int.ofNat i,
      Int.ofNat i < Int.ofNat (List.length (List.map Sp.row (Ep.spans e))),
      (List.map Sp.row (Ep.spans e))[i]? = some (Sp.row x),
      (!(decide (Sp.hi x = Ep.hi e) && (decide (Sp.lo x = Ep.lo e) && true))) = false,
      LoopC Try.prog (0 : Nat) (64 : Nat) rjB { env := [((1 : Nat), V.ptr (1000 : Nat) (0 : Nat) (0 : Nat) (0 : Nat)), ((2 : Nat), Bo false), ((3 : Nat), I (Int.ofNat i)), ((4 : Nat), I (0 : Int))], st := [((1000 : Nat), Obj.box [V.val (Value.int IntKind.u64 (Ep.hi e)), V.val (Value.int IntKind.u64 (Ep.lo e)), I (Ep.first e), I (Ep.last e), Bo (Ep.sure e), V.sl (10 : Nat) (List.map Sp.row (Ep.spans e))])], ids := [(1000 : Nat)] } (Ex.exit (2 : Nat)) { env := [((1 : Nat), V.ptr (1000 : Nat) (0 : Nat) (0 : Nat) (0 : Nat)), ((2 : Nat), Bo false), ((3 : Nat), I (Int.ofNat i)), ((4 : Nat), I (Int.ofNat (List.length (List.take i (Ep.spans e)))))], st := [((1000 : Nat), Obj.box (Ep.row e))], ids := [(1000 : Nat)] },
      IntKind.wrap IntKind.i64 (Int.ofNat (i + (1 : Nat))) = Int.ofNat (i + (1 : Nat))] (by kernel_rfl)
    (by
      have d0 := tq0
      have d1 := tq1
      try simp only [Int.ofNat_eq_natCast, List.length_map, Bool.not_eq_true', Bool.not_eq_false', decide_eq_true_eq, decide_eq_false_iff_not] at d0 d1
      simp only [allP]
      and_intros <;> first
        | omega
        | exact cRightR x
        | exact hl
        | (simp; omega)
        | (simp [hx]; done)
        | exact i64_small (by simp; omega))

theorem reXGo (e : Ep) (x : Sp) (i : Nat) (hx : e.spans[i]? = some x) (hi : i < e.spans.length) (hs : e.spans.length ≤ 1048576) (hl : LoopC Try.prog 0 64 rjB (rjS e false i 0) (.exit 2) (rjS e false i (e.spans.take i).length)) (hb : badX e x = false) : CodeC Try.prog 0 64 reB (reS e false i) .normal (reS e false (i + 1)) := by
  rcases tf (!rightS x) with tq0 | tq0
  · exact absurd hb (by
      first
        | (simp [badX, tq0]; done))
  · rcases tf (!(decide (Sp.hi x = Ep.hi e) && (decide (Sp.lo x = Ep.lo e) && true))) with tq1 | tq1
    · exact absurd hb (by
        first
          | (intro hb; simp_all [badX]; done))
    · exact CodeC.cast (by
        first
          | rfl) (reX_2 e x i hx hi hs hl tq0 tq1)

theorem reXStop (e : Ep) (x : Sp) (i : Nat) (hx : e.spans[i]? = some x) (hi : i < e.spans.length) (hs : e.spans.length ≤ 1048576) (hl : LoopC Try.prog 0 64 rjB (rjS e false i 0) (.exit 2) (rjS e false i (e.spans.take i).length)) (hb : badX e x = true) : CodeC Try.prog 0 64 reB (reS e false i) .ret (reS e false i) := by
  rcases tf (!rightS x) with tq0 | tq0
  · exact CodeC.cast (by
      first
        | rfl) (reX_0 e x i hx hi hs hl tq0)
  · rcases tf (!(decide (Sp.hi x = Ep.hi e) && (decide (Sp.lo x = Ep.lo e) && true))) with tq1 | tq1
    · exact CodeC.cast (by
        first
          | rfl) (reX_1 e x i hx hi hs hl tq0 tq1)
    · exact absurd hb (by
        first
          | (intro hb; simp_all [badX]; done))

theorem reY_0 (e : Ep) (x : Sp) (i k : Nat) (hx : e.spans[i]? = some x) (hi : i < e.spans.length) (hs : e.spans.length ≤ 1048576) (hl : LoopC Try.prog 0 64 rjB (rjS e false i 0) .ret (rjS e false i k)) (tq0 : (!rightS x) = true) : CodeC Try.prog 0 64 reB (reS e false i) (Ex.ret) ({ env := [((1 : Nat), V.ptr (1000 : Nat) (0 : Nat) (0 : Nat) (0 : Nat)), ((2 : Nat), Bo false), ((3 : Nat), I (Int.ofNat i))], st := [((1000 : Nat), Obj.box [V.val (Value.int IntKind.u64 (Ep.hi e)), V.val (Value.int IntKind.u64 (Ep.lo e)), I (Ep.first e), I (Ep.last e), Bo (Ep.sure e), V.sl (10 : Nat) (List.map Sp.row (Ep.spans e))])], ids := [(1000 : Nat)] }) :=
  runP hmix [.reg 4 [(4, [], some true)], .reg 6 [(4, [.row (Sp.row x)], none), (5, [.call [] [] (Bo (rightS x)) []], none), (7, [], some true), (13, [.row (Sp.row x)], none)]] ⟨[1, 2, 3], [(1000, 1000)], []⟩ [
      decide (Int.ofNat i < Int.ofNat (List.length (List.map Sp.row (Ep.spans e)))) = true,
      (0 : Int) ≤ Int.ofNat i,
      Int.ofNat i < Int.ofNat (List.length (List.map Sp.row (Ep.spans e))),
      (List.map Sp.row (Ep.spans e))[i]? = some (Sp.row x),
      Contract Try.prog (32 : Nat) [V.agg [V.val (Value.int IntKind.u64 (Sp.hi x)), V.val (Value.int IntKind.u64 (Sp.lo x)), V.val (Value.int IntKind.u64 (Sp.id x)), V.val (Value.int IntKind.u64 (Sp.par x)), Sg (Sp.svc x), Sg (Sp.op x), I (Sp.start x), I (Sp.dur x), Bo (Sp.err x), V.sl (2 : Nat) (List.map At.row (Sp.attrs x))]] [] (Bo (rightS x)) [],
      (!rightS x) = true] (by kernel_rfl)
    (by
      have d0 := tq0
      try simp only [Int.ofNat_eq_natCast, List.length_map, Bool.not_eq_true', Bool.not_eq_false', decide_eq_true_eq, decide_eq_false_iff_not] at d0
      simp only [allP]
      and_intros <;> first
        | omega
        | exact cRightR x
        | (simp; omega)
        | (simp [hx]; done))

theorem reY_1 (e : Ep) (x : Sp) (i k : Nat) (hx : e.spans[i]? = some x) (hi : i < e.spans.length) (hs : e.spans.length ≤ 1048576) (hl : LoopC Try.prog 0 64 rjB (rjS e false i 0) .ret (rjS e false i k)) (tq0 : (!rightS x) = false) (tq1 : (!(decide (Sp.hi x = Ep.hi e) && (decide (Sp.lo x = Ep.lo e) && true))) = true) : CodeC Try.prog 0 64 reB (reS e false i) (Ex.ret) ({ env := [((1 : Nat), V.ptr (1000 : Nat) (0 : Nat) (0 : Nat) (0 : Nat)), ((2 : Nat), Bo false), ((3 : Nat), I (Int.ofNat i))], st := [((1000 : Nat), Obj.box [V.val (Value.int IntKind.u64 (Ep.hi e)), V.val (Value.int IntKind.u64 (Ep.lo e)), I (Ep.first e), I (Ep.last e), Bo (Ep.sure e), V.sl (10 : Nat) (List.map Sp.row (Ep.spans e))])], ids := [(1000 : Nat)] }) :=
  runP hmix [.reg 4 [(4, [], some true)], .reg 6 [(4, [.row (Sp.row x)], none), (5, [.call [] [] (Bo (rightS x)) []], none), (7, [], some false), (13, [.row (Sp.row x)], none), (17, [], some true)]] ⟨[1, 2, 3], [(1000, 1000)], []⟩ [
      decide (Int.ofNat i < Int.ofNat (List.length (List.map Sp.row (Ep.spans e)))) = true,
      (0 : Int) ≤ Int.ofNat i,
      Int.ofNat i < Int.ofNat (List.length (List.map Sp.row (Ep.spans e))),
      (List.map Sp.row (Ep.spans e))[i]? = some (Sp.row x),
      Contract Try.prog (32 : Nat) [V.agg [V.val (Value.int IntKind.u64 (Sp.hi x)), V.val (Value.int IntKind.u64 (Sp.lo x)), V.val (Value.int IntKind.u64 (Sp.id x)), V.val (Value.int IntKind.u64 (Sp.par x)), Sg (Sp.svc x), Sg (Sp.op x), I (Sp.start x), I (Sp.dur x), Bo (Sp.err x), V.sl (2 : Nat) (List.map At.row (Sp.attrs x))]] [] (Bo (rightS x)) [],
      (!rightS x) = false,
      (0 : Int) ≤ Int.ofNat i,
      Int.ofNat i < Int.ofNat (List.length (List.map Sp.row (Ep.spans e))),
      (List.map Sp.row (Ep.spans e))[i]? = some (Sp.row x),
      (!(decide (Sp.hi x = Ep.hi e) && (decide (Sp.lo x = Ep.lo e) && true))) = true] (by kernel_rfl)
    (by
      have d0 := tq0
      have d1 := tq1
      try simp only [Int.ofNat_eq_natCast, List.length_map, Bool.not_eq_true', Bool.not_eq_false', decide_eq_true_eq, decide_eq_false_iff_not] at d0 d1
      simp only [allP]
      and_intros <;> first
        | omega
        | exact cRightR x
        | (simp; omega)
        | (simp [hx]; done))

theorem reY_2 (e : Ep) (x : Sp) (i k : Nat) (hx : e.spans[i]? = some x) (hi : i < e.spans.length) (hs : e.spans.length ≤ 1048576) (hl : LoopC Try.prog 0 64 rjB (rjS e false i 0) .ret (rjS e false i k)) (tq0 : (!rightS x) = false) (tq1 : (!(decide (Sp.hi x = Ep.hi e) && (decide (Sp.lo x = Ep.lo e) && true))) = false) : CodeC Try.prog 0 64 reB (reS e false i) (Ex.ret) ({ env := [((1 : Nat), V.ptr (1000 : Nat) (0 : Nat) (0 : Nat) (0 : Nat)), ((2 : Nat), Bo false), ((3 : Nat), I (Int.ofNat i))], st := [((1000 : Nat), Obj.box [V.val (Value.int IntKind.u64 (Ep.hi e)), V.val (Value.int IntKind.u64 (Ep.lo e)), I (Ep.first e), I (Ep.last e), Bo (Ep.sure e), V.sl (10 : Nat) (List.map Sp.row (Ep.spans e))])], ids := [(1000 : Nat)] }) :=
  runP hmix [.reg 4 [(4, [], some true)], .reg 6 [(4, [.row (Sp.row x)], none), (5, [.call [] [] (Bo (rightS x)) []], none), (7, [], some false), (13, [.row (Sp.row x)], none), (17, [], some false)], .cut ⟨[1, 2, 3, 4], [(1000, 1000)], []⟩ .ret (rjS e false i k)] ⟨[1, 2, 3], [(1000, 1000)], []⟩ [
      decide (Int.ofNat i < Int.ofNat (List.length (List.map Sp.row (Ep.spans e)))) = true,
      (0 : Int) ≤ Int.ofNat i,
      Int.ofNat i < Int.ofNat (List.length (List.map Sp.row (Ep.spans e))),
      (List.map Sp.row (Ep.spans e))[i]? = some (Sp.row x),
      Contract Try.prog (32 : Nat) [V.agg [V.val (Value.int IntKind.u64 (Sp.hi x)), V.val (Value.int IntKind.u64 (Sp.lo x)), V.val (Value.int IntKind.u64 (Sp.id x)), V.val (Value.int IntKind.u64 (Sp.par x)), Sg (Sp.svc x), Sg (Sp.op x), I (Sp.start x), I (Sp.dur x), Bo (Sp.err x), V.sl (2 : Nat) (List.map At.row (Sp.attrs x))]] [] (Bo (rightS x)) [],
      (!rightS x) = false,
      (0 : Int) ≤ Int.ofNat i,
      Int.ofNat i < Int.ofNat (List.length (List.map Sp.row (Ep.spans e))),
      (List.map Sp.row (Ep.spans e))[i]? = some (Sp.row x),
      (!(decide (Sp.hi x = Ep.hi e) && (decide (Sp.lo x = Ep.lo e) && true))) = false,
      LoopC Try.prog (0 : Nat) (64 : Nat) rjB { env := [((1 : Nat), V.ptr (1000 : Nat) (0 : Nat) (0 : Nat) (0 : Nat)), ((2 : Nat), Bo false), ((3 : Nat), I (Int.ofNat i)), ((4 : Nat), I (0 : Int))], st := [((1000 : Nat), Obj.box [V.val (Value.int IntKind.u64 (Ep.hi e)), V.val (Value.int IntKind.u64 (Ep.lo e)), I (Ep.first e), I (Ep.last e), Bo (Ep.sure e), V.sl (10 : Nat) (List.map Sp.row (Ep.spans e))])], ids := [(1000 : Nat)] } Ex.ret { env := [((1 : Nat), V.ptr (1000 : Nat) (0 : Nat) (0 : Nat) (0 : Nat)), ((2 : Nat), Bo false), ((3 : Nat), I (Int.ofNat i)), ((4 : Nat), I (Int.ofNat k))], st := [((1000 : Nat), Obj.box (Ep.row e))], ids := [(1000 : Nat)] }] (by kernel_rfl)
    (by
      have d0 := tq0
      have d1 := tq1
      try simp only [Int.ofNat_eq_natCast, List.length_map, Bool.not_eq_true', Bool.not_eq_false', decide_eq_true_eq, decide_eq_false_iff_not] at d0 d1
      simp only [allP]
      and_intros <;> first
        | omega
        | exact cRightR x
        | exact hl
        | (simp; omega)
        | (simp [hx]; done))

theorem reY (e : Ep) (x : Sp) (i k : Nat) (hx : e.spans[i]? = some x) (hi : i < e.spans.length) (hs : e.spans.length ≤ 1048576) (hl : LoopC Try.prog 0 64 rjB (rjS e false i 0) .ret (rjS e false i k))  : CodeC Try.prog 0 64 reB (reS e false i) .ret (reS e false i) := by
  rcases tf (!rightS x) with tq0 | tq0
  · exact CodeC.cast (by
      first
        | rfl) (reY_0 e x i k hx hi hs hl tq0)
  · rcases tf (!(decide (Sp.hi x = Ep.hi e) && (decide (Sp.lo x = Ep.lo e) && true))) with tq1 | tq1
    · exact CodeC.cast (by
        first
          | rfl) (reY_1 e x i k hx hi hs hl tq0 tq1)
    · exact CodeC.cast (by
        first
          | rfl) (reY_2 e x i k hx hi hs hl tq0 tq1)

theorem reE_0 (e : Ep) (i : Nat) (hs : e.spans.length ≤ 1048576) (h : e.spans.length ≤ i) : CodeC Try.prog 0 64 reB (reS e false i) (Ex.exit (0 : Nat)) ({ env := [((1 : Nat), V.ptr (1000 : Nat) (0 : Nat) (0 : Nat) (0 : Nat)), ((2 : Nat), Bo false), ((3 : Nat), I (Int.ofNat i))], st := [((1000 : Nat), Obj.box [V.val (Value.int IntKind.u64 (Ep.hi e)), V.val (Value.int IntKind.u64 (Ep.lo e)), I (Ep.first e), I (Ep.last e), Bo (Ep.sure e), V.sl (10 : Nat) (List.map Sp.row (Ep.spans e))])], ids := [(1000 : Nat)] }) :=
  runP hmix [.reg 4 [(4, [], some false)]] ⟨[1, 2, 3], [(1000, 1000)], []⟩ [
      decide (Int.ofNat i < Int.ofNat (List.length (List.map Sp.row (Ep.spans e)))) = false] (by kernel_rfl)
    (by
      simp only [allP]
      and_intros <;> first
        | (simp; omega))

theorem reE (e : Ep) (i : Nat) (hs : e.spans.length ≤ 1048576) (h : e.spans.length ≤ i)  : CodeC Try.prog 0 64 reB (reS e false i) (.exit 0) (reS e false i) := by
  exact CodeC.cast (by
    first
      | rfl) (reE_0 e i hs h )

theorem reGo (e : Ep) (x : Sp) (i : Nat) (hx : e.spans[i]? = some x) (hi : i < e.spans.length) (hs : e.spans.length ≤ 1048576) (hb : badE e i x = false) : CodeC Try.prog 0 64 reB (reS e false i) .normal (reS e false (i + 1)) := by
  unfold badE at hb
  simp only [Bool.or_eq_false_iff, Bool.not_eq_false'] at hb
  rcases rjL e x i hx hs with ⟨k, y, k1, k2, k4⟩ | ⟨k1, k2⟩
  · rw [allI_bad (bad := fun _ (y : Sp) => y.id == x.id) k1 k2] at hb
    exact absurd hb.2 (by simp)
  · exact reXGo e x i hx hi hs k2 hb.1
theorem reStop (e : Ep) (x : Sp) (i : Nat) (hx : e.spans[i]? = some x) (hi : i < e.spans.length) (hs : e.spans.length ≤ 1048576) (hb : badE e i x = true) : CodeC Try.prog 0 64 reB (reS e false i) .ret (reS e false i) := by
  rcases rjL e x i hx hs with ⟨k, y, k1, k2, k4⟩ | ⟨k1, k2⟩
  · exact reY e x i k hx hi hs k4
  · unfold badE at hb
    rw [allI_good (bad := fun _ (y : Sp) => y.id == x.id) k1] at hb
    simp only [Bool.not_true, Bool.or_false] at hb
    exact reXStop e x i hx hi hs k2 hb

theorem reL (e : Ep) (hs : e.spans.length ≤ 1048576) : (∃ i x, e.spans[i]? = some x ∧ (badE e i x) = true ∧ LoopC Try.prog 0 64 reB (reS e false (0)) .ret (reS e false (i))) ∨ ((∀ (i : Nat) (x : Sp), e.spans[i]? = some x → (badE e i x) = false) ∧ LoopC Try.prog 0 64 reB (reS e false (0)) (.exit 0) (reS e false (e.spans.length))) := by
  rcases LoopC.search (P := Try.prog) (k := 0) (n := 64) (c := reB) e.spans (fun i (x : Sp) => badE e i x) (fun i => reS e false (i)) (fun i => reS e false (i)) (e1 := .ret) (e2 := (.exit 0)) (by simp) (by simp)
    (fun i x hx hi hb => reGo e x i hx hi hs hb) (fun i x hx hi hb => reStop e x i hx hi hs hb) (reE e _ hs (Nat.le_refl _)) with ⟨i, x, k1, k2, _, k4⟩ | ⟨k1, k2⟩
  · exact .inl ⟨i, x, k1, k2, k4⟩
  · exact .inr ⟨k1, k2⟩

theorem cRightE_b_0 (e : Ep) (i : Nat) (hs : e.spans.length ≤ 1048576) (hl : LoopC Try.prog 0 64 reB (reS e false (0)) .ret (reS e false (i))) (tq0 : (!countB (Ep.first e)) = true) : Contract Try.prog 23 [e.v] [] (Bo false) ([]) :=
  vcP hmix [.reg 1 [(4, [], some true)], .tab [(25, FCount)]] [] [
      Contract Try.prog (25 : Nat) [I (Ep.first e)] [] (Bo (countB (Ep.first e))) [],
      (!countB (Ep.first e)) = true] (by kernel_rfl)
    (by
      have d0 := tq0
      try simp only [Int.ofNat_eq_natCast, List.length_map, Bool.not_eq_true', Bool.not_eq_false', decide_eq_true_eq, decide_eq_false_iff_not] at d0
      simp only [allP]
      and_intros <;> first
        | omega
        | exact cCount _)

theorem cRightE_b_1 (e : Ep) (i : Nat) (hs : e.spans.length ≤ 1048576) (hl : LoopC Try.prog 0 64 reB (reS e false (0)) .ret (reS e false (i))) (tq0 : (!countB (Ep.first e)) = false) (tq1 : (!countB (Ep.last e)) = true) : Contract Try.prog 23 [e.v] [] (Bo false) ([]) :=
  vcP hmix [.reg 1 [(4, [], some false), (10, [], some true)], .tab [(25, FCount)]] [] [
      Contract Try.prog (25 : Nat) [I (Ep.first e)] [] (Bo (countB (Ep.first e))) [],
      (!countB (Ep.first e)) = false,
      Contract Try.prog (25 : Nat) [I (Ep.last e)] [] (Bo (countB (Ep.last e))) [],
      (!countB (Ep.last e)) = true] (by kernel_rfl)
    (by
      have d0 := tq0
      have d1 := tq1
      try simp only [Int.ofNat_eq_natCast, List.length_map, Bool.not_eq_true', Bool.not_eq_false', decide_eq_true_eq, decide_eq_false_iff_not] at d0 d1
      simp only [allP]
      and_intros <;> first
        | omega
        | exact cCount _)

theorem cRightE_b_2 (e : Ep) (i : Nat) (hs : e.spans.length ≤ 1048576) (hl : LoopC Try.prog 0 64 reB (reS e false (0)) .ret (reS e false (i))) (tq0 : (!countB (Ep.first e)) = false) (tq1 : (!countB (Ep.last e)) = false) (tq2 : (Int.ofNat (List.length (List.map Sp.row (Ep.spans e))) == (0 : Int)) = true) : Contract Try.prog 23 [e.v] [] (Bo false) ([]) :=
  vcP hmix [.reg 1 [(4, [], some false), (10, [], some false), (15, [], some true)], .tab [(25, FCount)]] [] [
      Contract Try.prog (25 : Nat) [I (Ep.first e)] [] (Bo (countB (Ep.first e))) [],
      (!countB (Ep.first e)) = false,
      Contract Try.prog (25 : Nat) [I (Ep.last e)] [] (Bo (countB (Ep.last e))) [],
      (!countB (Ep.last e)) = false,
      (Int.ofNat (List.length (List.map Sp.row (Ep.spans e))) == (0 : Int)) = true] (by kernel_rfl)
    (by
      have d0 := tq0
      have d1 := tq1
      have d2 := tq2
      try simp only [Int.ofNat_eq_natCast, List.length_map, Bool.not_eq_true', Bool.not_eq_false', decide_eq_true_eq, decide_eq_false_iff_not] at d0 d1 d2
      simp only [allP]
      and_intros <;> first
        | omega
        | exact cCount _)

theorem cRightE_b_3 (e : Ep) (i : Nat) (hs : e.spans.length ≤ 1048576) (hl : LoopC Try.prog 0 64 reB (reS e false (0)) .ret (reS e false (i))) (tq0 : (!countB (Ep.first e)) = false) (tq1 : (!countB (Ep.last e)) = false) (tq2 : (Int.ofNat (List.length (List.map Sp.row (Ep.spans e))) == (0 : Int)) = false) : Contract Try.prog 23 [e.v] [] (Bo false) ([]) :=
  vcP hmix [.reg 1 [(4, [], some false), (10, [], some false), (15, [], some false)], .cut ⟨[1, 2, 3], [(1000, 1000)], []⟩ .ret (reS e false (i)), .tab [(25, FCount)]] [] [
      Contract Try.prog (25 : Nat) [I (Ep.first e)] [] (Bo (countB (Ep.first e))) [],
      (!countB (Ep.first e)) = false,
      Contract Try.prog (25 : Nat) [I (Ep.last e)] [] (Bo (countB (Ep.last e))) [],
      (!countB (Ep.last e)) = false,
      (Int.ofNat (List.length (List.map Sp.row (Ep.spans e))) == (0 : Int)) = false,
      LoopC Try.prog (0 : Nat) (64 : Nat) reB { env := [((1 : Nat), V.ptr (1000 : Nat) (0 : Nat) (0 : Nat) (0 : Nat)), ((2 : Nat), Bo false), ((3 : Nat), I (0 : Int))], st := [((1000 : Nat), Obj.box [V.val (Value.int IntKind.u64 (Ep.hi e)), V.val (Value.int IntKind.u64 (Ep.lo e)), I (Ep.first e), I (Ep.last e), Bo (Ep.sure e), V.sl (10 : Nat) (List.map Sp.row (Ep.spans e))])], ids := [(1000 : Nat)] } Ex.ret { env := [((1 : Nat), V.ptr (1000 : Nat) (0 : Nat) (0 : Nat) (0 : Nat)), ((2 : Nat), Bo false), ((3 : Nat), I (Int.ofNat i))], st := [((1000 : Nat), Obj.box (Ep.row e))], ids := [(1000 : Nat)] }] (by kernel_rfl)
    (by
      have d0 := tq0
      have d1 := tq1
      have d2 := tq2
      try simp only [Int.ofNat_eq_natCast, List.length_map, Bool.not_eq_true', Bool.not_eq_false', decide_eq_true_eq, decide_eq_false_iff_not] at d0 d1 d2
      simp only [allP]
      and_intros <;> first
        | omega
        | exact hl
        | exact cCount _)

theorem cRightE_b (e : Ep) (i : Nat) (hs : e.spans.length ≤ 1048576) (hl : LoopC Try.prog 0 64 reB (reS e false (0)) .ret (reS e false (i))) : Contract Try.prog 23 [e.v] [] (Bo false) [] := by
  rcases tf (!countB (Ep.first e)) with tq0 | tq0
  · exact Contract.cast (by
      first
        | rfl) (by
      first
        | rfl) (cRightE_b_0 e i hs hl tq0)
  · rcases tf (!countB (Ep.last e)) with tq1 | tq1
    · exact Contract.cast (by
        first
          | rfl) (by
        first
          | rfl) (cRightE_b_1 e i hs hl tq0 tq1)
    · rcases tf (Int.ofNat (List.length (List.map Sp.row (Ep.spans e))) == (0 : Int)) with tq2 | tq2
      · exact Contract.cast (by
          first
            | rfl) (by
          first
            | rfl) (cRightE_b_2 e i hs hl tq0 tq1 tq2)
      · exact Contract.cast (by
          first
            | rfl) (by
          first
            | rfl) (cRightE_b_3 e i hs hl tq0 tq1 tq2)

theorem cRightE_g_0 (e : Ep) (hs : e.spans.length ≤ 1048576) (hl : LoopC Try.prog 0 64 reB (reS e false (0)) (.exit 0) (reS e false (e.spans.length))) (tq0 : (!countB (Ep.first e)) = true) : Contract Try.prog 23 [e.v] [] (Bo false) ([]) :=
  vcP hmix [.reg 1 [(4, [], some true)], .tab [(25, FCount)]] [] [
      Contract Try.prog (25 : Nat) [I (Ep.first e)] [] (Bo (countB (Ep.first e))) [],
      (!countB (Ep.first e)) = true] (by kernel_rfl)
    (by
      have d0 := tq0
      try simp only [Int.ofNat_eq_natCast, List.length_map, Bool.not_eq_true', Bool.not_eq_false', decide_eq_true_eq, decide_eq_false_iff_not] at d0
      simp only [allP]
      and_intros <;> first
        | omega
        | exact cCount _)

theorem cRightE_g_1 (e : Ep) (hs : e.spans.length ≤ 1048576) (hl : LoopC Try.prog 0 64 reB (reS e false (0)) (.exit 0) (reS e false (e.spans.length))) (tq0 : (!countB (Ep.first e)) = false) (tq1 : (!countB (Ep.last e)) = true) : Contract Try.prog 23 [e.v] [] (Bo false) ([]) :=
  vcP hmix [.reg 1 [(4, [], some false), (10, [], some true)], .tab [(25, FCount)]] [] [
      Contract Try.prog (25 : Nat) [I (Ep.first e)] [] (Bo (countB (Ep.first e))) [],
      (!countB (Ep.first e)) = false,
      Contract Try.prog (25 : Nat) [I (Ep.last e)] [] (Bo (countB (Ep.last e))) [],
      (!countB (Ep.last e)) = true] (by kernel_rfl)
    (by
      have d0 := tq0
      have d1 := tq1
      try simp only [Int.ofNat_eq_natCast, List.length_map, Bool.not_eq_true', Bool.not_eq_false', decide_eq_true_eq, decide_eq_false_iff_not] at d0 d1
      simp only [allP]
      and_intros <;> first
        | omega
        | exact cCount _)

theorem cRightE_g_2 (e : Ep) (hs : e.spans.length ≤ 1048576) (hl : LoopC Try.prog 0 64 reB (reS e false (0)) (.exit 0) (reS e false (e.spans.length))) (tq0 : (!countB (Ep.first e)) = false) (tq1 : (!countB (Ep.last e)) = false) (tq2 : (Int.ofNat (List.length (List.map Sp.row (Ep.spans e))) == (0 : Int)) = true) : Contract Try.prog 23 [e.v] [] (Bo false) ([]) :=
  vcP hmix [.reg 1 [(4, [], some false), (10, [], some false), (15, [], some true)], .tab [(25, FCount)]] [] [
      Contract Try.prog (25 : Nat) [I (Ep.first e)] [] (Bo (countB (Ep.first e))) [],
      (!countB (Ep.first e)) = false,
      Contract Try.prog (25 : Nat) [I (Ep.last e)] [] (Bo (countB (Ep.last e))) [],
      (!countB (Ep.last e)) = false,
      (Int.ofNat (List.length (List.map Sp.row (Ep.spans e))) == (0 : Int)) = true] (by kernel_rfl)
    (by
      have d0 := tq0
      have d1 := tq1
      have d2 := tq2
      try simp only [Int.ofNat_eq_natCast, List.length_map, Bool.not_eq_true', Bool.not_eq_false', decide_eq_true_eq, decide_eq_false_iff_not] at d0 d1 d2
      simp only [allP]
      and_intros <;> first
        | omega
        | exact cCount _)

theorem cRightE_g_3 (e : Ep) (hs : e.spans.length ≤ 1048576) (hl : LoopC Try.prog 0 64 reB (reS e false (0)) (.exit 0) (reS e false (e.spans.length))) (tq0 : (!countB (Ep.first e)) = false) (tq1 : (!countB (Ep.last e)) = false) (tq2 : (Int.ofNat (List.length (List.map Sp.row (Ep.spans e))) == (0 : Int)) = false) : Contract Try.prog 23 [e.v] [] (Bo true) ([]) :=
  vcP hmix [.reg 1 [(4, [], some false), (10, [], some false), (15, [], some false)], .cut ⟨[1, 2, 3], [(1000, 1000)], []⟩ (.exit 0) (reS e false (e.spans.length)), .tab [(25, FCount)]] [] [
      Contract Try.prog (25 : Nat) [I (Ep.first e)] [] (Bo (countB (Ep.first e))) [],
      (!countB (Ep.first e)) = false,
      Contract Try.prog (25 : Nat) [I (Ep.last e)] [] (Bo (countB (Ep.last e))) [],
      (!countB (Ep.last e)) = false,
      (Int.ofNat (List.length (List.map Sp.row (Ep.spans e))) == (0 : Int)) = false,
      LoopC Try.prog (0 : Nat) (64 : Nat) reB { env := [((1 : Nat), V.ptr (1000 : Nat) (0 : Nat) (0 : Nat) (0 : Nat)), ((2 : Nat), Bo false), ((3 : Nat), I (0 : Int))], st := [((1000 : Nat), Obj.box [V.val (Value.int IntKind.u64 (Ep.hi e)), V.val (Value.int IntKind.u64 (Ep.lo e)), I (Ep.first e), I (Ep.last e), Bo (Ep.sure e), V.sl (10 : Nat) (List.map Sp.row (Ep.spans e))])], ids := [(1000 : Nat)] } (Ex.exit (0 : Nat)) { env := [((1 : Nat), V.ptr (1000 : Nat) (0 : Nat) (0 : Nat) (0 : Nat)), ((2 : Nat), Bo false), ((3 : Nat), I (Int.ofNat (List.length (Ep.spans e))))], st := [((1000 : Nat), Obj.box (Ep.row e))], ids := [(1000 : Nat)] }] (by kernel_rfl)
    (by
      have d0 := tq0
      have d1 := tq1
      have d2 := tq2
      try simp only [Int.ofNat_eq_natCast, List.length_map, Bool.not_eq_true', Bool.not_eq_false', decide_eq_true_eq, decide_eq_false_iff_not] at d0 d1 d2
      simp only [allP]
      and_intros <;> first
        | omega
        | exact hl
        | exact cCount _)

theorem cRightE_g (e : Ep) (hs : e.spans.length ≤ 1048576) (hl : LoopC Try.prog 0 64 reB (reS e false (0)) (.exit 0) (reS e false (e.spans.length))) : Contract Try.prog 23 [e.v] [] (Bo (countB e.first && countB e.last && !((e.spans.length : Int) == 0))) [] := by
  rcases tf (!countB (Ep.first e)) with tq0 | tq0
  · exact Contract.cast (by
      first
        | ((try simp only [Int.ofNat_eq_natCast, List.length_map, Bool.not_eq_true', Bool.not_eq_false', decide_eq_true_eq, decide_eq_false_iff_not] at tq0); simp [tq0]; done)) (by
      first
        | rfl) (cRightE_g_0 e hs hl tq0)
  · rcases tf (!countB (Ep.last e)) with tq1 | tq1
    · exact Contract.cast (by
        first
          | ((try simp only [Int.ofNat_eq_natCast, List.length_map, Bool.not_eq_true', Bool.not_eq_false', decide_eq_true_eq, decide_eq_false_iff_not] at tq0 tq1); simp [tq0, tq1]; done)) (by
        first
          | rfl) (cRightE_g_1 e hs hl tq0 tq1)
    · rcases tf (Int.ofNat (List.length (List.map Sp.row (Ep.spans e))) == (0 : Int)) with tq2 | tq2
      · exact Contract.cast (by
          first
            | ((try simp only [Int.ofNat_eq_natCast, List.length_map, Bool.not_eq_true', Bool.not_eq_false', decide_eq_true_eq, decide_eq_false_iff_not] at tq0 tq1 tq2); simp [tq0, tq1, tq2]; done)) (by
          first
            | rfl) (cRightE_g_2 e hs hl tq0 tq1 tq2)
      · exact Contract.cast (by
          first
            | ((try simp only [Int.ofNat_eq_natCast, List.length_map, Bool.not_eq_true', Bool.not_eq_false', decide_eq_true_eq, decide_eq_false_iff_not] at tq0 tq1 tq2); simp [tq0, tq1, tq2]; done)) (by
          first
            | rfl) (cRightE_g_3 e hs hl tq0 tq1 tq2)

theorem cRightE (e : Ep) (hs : e.spans.length ≤ 1048576) : Contract Try.prog 23 [e.v] [] (Bo (rightE e)) [] := by
  rcases reL e hs with ⟨i, x, k1, k2, k4⟩ | ⟨k1, k2⟩
  · have q : allI (fun i (x : Sp) => badE e i x) e.spans = false := allI_bad k1 k2
    have := cRightE_b e i hs k4
    unfold rightE; rw [q]; simpa using this
  · have q : allI (fun i (x : Sp) => badE e i x) e.spans = true := allI_good k1
    have := cRightE_g e hs k2
    unfold rightE; rw [q]; simpa using this

theorem rb0_0 (b : Bk) (x : Ep) (hx : b.eps[0]? = some x) (hi : 0 < b.eps.length) (hs : b.eps.length ≤ 1048576) (hm : ∀ e ∈ b.eps, e.spans.length ≤ 1048576) (tq0 : (!rightE x) = true) : CodeC Try.prog 0 51 rbB (rbS b false 0) (Ex.ret) ({ env := [((1 : Nat), V.ptr (1000 : Nat) (0 : Nat) (0 : Nat) (0 : Nat)), ((2 : Nat), Bo false), ((3 : Nat), I (0 : Int))], st := [((1000 : Nat), Obj.box [I (Bk.num b), I (Bk.born b), I (Bk.tier b), V.sl (6 : Nat) (List.map Ep.row (Bk.eps b))])], ids := [(1000 : Nat)] }) :=
  runP hmix [.reg 2 [(4, [], some true)], .reg 4 [(4, [.row (Ep.row x)], none), (5, [.call [] [] (Bo (rightE x)) []], none), (7, [], some true)]] ⟨[1, 2, 3], [(1000, 1000)], []⟩ [
      decide ((0 : Int) < Int.ofNat (List.length (List.map Ep.row (Bk.eps b)))) = true,
      (0 : Int) ≤ (0 : Int),
      (0 : Int) < Int.ofNat (List.length (List.map Ep.row (Bk.eps b))),
      (List.map Ep.row (Bk.eps b))[(0 : Nat)]? = some (Ep.row x),
      Contract Try.prog (23 : Nat) [V.agg [V.val (Value.int IntKind.u64 (Ep.hi x)), V.val (Value.int IntKind.u64 (Ep.lo x)), I (Ep.first x), I (Ep.last x), Bo (Ep.sure x), V.sl (10 : Nat) (List.map Sp.row (Ep.spans x))]] [] (Bo (rightE x)) [],
      (!rightE x) = true] (by kernel_rfl)
    (by
      have d0 := tq0
      try simp only [Int.ofNat_eq_natCast, List.length_map, Bool.not_eq_true', Bool.not_eq_false', decide_eq_true_eq, decide_eq_false_iff_not] at d0
      simp only [allP]
      and_intros <;> first
        | omega
        | exact cRightE x (hm x (List.mem_of_getElem? hx))
        | (simp; omega)
        | (simp [hx]; done))

theorem rb0_1 (b : Bk) (x : Ep) (hx : b.eps[0]? = some x) (hi : 0 < b.eps.length) (hs : b.eps.length ≤ 1048576) (hm : ∀ e ∈ b.eps, e.spans.length ≤ 1048576) (tq0 : (!rightE x) = false) : CodeC Try.prog 0 51 rbB (rbS b false 0) (Ex.normal) ({ env := [((1 : Nat), V.ptr (1000 : Nat) (0 : Nat) (0 : Nat) (0 : Nat)), ((2 : Nat), Bo false), ((3 : Nat), I (1 : Int))], st := [((1000 : Nat), Obj.box [I (Bk.num b), I (Bk.born b), I (Bk.tier b), V.sl (6 : Nat) (List.map Ep.row (Bk.eps b))])], ids := [(1000 : Nat)] }) :=
  runP hmix [.reg 2 [(4, [], some true)], .reg 4 [(4, [.row (Ep.row x)], none), (5, [.call [] [] (Bo (rightE x)) []], none), (7, [], some false)]] ⟨[1, 2, 3], [(1000, 1000)], []⟩ [
      decide ((0 : Int) < Int.ofNat (List.length (List.map Ep.row (Bk.eps b)))) = true,
      (0 : Int) ≤ (0 : Int),
      (0 : Int) < Int.ofNat (List.length (List.map Ep.row (Bk.eps b))),
      (List.map Ep.row (Bk.eps b))[(0 : Nat)]? = some (Ep.row x),
      Contract Try.prog (23 : Nat) [V.agg [V.val (Value.int IntKind.u64 (Ep.hi x)), V.val (Value.int IntKind.u64 (Ep.lo x)), I (Ep.first x), I (Ep.last x), Bo (Ep.sure x), V.sl (10 : Nat) (List.map Sp.row (Ep.spans x))]] [] (Bo (rightE x)) [],
      (!rightE x) = false] (by kernel_rfl)
    (by
      have d0 := tq0
      try simp only [Int.ofNat_eq_natCast, List.length_map, Bool.not_eq_true', Bool.not_eq_false', decide_eq_true_eq, decide_eq_false_iff_not] at d0
      simp only [allP]
      and_intros <;> first
        | omega
        | exact cRightE x (hm x (List.mem_of_getElem? hx))
        | (simp; omega)
        | (simp [hx]; done))

theorem rb0Go (b : Bk) (x : Ep) (hx : b.eps[0]? = some x) (hi : 0 < b.eps.length) (hs : b.eps.length ≤ 1048576) (hm : ∀ e ∈ b.eps, e.spans.length ≤ 1048576) (hb : rightE x = true) : CodeC Try.prog 0 51 rbB (rbS b false 0) .normal (rbS b false 1) := by
  rcases tf (!rightE x) with tq0 | tq0
  · exact absurd hb (by
      first
        | ((try simp only [Int.ofNat_eq_natCast, List.length_map, Bool.not_eq_true', Bool.not_eq_false', decide_eq_true_eq, decide_eq_false_iff_not] at tq0); simp [tq0]; done))
  · exact CodeC.cast (by
      first
        | rfl) (rb0_1 b x hx hi hs hm tq0)

theorem rb0Stop (b : Bk) (x : Ep) (hx : b.eps[0]? = some x) (hi : 0 < b.eps.length) (hs : b.eps.length ≤ 1048576) (hm : ∀ e ∈ b.eps, e.spans.length ≤ 1048576) (hb : rightE x = false) : CodeC Try.prog 0 51 rbB (rbS b false 0) .ret (rbS b false 0) := by
  rcases tf (!rightE x) with tq0 | tq0
  · exact CodeC.cast (by
      first
        | rfl) (rb0_0 b x hx hi hs hm tq0)
  · exact absurd hb (by
      first
        | ((try simp only [Int.ofNat_eq_natCast, List.length_map, Bool.not_eq_true', Bool.not_eq_false', decide_eq_true_eq, decide_eq_false_iff_not] at tq0); simp [tq0]; done))

theorem rb1_0 (b : Bk) (x y : Ep) (i : Nat) (hx : b.eps[i]? = some x) (hi : i < b.eps.length) (h0 : 0 < i) (hy : b.eps[i - 1]? = some y) (hs : b.eps.length ≤ 1048576) (hm : ∀ e ∈ b.eps, e.spans.length ≤ 1048576) (tq0 : (!rightE x) = true) : CodeC Try.prog 0 51 rbB (rbS b false i) (Ex.ret) ({ env := [((1 : Nat), V.ptr (1000 : Nat) (0 : Nat) (0 : Nat) (0 : Nat)), ((2 : Nat), Bo false), ((3 : Nat), I (Int.ofNat i))], st := [((1000 : Nat), Obj.box [I (Bk.num b), I (Bk.born b), I (Bk.tier b), V.sl (6 : Nat) (List.map Ep.row (Bk.eps b))])], ids := [(1000 : Nat)] }) :=
  runP hmix [.reg 2 [(4, [], some true)], .reg 4 [(4, [.row (Ep.row x)], none), (5, [.call [] [] (Bo (rightE x)) []], none), (7, [], some true), (9, [], some true), (16, [.row (Ep.row x)], none), (20, [.be (I ((i - 1 : Nat) : Int))], none), (23, [.row (Ep.row y)], none), (24, [.app FLess], none)]] ⟨[1, 2, 3], [(1000, 1000)], []⟩ [
      decide (Int.ofNat i < Int.ofNat (List.length (List.map Ep.row (Bk.eps b)))) = true,
      (0 : Int) ≤ Int.ofNat i,
      Int.ofNat i < Int.ofNat (List.length (List.map Ep.row (Bk.eps b))),
      (List.map Ep.row (Bk.eps b))[i]? = some (Ep.row x),
      Contract Try.prog (23 : Nat) [V.agg [V.val (Value.int IntKind.u64 (Ep.hi x)), V.val (Value.int IntKind.u64 (Ep.lo x)), I (Ep.first x), I (Ep.last x), Bo (Ep.sure x), V.sl (10 : Nat) (List.map Sp.row (Ep.spans x))]] [] (Bo (rightE x)) [],
      (!rightE x) = true] (by kernel_rfl)
    (by
      have d0 := tq0
      try simp only [Int.ofNat_eq_natCast, List.length_map, Bool.not_eq_true', Bool.not_eq_false', decide_eq_true_eq, decide_eq_false_iff_not] at d0
      simp only [allP]
      and_intros <;> first
        | omega
        | exact cRightE x (hm x (List.mem_of_getElem? hx))
        | (simp; omega)
        | (simp [hx]; done))

theorem rb1_1 (b : Bk) (x y : Ep) (i : Nat) (hx : b.eps[i]? = some x) (hi : i < b.eps.length) (h0 : 0 < i) (hy : b.eps[i - 1]? = some y) (hs : b.eps.length ≤ 1048576) (hm : ∀ e ∈ b.eps, e.spans.length ≤ 1048576) (tq0 : (!rightE x) = false) (tq1 : (ltT (Ep.hi x) (Ep.lo x) (Ep.hi y) (Ep.lo y)) = true) : CodeC Try.prog 0 51 rbB (rbS b false i) (Ex.ret) ({ env := [((1 : Nat), V.ptr (1000 : Nat) (0 : Nat) (0 : Nat) (0 : Nat)), ((2 : Nat), Bo false), ((3 : Nat), I (Int.ofNat i))], st := [((1000 : Nat), Obj.box [I (Bk.num b), I (Bk.born b), I (Bk.tier b), V.sl (6 : Nat) (List.map Ep.row (Bk.eps b))])], ids := [(1000 : Nat)] }) :=
  runP hmix [.reg 2 [(4, [], some true)], .reg 4 [(4, [.row (Ep.row x)], none), (5, [.call [] [] (Bo (rightE x)) []], none), (7, [], some false), (9, [], some true), (16, [.row (Ep.row x)], none), (20, [.be (I ((i - 1 : Nat) : Int))], none), (23, [.row (Ep.row y)], none), (24, [.app FLess], none), (26, [], some true)]] ⟨[1, 2, 3], [(1000, 1000)], []⟩ [
      decide (Int.ofNat i < Int.ofNat (List.length (List.map Ep.row (Bk.eps b)))) = true,
      (0 : Int) ≤ Int.ofNat i,
      Int.ofNat i < Int.ofNat (List.length (List.map Ep.row (Bk.eps b))),
      (List.map Ep.row (Bk.eps b))[i]? = some (Ep.row x),
      Contract Try.prog (23 : Nat) [V.agg [V.val (Value.int IntKind.u64 (Ep.hi x)), V.val (Value.int IntKind.u64 (Ep.lo x)), I (Ep.first x), I (Ep.last x), Bo (Ep.sure x), V.sl (10 : Nat) (List.map Sp.row (Ep.spans x))]] [] (Bo (rightE x)) [],
      (!rightE x) = false,
      decide (Int.ofNat i > (0 : Int)) = true,
      (0 : Int) ≤ Int.ofNat i,
      Int.ofNat i < Int.ofNat (List.length (List.map Ep.row (Bk.eps b))),
      (List.map Ep.row (Bk.eps b))[i]? = some (Ep.row x),
      IntKind.wrap IntKind.i64 (Int.ofNat i + (-1 : Int)) = Int.ofNat (i - (1 : Nat)),
      (0 : Int) ≤ Int.ofNat (i - (1 : Nat)),
      Int.ofNat (i - (1 : Nat)) < Int.ofNat (List.length (List.map Ep.row (Bk.eps b))),
      (List.map Ep.row (Bk.eps b))[i - (1 : Nat)]? = some (Ep.row y),
      Contract Try.prog (24 : Nat) [V.agg [V.val (Value.int IntKind.u64 (Ep.hi x)), V.val (Value.int IntKind.u64 (Ep.lo x))], V.agg [V.val (Value.int IntKind.u64 (Ep.hi y)), V.val (Value.int IntKind.u64 (Ep.lo y))]] [] (Bo (ltT (Ep.hi x) (Ep.lo x) (Ep.hi y) (Ep.lo y))) [],
      ltT (Ep.hi x) (Ep.lo x) (Ep.hi y) (Ep.lo y) = true] (by kernel_rfl)
    (by
      have d0 := tq0
      have d1 := tq1
      try simp only [Int.ofNat_eq_natCast, List.length_map, Bool.not_eq_true', Bool.not_eq_false', decide_eq_true_eq, decide_eq_false_iff_not] at d0 d1
      simp only [allP]
      and_intros <;> first
        | omega
        | exact cRightE x (hm x (List.mem_of_getElem? hx))
        | exact cLess _ _ _ _
        | (simp; omega)
        | (simp [hx]; done)
        | (simp [hy]; done)
        | (rw [i64_small (by simp; omega)]; simp; omega))

theorem rb1_2 (b : Bk) (x y : Ep) (i : Nat) (hx : b.eps[i]? = some x) (hi : i < b.eps.length) (h0 : 0 < i) (hy : b.eps[i - 1]? = some y) (hs : b.eps.length ≤ 1048576) (hm : ∀ e ∈ b.eps, e.spans.length ≤ 1048576) (tq0 : (!rightE x) = false) (tq1 : (ltT (Ep.hi x) (Ep.lo x) (Ep.hi y) (Ep.lo y)) = false) : CodeC Try.prog 0 51 rbB (rbS b false i) (Ex.normal) ({ env := [((1 : Nat), V.ptr (1000 : Nat) (0 : Nat) (0 : Nat) (0 : Nat)), ((2 : Nat), Bo false), ((3 : Nat), I (Int.ofNat (i + (1 : Nat))))], st := [((1000 : Nat), Obj.box [I (Bk.num b), I (Bk.born b), I (Bk.tier b), V.sl (6 : Nat) (List.map Ep.row (Bk.eps b))])], ids := [(1000 : Nat)] }) :=
  runP hmix [.reg 2 [(4, [], some true)], .reg 4 [(4, [.row (Ep.row x)], none), (5, [.call [] [] (Bo (rightE x)) []], none), (7, [], some false), (9, [], some true), (16, [.row (Ep.row x)], none), (20, [.be (I ((i - 1 : Nat) : Int))], none), (23, [.row (Ep.row y)], none), (24, [.app FLess], none), (26, [], some false)], .reg 3 [(1, [.be (I ((i + 1 : Nat) : Int))], none)]] ⟨[1, 2, 3], [(1000, 1000)], []⟩ [
      decide (Int.ofNat i < Int.ofNat (List.length (List.map Ep.row (Bk.eps b)))) = true,
      (0 : Int) ≤ Int.ofNat i,
      Int.ofNat i < Int.ofNat (List.length (List.map Ep.row (Bk.eps b))),
      (List.map Ep.row (Bk.eps b))[i]? = some (Ep.row x),
      Contract Try.prog (23 : Nat) [V.agg [V.val (Value.int IntKind.u64 (Ep.hi x)), V.val (Value.int IntKind.u64 (Ep.lo x)), I (Ep.first x), I (Ep.last x), Bo (Ep.sure x), V.sl (10 : Nat) (List.map Sp.row (Ep.spans x))]] [] (Bo (rightE x)) [],
      (!rightE x) = false,
      decide (Int.ofNat i > (0 : Int)) = true,
      (0 : Int) ≤ Int.ofNat i,
      Int.ofNat i < Int.ofNat (List.length (List.map Ep.row (Bk.eps b))),
      (List.map Ep.row (Bk.eps b))[i]? = some (Ep.row x),
      IntKind.wrap IntKind.i64 (Int.ofNat i + (-1 : Int)) = Int.ofNat (i - (1 : Nat)),
      (0 : Int) ≤ Int.ofNat (i - (1 : Nat)),
      Int.ofNat (i - (1 : Nat)) < Int.ofNat (List.length (List.map Ep.row (Bk.eps b))),
      (List.map Ep.row (Bk.eps b))[i - (1 : Nat)]? = some (Ep.row y),
      Contract Try.prog (24 : Nat) [V.agg [V.val (Value.int IntKind.u64 (Ep.hi x)), V.val (Value.int IntKind.u64 (Ep.lo x))], V.agg [V.val (Value.int IntKind.u64 (Ep.hi y)), V.val (Value.int IntKind.u64 (Ep.lo y))]] [] (Bo (ltT (Ep.hi x) (Ep.lo x) (Ep.hi y) (Ep.lo y))) [],
      ltT (Ep.hi x) (Ep.lo x) (Ep.hi y) (Ep.lo y) = false,
      IntKind.wrap IntKind.i64 (Int.ofNat (i + (1 : Nat))) = Int.ofNat (i + (1 : Nat))] (by kernel_rfl)
    (by
      have d0 := tq0
      have d1 := tq1
      try simp only [Int.ofNat_eq_natCast, List.length_map, Bool.not_eq_true', Bool.not_eq_false', decide_eq_true_eq, decide_eq_false_iff_not] at d0 d1
      simp only [allP]
      and_intros <;> first
        | omega
        | exact cRightE x (hm x (List.mem_of_getElem? hx))
        | exact cLess _ _ _ _
        | (simp; omega)
        | (simp [hx]; done)
        | (simp [hy]; done)
        | (rw [i64_small (by simp; omega)]; simp; omega)
        | exact i64_small (by simp; omega))

theorem rb1Go (b : Bk) (x y : Ep) (i : Nat) (hx : b.eps[i]? = some x) (hi : i < b.eps.length) (h0 : 0 < i) (hy : b.eps[i - 1]? = some y) (hs : b.eps.length ≤ 1048576) (hm : ∀ e ∈ b.eps, e.spans.length ≤ 1048576) (hb : (!rightE x || ltT x.hi x.lo y.hi y.lo) = false) : CodeC Try.prog 0 51 rbB (rbS b false i) .normal (rbS b false (i + 1)) := by
  rcases tf (!rightE x) with tq0 | tq0
  · exact absurd hb (by
      first
        | (simp [tq0]; done))
  · rcases tf (ltT (Ep.hi x) (Ep.lo x) (Ep.hi y) (Ep.lo y)) with tq1 | tq1
    · exact absurd hb (by
        first
          | (simp [tq0, tq1]; done))
    · exact CodeC.cast (by
        first
          | rfl) (rb1_2 b x y i hx hi h0 hy hs hm tq0 tq1)

theorem rb1Stop (b : Bk) (x y : Ep) (i : Nat) (hx : b.eps[i]? = some x) (hi : i < b.eps.length) (h0 : 0 < i) (hy : b.eps[i - 1]? = some y) (hs : b.eps.length ≤ 1048576) (hm : ∀ e ∈ b.eps, e.spans.length ≤ 1048576) (hb : (!rightE x || ltT x.hi x.lo y.hi y.lo) = true) : CodeC Try.prog 0 51 rbB (rbS b false i) .ret (rbS b false i) := by
  rcases tf (!rightE x) with tq0 | tq0
  · exact CodeC.cast (by
      first
        | rfl) (rb1_0 b x y i hx hi h0 hy hs hm tq0)
  · rcases tf (ltT (Ep.hi x) (Ep.lo x) (Ep.hi y) (Ep.lo y)) with tq1 | tq1
    · exact CodeC.cast (by
        first
          | rfl) (rb1_1 b x y i hx hi h0 hy hs hm tq0 tq1)
    · exact absurd hb (by
        first
          | (simp [tq0, tq1]; done))

theorem rbE_0 (b : Bk) (i : Nat) (hs : b.eps.length ≤ 1048576) (hm : ∀ e ∈ b.eps, e.spans.length ≤ 1048576) (h : b.eps.length ≤ i) : CodeC Try.prog 0 51 rbB (rbS b false i) (Ex.exit (0 : Nat)) ({ env := [((1 : Nat), V.ptr (1000 : Nat) (0 : Nat) (0 : Nat) (0 : Nat)), ((2 : Nat), Bo false), ((3 : Nat), I (Int.ofNat i))], st := [((1000 : Nat), Obj.box [I (Bk.num b), I (Bk.born b), I (Bk.tier b), V.sl (6 : Nat) (List.map Ep.row (Bk.eps b))])], ids := [(1000 : Nat)] }) :=
  runP hmix [.reg 2 [(4, [], some false)]] ⟨[1, 2, 3], [(1000, 1000)], []⟩ [
      decide (Int.ofNat i < Int.ofNat (List.length (List.map Ep.row (Bk.eps b)))) = false] (by kernel_rfl)
    (by
      simp only [allP]
      and_intros <;> first
        | (simp; omega))

theorem rbE (b : Bk) (i : Nat) (hs : b.eps.length ≤ 1048576) (hm : ∀ e ∈ b.eps, e.spans.length ≤ 1048576) (h : b.eps.length ≤ i)  : CodeC Try.prog 0 51 rbB (rbS b false i) (.exit 0) (rbS b false i) := by
  exact CodeC.cast (by
    first
      | rfl) (rbE_0 b i hs hm h )

theorem rbGo (b : Bk) (x : Ep) (i : Nat) (hx : b.eps[i]? = some x) (hi : i < b.eps.length) (hs : b.eps.length ≤ 1048576) (hm : ∀ e ∈ b.eps, e.spans.length ≤ 1048576) (hb : badB b i x = false) : CodeC Try.prog 0 51 rbB (rbS b false i) .normal (rbS b false (i + 1)) := by
  unfold badB at hb
  cases i with
  | zero => exact rb0Go b x hx hi hs hm (by simpa using hb)
  | succ i =>
    have hy : b.eps[i + 1 - 1]? = some b.eps[i] := List.getElem?_eq_getElem (by omega)
    rw [hy] at hb
    exact rb1Go b x b.eps[i] (i + 1) hx hi (by omega) hy hs hm (by rw [ltT_eq]; simpa using hb)
theorem rbStop (b : Bk) (x : Ep) (i : Nat) (hx : b.eps[i]? = some x) (hi : i < b.eps.length) (hs : b.eps.length ≤ 1048576) (hm : ∀ e ∈ b.eps, e.spans.length ≤ 1048576) (hb : badB b i x = true) : CodeC Try.prog 0 51 rbB (rbS b false i) .ret (rbS b false i) := by
  unfold badB at hb
  cases i with
  | zero => exact rb0Stop b x hx hi hs hm (by simpa using hb)
  | succ i =>
    have hy : b.eps[i + 1 - 1]? = some b.eps[i] := List.getElem?_eq_getElem (by omega)
    rw [hy] at hb
    exact rb1Stop b x b.eps[i] (i + 1) hx hi (by omega) hy hs hm (by rw [ltT_eq]; simpa using hb)
theorem rbL (b : Bk) (hs : b.eps.length ≤ 1048576) (hm : ∀ e ∈ b.eps, e.spans.length ≤ 1048576) : (∃ i x, b.eps[i]? = some x ∧ (badB b i x) = true ∧ LoopC Try.prog 0 51 rbB (rbS b false (0)) .ret (rbS b false (i))) ∨ ((∀ (i : Nat) (x : Ep), b.eps[i]? = some x → (badB b i x) = false) ∧ LoopC Try.prog 0 51 rbB (rbS b false (0)) (.exit 0) (rbS b false (b.eps.length))) := by
  rcases LoopC.search (P := Try.prog) (k := 0) (n := 51) (c := rbB) b.eps (fun i (x : Ep) => badB b i x) (fun i => rbS b false (i)) (fun i => rbS b false (i)) (e1 := .ret) (e2 := (.exit 0)) (by simp) (by simp)
    (fun i x hx hi hb => rbGo b x i hx hi hs hm hb) (fun i x hx hi hb => rbStop b x i hx hi hs hm hb) (rbE b _ hs hm (Nat.le_refl _)) with ⟨i, x, k1, k2, _, k4⟩ | ⟨k1, k2⟩
  · exact .inl ⟨i, x, k1, k2, k4⟩
  · exact .inr ⟨k1, k2⟩

theorem cRightB_b_0 (b : Bk) (i : Nat) (hs : b.eps.length ≤ 1048576) (hm : ∀ e ∈ b.eps, e.spans.length ≤ 1048576) (hl : LoopC Try.prog 0 51 rbB (rbS b false (0)) .ret (rbS b false (i))) : Contract Try.prog 14 [b.v] [] (Bo false) ([]) :=
  vcP hmix [.cut ⟨[1, 2, 3], [(1000, 1000)], []⟩ .ret (rbS b false (i)), .tab [(25, FCount)]] [] [
      LoopC Try.prog (0 : Nat) (51 : Nat) rbB { env := [((1 : Nat), V.ptr (1000 : Nat) (0 : Nat) (0 : Nat) (0 : Nat)), ((2 : Nat), Bo false), ((3 : Nat), I (0 : Int))], st := [((1000 : Nat), Obj.box [I (Bk.num b), I (Bk.born b), I (Bk.tier b), V.sl (6 : Nat) (List.map Ep.row (Bk.eps b))])], ids := [(1000 : Nat)] } Ex.ret { env := [((1 : Nat), V.ptr (1000 : Nat) (0 : Nat) (0 : Nat) (0 : Nat)), ((2 : Nat), Bo false), ((3 : Nat), I (Int.ofNat i))], st := [((1000 : Nat), Obj.box (Bk.row b))], ids := [(1000 : Nat)] }] (by kernel_rfl)
    (by
      simp only [allP]
      and_intros <;> first
        | exact hl)

theorem cRightB_b (b : Bk) (i : Nat) (hs : b.eps.length ≤ 1048576) (hm : ∀ e ∈ b.eps, e.spans.length ≤ 1048576) (hl : LoopC Try.prog 0 51 rbB (rbS b false (0)) .ret (rbS b false (i))) : Contract Try.prog 14 [b.v] [] (Bo false) [] := by
  exact Contract.cast (by
    first
      | rfl) (by
    first
      | rfl) (cRightB_b_0 b i hs hm hl )

theorem cRightB_g_0 (b : Bk) (hs : b.eps.length ≤ 1048576) (hm : ∀ e ∈ b.eps, e.spans.length ≤ 1048576) (hl : LoopC Try.prog 0 51 rbB (rbS b false (0)) (.exit 0) (rbS b false (b.eps.length))) (tq0 : (countB (Bk.num b)) = true) (tq1 : (countB (Bk.born b)) = true) : Contract Try.prog 14 [b.v] [] (Bo (countB (Bk.tier b))) ([]) :=
  vcP hmix [.cut ⟨[1, 2, 3], [(1000, 1000)], []⟩ (.exit 0) (rbS b false (b.eps.length)), .reg 6 [(3, [], some true), (8, [], some true)], .tab [(25, FCount)]] [] [
      LoopC Try.prog (0 : Nat) (51 : Nat) rbB { env := [((1 : Nat), V.ptr (1000 : Nat) (0 : Nat) (0 : Nat) (0 : Nat)), ((2 : Nat), Bo false), ((3 : Nat), I (0 : Int))], st := [((1000 : Nat), Obj.box [I (Bk.num b), I (Bk.born b), I (Bk.tier b), V.sl (6 : Nat) (List.map Ep.row (Bk.eps b))])], ids := [(1000 : Nat)] } (Ex.exit (0 : Nat)) { env := [((1 : Nat), V.ptr (1000 : Nat) (0 : Nat) (0 : Nat) (0 : Nat)), ((2 : Nat), Bo false), ((3 : Nat), I (Int.ofNat (List.length (Bk.eps b))))], st := [((1000 : Nat), Obj.box (Bk.row b))], ids := [(1000 : Nat)] },
      Contract Try.prog (25 : Nat) [I (Bk.num b)] [] (Bo (countB (Bk.num b))) [],
      countB (Bk.num b) = true,
      Contract Try.prog (25 : Nat) [I (Bk.born b)] [] (Bo (countB (Bk.born b))) [],
      countB (Bk.born b) = true,
      Contract Try.prog (25 : Nat) [I (Bk.tier b)] [] (Bo (countB (Bk.tier b))) []] (by kernel_rfl)
    (by
      have d0 := tq0
      have d1 := tq1
      try simp only [Int.ofNat_eq_natCast, List.length_map, Bool.not_eq_true', Bool.not_eq_false', decide_eq_true_eq, decide_eq_false_iff_not] at d0 d1
      simp only [allP]
      and_intros <;> first
        | omega
        | exact hl
        | exact cCount _)

theorem cRightB_g_1 (b : Bk) (hs : b.eps.length ≤ 1048576) (hm : ∀ e ∈ b.eps, e.spans.length ≤ 1048576) (hl : LoopC Try.prog 0 51 rbB (rbS b false (0)) (.exit 0) (rbS b false (b.eps.length))) (tq0 : (countB (Bk.num b)) = true) (tq1 : (countB (Bk.born b)) = false) : Contract Try.prog 14 [b.v] [] (Bo false) ([]) :=
  vcP hmix [.cut ⟨[1, 2, 3], [(1000, 1000)], []⟩ (.exit 0) (rbS b false (b.eps.length)), .reg 6 [(3, [], some true), (8, [], some false)], .tab [(25, FCount)]] [] [
      LoopC Try.prog (0 : Nat) (51 : Nat) rbB { env := [((1 : Nat), V.ptr (1000 : Nat) (0 : Nat) (0 : Nat) (0 : Nat)), ((2 : Nat), Bo false), ((3 : Nat), I (0 : Int))], st := [((1000 : Nat), Obj.box [I (Bk.num b), I (Bk.born b), I (Bk.tier b), V.sl (6 : Nat) (List.map Ep.row (Bk.eps b))])], ids := [(1000 : Nat)] } (Ex.exit (0 : Nat)) { env := [((1 : Nat), V.ptr (1000 : Nat) (0 : Nat) (0 : Nat) (0 : Nat)), ((2 : Nat), Bo false), ((3 : Nat), I (Int.ofNat (List.length (Bk.eps b))))], st := [((1000 : Nat), Obj.box (Bk.row b))], ids := [(1000 : Nat)] },
      Contract Try.prog (25 : Nat) [I (Bk.num b)] [] (Bo (countB (Bk.num b))) [],
      countB (Bk.num b) = true,
      Contract Try.prog (25 : Nat) [I (Bk.born b)] [] (Bo (countB (Bk.born b))) [],
      countB (Bk.born b) = false] (by kernel_rfl)
    (by
      have d0 := tq0
      have d1 := tq1
      try simp only [Int.ofNat_eq_natCast, List.length_map, Bool.not_eq_true', Bool.not_eq_false', decide_eq_true_eq, decide_eq_false_iff_not] at d0 d1
      simp only [allP]
      and_intros <;> first
        | omega
        | exact hl
        | exact cCount _)

theorem cRightB_g_2 (b : Bk) (hs : b.eps.length ≤ 1048576) (hm : ∀ e ∈ b.eps, e.spans.length ≤ 1048576) (hl : LoopC Try.prog 0 51 rbB (rbS b false (0)) (.exit 0) (rbS b false (b.eps.length))) (tq0 : (countB (Bk.num b)) = false) : Contract Try.prog 14 [b.v] [] (Bo false) ([]) :=
  vcP hmix [.cut ⟨[1, 2, 3], [(1000, 1000)], []⟩ (.exit 0) (rbS b false (b.eps.length)), .reg 6 [(3, [], some false)], .tab [(25, FCount)]] [] [
      LoopC Try.prog (0 : Nat) (51 : Nat) rbB { env := [((1 : Nat), V.ptr (1000 : Nat) (0 : Nat) (0 : Nat) (0 : Nat)), ((2 : Nat), Bo false), ((3 : Nat), I (0 : Int))], st := [((1000 : Nat), Obj.box [I (Bk.num b), I (Bk.born b), I (Bk.tier b), V.sl (6 : Nat) (List.map Ep.row (Bk.eps b))])], ids := [(1000 : Nat)] } (Ex.exit (0 : Nat)) { env := [((1 : Nat), V.ptr (1000 : Nat) (0 : Nat) (0 : Nat) (0 : Nat)), ((2 : Nat), Bo false), ((3 : Nat), I (Int.ofNat (List.length (Bk.eps b))))], st := [((1000 : Nat), Obj.box (Bk.row b))], ids := [(1000 : Nat)] },
      Contract Try.prog (25 : Nat) [I (Bk.num b)] [] (Bo (countB (Bk.num b))) [],
      countB (Bk.num b) = false] (by kernel_rfl)
    (by
      have d0 := tq0
      try simp only [Int.ofNat_eq_natCast, List.length_map, Bool.not_eq_true', Bool.not_eq_false', decide_eq_true_eq, decide_eq_false_iff_not] at d0
      simp only [allP]
      and_intros <;> first
        | omega
        | exact hl
        | exact cCount _)

theorem cRightB_g (b : Bk) (hs : b.eps.length ≤ 1048576) (hm : ∀ e ∈ b.eps, e.spans.length ≤ 1048576) (hl : LoopC Try.prog 0 51 rbB (rbS b false (0)) (.exit 0) (rbS b false (b.eps.length))) : Contract Try.prog 14 [b.v] [] (Bo (countB b.num && countB b.born && countB b.tier)) [] := by
  rcases tf (countB (Bk.num b)) with tq0 | tq0
  · rcases tf (countB (Bk.born b)) with tq1 | tq1
    · exact Contract.cast (by
        first
          | (simp only [tq0, tq1, cond_true, cond_false]; rfl)) (by
        first
          | rfl) (cRightB_g_0 b hs hm hl tq0 tq1)
    · exact Contract.cast (by
        first
          | (simp only [tq0, tq1, cond_true, cond_false]; rfl)) (by
        first
          | rfl) (cRightB_g_1 b hs hm hl tq0 tq1)
  · exact Contract.cast (by
      first
        | (simp only [tq0, cond_true, cond_false]; rfl)) (by
      first
        | rfl) (cRightB_g_2 b hs hm hl tq0)

theorem cRightB (b : Bk) (hs : b.eps.length ≤ 1048576) (hm : ∀ e ∈ b.eps, e.spans.length ≤ 1048576) : Contract Try.prog 14 [b.v] [] (Bo (rightB b)) [] := by
  rcases rbL b hs hm with ⟨i, x, k1, k2, k4⟩ | ⟨k1, k2⟩
  · have q : allI (fun i (x : Ep) => badB b i x) b.eps = false := allI_bad k1 k2
    have := cRightB_b b i hs hm k4
    unfold rightB; rw [q]; simpa using this
  · have q : allI (fun i (x : Ep) => badB b i x) b.eps = true := allI_good k1
    have := cRightB_g b hs hm k2
    unfold rightB; rw [q]; simpa using this

end Go.Proofs.Ytfpdlamjlbpmkaa

/- spans: few and short. -/
namespace Go.Proofs.Ytfpdlamjlbpmkaa
open E
set_option maxRecDepth 100000
set_option linter.unusedVariables false
set_option linter.unusedSimpArgs false

def longA (a : At) : Bool := decide ((a.key.size : Int) > 100) || decide ((a.val.size : Int) > 100)
def fewS (s : Sp) : Bool := !decide ((s.svc.size : Int) > 100) && !decide ((s.op.size : Int) > 100) && !decide ((s.attrs.length : Int) > 20) && s.attrs.all (fun a => !longA a)
def fewAll (l : List Sp) : Bool := !decide ((l.length : Int) > 60) && l.all fewS
def feS (s : Sp) (r : Bool) (i : Nat) : SL := ⟨[(1, .ptr 1000 0 0 0), (2, Bo r), (3, I (i : Int))], [(1000, .box s.row)], [1000]⟩
def faS (l : List Sp) (r : Bool) (i : Nat) : SL := ⟨[(0, .sl 10 (l.map Sp.row)), (2, Bo r), (3, I (i : Int))], [], []⟩
noncomputable def feB : Code := codeAt Try.prog 34 [true, true, false, true, false, false]

noncomputable def faB : Code := codeAt Try.prog 27 [true, true, false, true, false, false]

theorem fe_0 (s : Sp) (a : At) (i : Nat) (h : i < s.attrs.length) (hx : s.attrs[i]? = some a) (hs : s.attrs.length ≤ 20) (tq0 : (decide (Int.ofNat (ByteArray.size (At.key a)) > (100 : Int))) = true) : CodeC Try.prog 0 45 feB (feS s false i) (Ex.ret) ({ env := [((1 : Nat), V.ptr (1000 : Nat) (0 : Nat) (0 : Nat) (0 : Nat)), ((2 : Nat), Bo false), ((3 : Nat), I (Int.ofNat i))], st := [((1000 : Nat), Obj.box [V.val (Value.int IntKind.u64 (Sp.hi s)), V.val (Value.int IntKind.u64 (Sp.lo s)), V.val (Value.int IntKind.u64 (Sp.id s)), V.val (Value.int IntKind.u64 (Sp.par s)), Sg (Sp.svc s), Sg (Sp.op s), I (Sp.start s), I (Sp.dur s), Bo (Sp.err s), V.sl (2 : Nat) (List.map At.row (Sp.attrs s))])], ids := [(1000 : Nat)] }) :=
  runP hmix [.reg 4 [(4, [], some true)], .reg 6 [(5, [.row (At.row a)], none), (8, [], some true)]] ⟨[1, 2, 3], [(1000, 1000)], []⟩ [
      decide (Int.ofNat i < Int.ofNat (List.length (List.map At.row (Sp.attrs s)))) = true,
      (0 : Int) ≤ Int.ofNat i,
      Int.ofNat i < Int.ofNat (List.length (List.map At.row (Sp.attrs s))),
      (List.map At.row (Sp.attrs s))[i]? = some (At.row a),
      decide (Int.ofNat (ByteArray.size (At.key a)) > (100 : Int)) = true] (by kernel_rfl)
    (by
      have d0 := tq0
      try simp only [Int.ofNat_eq_natCast, List.length_map, Bool.not_eq_true', Bool.not_eq_false', decide_eq_true_eq, decide_eq_false_iff_not] at d0
      simp only [allP]
      and_intros <;> first
        | omega
        | (simp; omega)
        | (simp [hx]; done))

theorem fe_1 (s : Sp) (a : At) (i : Nat) (h : i < s.attrs.length) (hx : s.attrs[i]? = some a) (hs : s.attrs.length ≤ 20) (tq0 : (decide (Int.ofNat (ByteArray.size (At.key a)) > (100 : Int))) = false) (tq1 : (decide (Int.ofNat (ByteArray.size (At.val a)) > (100 : Int))) = true) : CodeC Try.prog 0 45 feB (feS s false i) (Ex.ret) ({ env := [((1 : Nat), V.ptr (1000 : Nat) (0 : Nat) (0 : Nat) (0 : Nat)), ((2 : Nat), Bo false), ((3 : Nat), I (Int.ofNat i))], st := [((1000 : Nat), Obj.box [V.val (Value.int IntKind.u64 (Sp.hi s)), V.val (Value.int IntKind.u64 (Sp.lo s)), V.val (Value.int IntKind.u64 (Sp.id s)), V.val (Value.int IntKind.u64 (Sp.par s)), Sg (Sp.svc s), Sg (Sp.op s), I (Sp.start s), I (Sp.dur s), Bo (Sp.err s), V.sl (2 : Nat) (List.map At.row (Sp.attrs s))])], ids := [(1000 : Nat)] }) :=
  runP hmix [.reg 4 [(4, [], some true)], .reg 6 [(5, [.row (At.row a)], none), (8, [], some false), (14, [.row (At.row a)], none), (17, [], some true)]] ⟨[1, 2, 3], [(1000, 1000)], []⟩ [
      decide (Int.ofNat i < Int.ofNat (List.length (List.map At.row (Sp.attrs s)))) = true,
      (0 : Int) ≤ Int.ofNat i,
      Int.ofNat i < Int.ofNat (List.length (List.map At.row (Sp.attrs s))),
      (List.map At.row (Sp.attrs s))[i]? = some (At.row a),
      decide (Int.ofNat (ByteArray.size (At.key a)) > (100 : Int)) = false,
      (0 : Int) ≤ Int.ofNat i,
      Int.ofNat i < Int.ofNat (List.length (List.map At.row (Sp.attrs s))),
      (List.map At.row (Sp.attrs s))[i]? = some (At.row a),
      decide (Int.ofNat (ByteArray.size (At.val a)) > (100 : Int)) = true] (by kernel_rfl)
    (by
      have d0 := tq0
      have d1 := tq1
      try simp only [Int.ofNat_eq_natCast, List.length_map, Bool.not_eq_true', Bool.not_eq_false', decide_eq_true_eq, decide_eq_false_iff_not] at d0 d1
      simp only [allP]
      and_intros <;> first
        | omega
        | (simp; omega)
        | (simp [hx]; done))

theorem fe_2 (s : Sp) (a : At) (i : Nat) (h : i < s.attrs.length) (hx : s.attrs[i]? = some a) (hs : s.attrs.length ≤ 20) (tq0 : (decide (Int.ofNat (ByteArray.size (At.key a)) > (100 : Int))) = false) (tq1 : (decide (Int.ofNat (ByteArray.size (At.val a)) > (100 : Int))) = false) : CodeC Try.prog 0 45 feB (feS s false i) (Ex.normal) ({ env := [((1 : Nat), V.ptr (1000 : Nat) (0 : Nat) (0 : Nat) (0 : Nat)), ((2 : Nat), Bo false), ((3 : Nat), I (Int.ofNat (i + (1 : Nat))))], st := [((1000 : Nat), Obj.box [V.val (Value.int IntKind.u64 (Sp.hi s)), V.val (Value.int IntKind.u64 (Sp.lo s)), V.val (Value.int IntKind.u64 (Sp.id s)), V.val (Value.int IntKind.u64 (Sp.par s)), Sg (Sp.svc s), Sg (Sp.op s), I (Sp.start s), I (Sp.dur s), Bo (Sp.err s), V.sl (2 : Nat) (List.map At.row (Sp.attrs s))])], ids := [(1000 : Nat)] }) :=
  runP hmix [.reg 4 [(4, [], some true)], .reg 6 [(5, [.row (At.row a)], none), (8, [], some false), (14, [.row (At.row a)], none), (17, [], some false)], .reg 5 [(1, [.be (I ((i + 1 : Nat) : Int))], none)]] ⟨[1, 2, 3], [(1000, 1000)], []⟩ [
      decide (Int.ofNat i < Int.ofNat (List.length (List.map At.row (Sp.attrs s)))) = true,
      (0 : Int) ≤ Int.ofNat i,
      Int.ofNat i < Int.ofNat (List.length (List.map At.row (Sp.attrs s))),
      (List.map At.row (Sp.attrs s))[i]? = some (At.row a),
      decide (Int.ofNat (ByteArray.size (At.key a)) > (100 : Int)) = false,
      (0 : Int) ≤ Int.ofNat i,
      Int.ofNat i < Int.ofNat (List.length (List.map At.row (Sp.attrs s))),
      (List.map At.row (Sp.attrs s))[i]? = some (At.row a),
      decide (Int.ofNat (ByteArray.size (At.val a)) > (100 : Int)) = false,
      IntKind.wrap IntKind.i64 (Int.ofNat (i + (1 : Nat))) = Int.ofNat (i + (1 : Nat))] (by kernel_rfl)
    (by
      have d0 := tq0
      have d1 := tq1
      try simp only [Int.ofNat_eq_natCast, List.length_map, Bool.not_eq_true', Bool.not_eq_false', decide_eq_true_eq, decide_eq_false_iff_not] at d0 d1
      simp only [allP]
      and_intros <;> first
        | omega
        | (simp; omega)
        | (simp [hx]; done)
        | exact i64_small (by simp; omega))

theorem feGo (s : Sp) (a : At) (i : Nat) (h : i < s.attrs.length) (hx : s.attrs[i]? = some a) (hs : s.attrs.length ≤ 20) (hb : longA a = false) : CodeC Try.prog 0 45 feB (feS s false i) .normal (feS s false (i + 1)) := by
  rcases tf (decide (Int.ofNat (ByteArray.size (At.key a)) > (100 : Int))) with tq0 | tq0
  · exact absurd hb (by
      first
        | ((try simp only [Int.ofNat_eq_natCast, List.length_map, Bool.not_eq_true', Bool.not_eq_false', decide_eq_true_eq, decide_eq_false_iff_not] at tq0); simp [longA, tq0]; done))
  · rcases tf (decide (Int.ofNat (ByteArray.size (At.val a)) > (100 : Int))) with tq1 | tq1
    · exact absurd hb (by
        first
          | ((try simp only [Int.ofNat_eq_natCast, List.length_map, Bool.not_eq_true', Bool.not_eq_false', decide_eq_true_eq, decide_eq_false_iff_not] at tq0 tq1); simp [longA, tq0, tq1]; done))
    · exact CodeC.cast (by
        first
          | rfl) (fe_2 s a i h hx hs tq0 tq1)

theorem feStop (s : Sp) (a : At) (i : Nat) (h : i < s.attrs.length) (hx : s.attrs[i]? = some a) (hs : s.attrs.length ≤ 20) (hb : longA a = true) : CodeC Try.prog 0 45 feB (feS s false i) .ret (feS s false i) := by
  rcases tf (decide (Int.ofNat (ByteArray.size (At.key a)) > (100 : Int))) with tq0 | tq0
  · exact CodeC.cast (by
      first
        | rfl) (fe_0 s a i h hx hs tq0)
  · rcases tf (decide (Int.ofNat (ByteArray.size (At.val a)) > (100 : Int))) with tq1 | tq1
    · exact CodeC.cast (by
        first
          | rfl) (fe_1 s a i h hx hs tq0 tq1)
    · exact absurd hb (by
        first
          | ((try simp only [Int.ofNat_eq_natCast, List.length_map, Bool.not_eq_true', Bool.not_eq_false', decide_eq_true_eq, decide_eq_false_iff_not] at tq0 tq1); simp [longA, tq0, tq1]; done))

theorem feE_0 (s : Sp) (i : Nat) (h : s.attrs.length ≤ i) : CodeC Try.prog 0 45 feB (feS s false i) (Ex.exit (0 : Nat)) ({ env := [((1 : Nat), V.ptr (1000 : Nat) (0 : Nat) (0 : Nat) (0 : Nat)), ((2 : Nat), Bo false), ((3 : Nat), I (Int.ofNat i))], st := [((1000 : Nat), Obj.box [V.val (Value.int IntKind.u64 (Sp.hi s)), V.val (Value.int IntKind.u64 (Sp.lo s)), V.val (Value.int IntKind.u64 (Sp.id s)), V.val (Value.int IntKind.u64 (Sp.par s)), Sg (Sp.svc s), Sg (Sp.op s), I (Sp.start s), I (Sp.dur s), Bo (Sp.err s), V.sl (2 : Nat) (List.map At.row (Sp.attrs s))])], ids := [(1000 : Nat)] }) :=
  runP hmix [.reg 4 [(4, [], some false)]] ⟨[1, 2, 3], [(1000, 1000)], []⟩ [
      decide (Int.ofNat i < Int.ofNat (List.length (List.map At.row (Sp.attrs s)))) = false] (by kernel_rfl)
    (by
      simp only [allP]
      and_intros <;> first
        | (simp; omega))

theorem feE (s : Sp) (i : Nat) (h : s.attrs.length ≤ i)  : CodeC Try.prog 0 45 feB (feS s false i) (.exit 0) (feS s false i) := by
  exact CodeC.cast (by
    first
      | rfl) (feE_0 s i h )

theorem few1_0 (s : Sp) (i : Nat) (hl : LoopC Try.prog 0 45 feB (feS s false 0) .ret (feS s false i)) (tq0 : (decide (Int.ofNat (ByteArray.size (Sp.svc s)) > (100 : Int))) = true) : Contract Try.prog 34 [s.v] [] (Bo false) ([]) :=
  vcP hmix [.reg 1 [(4, [], some true)]] [] [
      decide (Int.ofNat (ByteArray.size (Sp.svc s)) > (100 : Int)) = true] (by kernel_rfl)
    (by
      have d0 := tq0
      try simp only [Int.ofNat_eq_natCast, List.length_map, Bool.not_eq_true', Bool.not_eq_false', decide_eq_true_eq, decide_eq_false_iff_not] at d0
      simp only [allP]
      and_intros <;> first
        | omega)

theorem few1_1 (s : Sp) (i : Nat) (hl : LoopC Try.prog 0 45 feB (feS s false 0) .ret (feS s false i)) (tq0 : (decide (Int.ofNat (ByteArray.size (Sp.svc s)) > (100 : Int))) = false) (tq1 : (decide (Int.ofNat (ByteArray.size (Sp.op s)) > (100 : Int))) = true) : Contract Try.prog 34 [s.v] [] (Bo false) ([]) :=
  vcP hmix [.reg 1 [(4, [], some false), (10, [], some true)]] [] [
      decide (Int.ofNat (ByteArray.size (Sp.svc s)) > (100 : Int)) = false,
      decide (Int.ofNat (ByteArray.size (Sp.op s)) > (100 : Int)) = true] (by kernel_rfl)
    (by
      have d0 := tq0
      have d1 := tq1
      try simp only [Int.ofNat_eq_natCast, List.length_map, Bool.not_eq_true', Bool.not_eq_false', decide_eq_true_eq, decide_eq_false_iff_not] at d0 d1
      simp only [allP]
      and_intros <;> first
        | omega)

theorem few1_2 (s : Sp) (i : Nat) (hl : LoopC Try.prog 0 45 feB (feS s false 0) .ret (feS s false i)) (tq0 : (decide (Int.ofNat (ByteArray.size (Sp.svc s)) > (100 : Int))) = false) (tq1 : (decide (Int.ofNat (ByteArray.size (Sp.op s)) > (100 : Int))) = false) (tq2 : (decide (Int.ofNat (List.length (List.map At.row (Sp.attrs s))) > (20 : Int))) = true) : Contract Try.prog 34 [s.v] [] (Bo false) ([]) :=
  vcP hmix [.reg 1 [(4, [], some false), (10, [], some false), (15, [], some true)]] [] [
      decide (Int.ofNat (ByteArray.size (Sp.svc s)) > (100 : Int)) = false,
      decide (Int.ofNat (ByteArray.size (Sp.op s)) > (100 : Int)) = false,
      decide (Int.ofNat (List.length (List.map At.row (Sp.attrs s))) > (20 : Int)) = true] (by kernel_rfl)
    (by
      have d0 := tq0
      have d1 := tq1
      have d2 := tq2
      try simp only [Int.ofNat_eq_natCast, List.length_map, Bool.not_eq_true', Bool.not_eq_false', decide_eq_true_eq, decide_eq_false_iff_not] at d0 d1 d2
      simp only [allP]
      and_intros <;> first
        | omega)

theorem few1_3 (s : Sp) (i : Nat) (hl : LoopC Try.prog 0 45 feB (feS s false 0) .ret (feS s false i)) (tq0 : (decide (Int.ofNat (ByteArray.size (Sp.svc s)) > (100 : Int))) = false) (tq1 : (decide (Int.ofNat (ByteArray.size (Sp.op s)) > (100 : Int))) = false) (tq2 : (decide (Int.ofNat (List.length (List.map At.row (Sp.attrs s))) > (20 : Int))) = false) : Contract Try.prog 34 [s.v] [] (Bo false) ([]) :=
  vcP hmix [.reg 1 [(4, [], some false), (10, [], some false), (15, [], some false)], .cut ⟨[1, 2, 3], [(1000, 1000)], []⟩ .ret (feS s false i)] [] [
      decide (Int.ofNat (ByteArray.size (Sp.svc s)) > (100 : Int)) = false,
      decide (Int.ofNat (ByteArray.size (Sp.op s)) > (100 : Int)) = false,
      decide (Int.ofNat (List.length (List.map At.row (Sp.attrs s))) > (20 : Int)) = false,
      LoopC Try.prog (0 : Nat) (45 : Nat) feB { env := [((1 : Nat), V.ptr (1000 : Nat) (0 : Nat) (0 : Nat) (0 : Nat)), ((2 : Nat), Bo false), ((3 : Nat), I (0 : Int))], st := [((1000 : Nat), Obj.box [V.val (Value.int IntKind.u64 (Sp.hi s)), V.val (Value.int IntKind.u64 (Sp.lo s)), V.val (Value.int IntKind.u64 (Sp.id s)), V.val (Value.int IntKind.u64 (Sp.par s)), Sg (Sp.svc s), Sg (Sp.op s), I (Sp.start s), I (Sp.dur s), Bo (Sp.err s), V.sl (2 : Nat) (List.map At.row (Sp.attrs s))])], ids := [(1000 : Nat)] } Ex.ret { env := [((1 : Nat), V.ptr (1000 : Nat) (0 : Nat) (0 : Nat) (0 : Nat)), ((2 : Nat), Bo false), ((3 : Nat), I (Int.ofNat i))], st := [((1000 : Nat), Obj.box (Sp.row s))], ids := [(1000 : Nat)] }] (by kernel_rfl)
    (by
      have d0 := tq0
      have d1 := tq1
      have d2 := tq2
      try simp only [Int.ofNat_eq_natCast, List.length_map, Bool.not_eq_true', Bool.not_eq_false', decide_eq_true_eq, decide_eq_false_iff_not] at d0 d1 d2
      simp only [allP]
      and_intros <;> first
        | omega
        | exact hl)

theorem few1 (s : Sp) (i : Nat) (hl : LoopC Try.prog 0 45 feB (feS s false 0) .ret (feS s false i)) : Contract Try.prog 34 [s.v] [] (Bo false) [] := by
  rcases tf (decide (Int.ofNat (ByteArray.size (Sp.svc s)) > (100 : Int))) with tq0 | tq0
  · exact Contract.cast (by
      first
        | rfl) (by
      first
        | rfl) (few1_0 s i hl tq0)
  · rcases tf (decide (Int.ofNat (ByteArray.size (Sp.op s)) > (100 : Int))) with tq1 | tq1
    · exact Contract.cast (by
        first
          | rfl) (by
        first
          | rfl) (few1_1 s i hl tq0 tq1)
    · rcases tf (decide (Int.ofNat (List.length (List.map At.row (Sp.attrs s))) > (20 : Int))) with tq2 | tq2
      · exact Contract.cast (by
          first
            | rfl) (by
          first
            | rfl) (few1_2 s i hl tq0 tq1 tq2)
      · exact Contract.cast (by
          first
            | rfl) (by
          first
            | rfl) (few1_3 s i hl tq0 tq1 tq2)

theorem few2_0 (s : Sp) (hl : LoopC Try.prog 0 45 feB (feS s false 0) (.exit 0) (feS s false s.attrs.length)) (tq0 : (decide (Int.ofNat (ByteArray.size (Sp.svc s)) > (100 : Int))) = true) : Contract Try.prog 34 [s.v] [] (Bo false) ([]) :=
  vcP hmix [.reg 1 [(4, [], some true)]] [] [
      decide (Int.ofNat (ByteArray.size (Sp.svc s)) > (100 : Int)) = true] (by kernel_rfl)
    (by
      have d0 := tq0
      try simp only [Int.ofNat_eq_natCast, List.length_map, Bool.not_eq_true', Bool.not_eq_false', decide_eq_true_eq, decide_eq_false_iff_not] at d0
      simp only [allP]
      and_intros <;> first
        | omega)

theorem few2_1 (s : Sp) (hl : LoopC Try.prog 0 45 feB (feS s false 0) (.exit 0) (feS s false s.attrs.length)) (tq0 : (decide (Int.ofNat (ByteArray.size (Sp.svc s)) > (100 : Int))) = false) (tq1 : (decide (Int.ofNat (ByteArray.size (Sp.op s)) > (100 : Int))) = true) : Contract Try.prog 34 [s.v] [] (Bo false) ([]) :=
  vcP hmix [.reg 1 [(4, [], some false), (10, [], some true)]] [] [
      decide (Int.ofNat (ByteArray.size (Sp.svc s)) > (100 : Int)) = false,
      decide (Int.ofNat (ByteArray.size (Sp.op s)) > (100 : Int)) = true] (by kernel_rfl)
    (by
      have d0 := tq0
      have d1 := tq1
      try simp only [Int.ofNat_eq_natCast, List.length_map, Bool.not_eq_true', Bool.not_eq_false', decide_eq_true_eq, decide_eq_false_iff_not] at d0 d1
      simp only [allP]
      and_intros <;> first
        | omega)

theorem few2_2 (s : Sp) (hl : LoopC Try.prog 0 45 feB (feS s false 0) (.exit 0) (feS s false s.attrs.length)) (tq0 : (decide (Int.ofNat (ByteArray.size (Sp.svc s)) > (100 : Int))) = false) (tq1 : (decide (Int.ofNat (ByteArray.size (Sp.op s)) > (100 : Int))) = false) (tq2 : (decide (Int.ofNat (List.length (List.map At.row (Sp.attrs s))) > (20 : Int))) = true) : Contract Try.prog 34 [s.v] [] (Bo false) ([]) :=
  vcP hmix [.reg 1 [(4, [], some false), (10, [], some false), (15, [], some true)]] [] [
      decide (Int.ofNat (ByteArray.size (Sp.svc s)) > (100 : Int)) = false,
      decide (Int.ofNat (ByteArray.size (Sp.op s)) > (100 : Int)) = false,
      decide (Int.ofNat (List.length (List.map At.row (Sp.attrs s))) > (20 : Int)) = true] (by kernel_rfl)
    (by
      have d0 := tq0
      have d1 := tq1
      have d2 := tq2
      try simp only [Int.ofNat_eq_natCast, List.length_map, Bool.not_eq_true', Bool.not_eq_false', decide_eq_true_eq, decide_eq_false_iff_not] at d0 d1 d2
      simp only [allP]
      and_intros <;> first
        | omega)

theorem few2_3 (s : Sp) (hl : LoopC Try.prog 0 45 feB (feS s false 0) (.exit 0) (feS s false s.attrs.length)) (tq0 : (decide (Int.ofNat (ByteArray.size (Sp.svc s)) > (100 : Int))) = false) (tq1 : (decide (Int.ofNat (ByteArray.size (Sp.op s)) > (100 : Int))) = false) (tq2 : (decide (Int.ofNat (List.length (List.map At.row (Sp.attrs s))) > (20 : Int))) = false) : Contract Try.prog 34 [s.v] [] (Bo true) ([]) :=
  vcP hmix [.reg 1 [(4, [], some false), (10, [], some false), (15, [], some false)], .cut ⟨[1, 2, 3], [(1000, 1000)], []⟩ (.exit 0) (feS s false s.attrs.length)] [] [
      decide (Int.ofNat (ByteArray.size (Sp.svc s)) > (100 : Int)) = false,
      decide (Int.ofNat (ByteArray.size (Sp.op s)) > (100 : Int)) = false,
      decide (Int.ofNat (List.length (List.map At.row (Sp.attrs s))) > (20 : Int)) = false,
      LoopC Try.prog (0 : Nat) (45 : Nat) feB { env := [((1 : Nat), V.ptr (1000 : Nat) (0 : Nat) (0 : Nat) (0 : Nat)), ((2 : Nat), Bo false), ((3 : Nat), I (0 : Int))], st := [((1000 : Nat), Obj.box [V.val (Value.int IntKind.u64 (Sp.hi s)), V.val (Value.int IntKind.u64 (Sp.lo s)), V.val (Value.int IntKind.u64 (Sp.id s)), V.val (Value.int IntKind.u64 (Sp.par s)), Sg (Sp.svc s), Sg (Sp.op s), I (Sp.start s), I (Sp.dur s), Bo (Sp.err s), V.sl (2 : Nat) (List.map At.row (Sp.attrs s))])], ids := [(1000 : Nat)] } (Ex.exit (0 : Nat)) { env := [((1 : Nat), V.ptr (1000 : Nat) (0 : Nat) (0 : Nat) (0 : Nat)), ((2 : Nat), Bo false), ((3 : Nat), I (Int.ofNat (List.length (Sp.attrs s))))], st := [((1000 : Nat), Obj.box (Sp.row s))], ids := [(1000 : Nat)] }] (by kernel_rfl)
    (by
      have d0 := tq0
      have d1 := tq1
      have d2 := tq2
      try simp only [Int.ofNat_eq_natCast, List.length_map, Bool.not_eq_true', Bool.not_eq_false', decide_eq_true_eq, decide_eq_false_iff_not] at d0 d1 d2
      simp only [allP]
      and_intros <;> first
        | omega
        | exact hl)

theorem few2 (s : Sp) (hl : LoopC Try.prog 0 45 feB (feS s false 0) (.exit 0) (feS s false s.attrs.length)) : Contract Try.prog 34 [s.v] [] (Bo (!decide ((s.svc.size : Int) > 100) && !decide ((s.op.size : Int) > 100) && !decide ((s.attrs.length : Int) > 20))) [] := by
  rcases tf (decide (Int.ofNat (ByteArray.size (Sp.svc s)) > (100 : Int))) with tq0 | tq0
  · exact Contract.cast (by
      first
        | ((try simp only [Int.ofNat_eq_natCast, List.length_map, Bool.not_eq_true', Bool.not_eq_false', decide_eq_true_eq, decide_eq_false_iff_not] at tq0); simp [tq0]; done)) (by
      first
        | rfl) (few2_0 s hl tq0)
  · rcases tf (decide (Int.ofNat (ByteArray.size (Sp.op s)) > (100 : Int))) with tq1 | tq1
    · exact Contract.cast (by
        first
          | ((try simp only [Int.ofNat_eq_natCast, List.length_map, Bool.not_eq_true', Bool.not_eq_false', decide_eq_true_eq, decide_eq_false_iff_not] at tq0 tq1); simp [tq0, tq1]; done)) (by
        first
          | rfl) (few2_1 s hl tq0 tq1)
    · rcases tf (decide (Int.ofNat (List.length (List.map At.row (Sp.attrs s))) > (20 : Int))) with tq2 | tq2
      · exact Contract.cast (by
          first
            | ((try simp only [Int.ofNat_eq_natCast, List.length_map, Bool.not_eq_true', Bool.not_eq_false', decide_eq_true_eq, decide_eq_false_iff_not] at tq0 tq1 tq2); simp [tq0, tq1, tq2]; done)) (by
          first
            | rfl) (few2_2 s hl tq0 tq1 tq2)
      · exact Contract.cast (by
          first
            | ((try simp only [Int.ofNat_eq_natCast, List.length_map, Bool.not_eq_true', Bool.not_eq_false', decide_eq_true_eq, decide_eq_false_iff_not] at tq0 tq1 tq2); simp [tq0, tq1, tq2]; done)) (by
          first
            | rfl) (few2_3 s hl tq0 tq1 tq2)

theorem few3_0 (s : Sp) (h : decide ((s.attrs.length : Int) > 20) = true) (tq0 : (decide (Int.ofNat (ByteArray.size (Sp.svc s)) > (100 : Int))) = true) : Contract Try.prog 34 [s.v] [] (Bo false) ([]) :=
  vcP hmix [.reg 1 [(4, [], some true), (14, [], some true)]] [] [
      decide (Int.ofNat (ByteArray.size (Sp.svc s)) > (100 : Int)) = true] (by kernel_rfl)
    (by
      have d0 := tq0
      try simp only [Int.ofNat_eq_natCast, List.length_map, Bool.not_eq_true', Bool.not_eq_false', decide_eq_true_eq, decide_eq_false_iff_not] at d0
      simp only [allP]
      and_intros <;> first
        | omega)

theorem few3_1 (s : Sp) (h : decide ((s.attrs.length : Int) > 20) = true) (tq0 : (decide (Int.ofNat (ByteArray.size (Sp.svc s)) > (100 : Int))) = false) (tq1 : (decide (Int.ofNat (ByteArray.size (Sp.op s)) > (100 : Int))) = true) : Contract Try.prog 34 [s.v] [] (Bo false) ([]) :=
  vcP hmix [.reg 1 [(4, [], some false), (10, [], some true), (14, [], some true)]] [] [
      decide (Int.ofNat (ByteArray.size (Sp.svc s)) > (100 : Int)) = false,
      decide (Int.ofNat (ByteArray.size (Sp.op s)) > (100 : Int)) = true] (by kernel_rfl)
    (by
      have d0 := tq0
      have d1 := tq1
      try simp only [Int.ofNat_eq_natCast, List.length_map, Bool.not_eq_true', Bool.not_eq_false', decide_eq_true_eq, decide_eq_false_iff_not] at d0 d1
      simp only [allP]
      and_intros <;> first
        | omega)

theorem few3_2 (s : Sp) (h : decide ((s.attrs.length : Int) > 20) = true) (tq0 : (decide (Int.ofNat (ByteArray.size (Sp.svc s)) > (100 : Int))) = false) (tq1 : (decide (Int.ofNat (ByteArray.size (Sp.op s)) > (100 : Int))) = false) : Contract Try.prog 34 [s.v] [] (Bo false) ([]) :=
  vcP hmix [.reg 1 [(4, [], some false), (10, [], some false), (14, [], some true)]] [] [
      decide (Int.ofNat (ByteArray.size (Sp.svc s)) > (100 : Int)) = false,
      decide (Int.ofNat (ByteArray.size (Sp.op s)) > (100 : Int)) = false,
      decide (Int.ofNat (List.length (List.map At.row (Sp.attrs s))) > (20 : Int)) = true] (by kernel_rfl)
    (by
      have d0 := tq0
      have d1 := tq1
      try simp only [Int.ofNat_eq_natCast, List.length_map, Bool.not_eq_true', Bool.not_eq_false', decide_eq_true_eq, decide_eq_false_iff_not] at d0 d1
      simp only [allP]
      and_intros <;> first
        | omega
        | (simp at h ⊢; omega))

theorem few3 (s : Sp) (h : decide ((s.attrs.length : Int) > 20) = true) : Contract Try.prog 34 [s.v] [] (Bo false) [] := by
  rcases tf (decide (Int.ofNat (ByteArray.size (Sp.svc s)) > (100 : Int))) with tq0 | tq0
  · exact Contract.cast (by
      first
        | rfl) (by
      first
        | rfl) (few3_0 s h tq0)
  · rcases tf (decide (Int.ofNat (ByteArray.size (Sp.op s)) > (100 : Int))) with tq1 | tq1
    · exact Contract.cast (by
        first
          | rfl) (by
        first
          | rfl) (few3_1 s h tq0 tq1)
    · exact Contract.cast (by
        first
          | rfl) (by
        first
          | rfl) (few3_2 s h tq0 tq1)

theorem cFew (s : Sp) : Contract Try.prog 34 [s.v] [] (Bo (fewS s)) [] := by
  unfold fewS
  rcases tf (decide ((s.attrs.length : Int) > 20)) with h3 | h3
  · rw [h3]; simp only [Bool.not_true, Bool.and_false, Bool.false_and]; exact few3 s h3
  · have hs : s.attrs.length ≤ 20 := by simp at h3; omega
    rcases LoopC.search (P := Try.prog) (k := 0) (n := 45) (c := feB) s.attrs (fun _ a => longA a) (fun i => feS s false i) (fun i => feS s false i) (e1 := .ret) (e2 := .exit 0) (by simp) (by simp)
      (fun i a hx hi hb => feGo s a i hi hx hs hb) (fun i a hx hi hb => feStop s a i hi hx hs hb) (feE s _ (Nat.le_refl _)) with ⟨i, a, k1, k2, _, k4⟩ | ⟨k1, k2⟩
    · rw [all_not k1 k2, Bool.and_false]; exact few1 s i k4
    · rw [all_of_idx k1, Bool.and_true]; exact few2 s k2
theorem fa_0 (l : List Sp) (x : Sp) (i : Nat) (h : i < l.length) (hx : l[i]? = some x) (hs : l.length ≤ 60) (tq0 : (!fewS x) = true) : CodeC Try.prog 0 19 faB (faS l false i) (Ex.ret) ({ env := [((0 : Nat), V.sl (10 : Nat) (List.map Sp.row l)), ((2 : Nat), Bo false), ((3 : Nat), I (Int.ofNat i))], st := [], ids := [] }) :=
  runP hmix [.reg 4 [(3, [], some true)], .reg 6 [(3, [.row (Sp.row x)], none), (4, [.call [] [] (Bo (fewS x)) []], none), (5, [], some true)]] ⟨[0, 2, 3], [], []⟩ [
      decide (Int.ofNat i < Int.ofNat (List.length (List.map Sp.row l))) = true,
      (0 : Int) ≤ Int.ofNat i,
      Int.ofNat i < Int.ofNat (List.length (List.map Sp.row l)),
      (List.map Sp.row l)[i]? = some (Sp.row x),
      Contract Try.prog (34 : Nat) [V.agg [V.val (Value.int IntKind.u64 (Sp.hi x)), V.val (Value.int IntKind.u64 (Sp.lo x)), V.val (Value.int IntKind.u64 (Sp.id x)), V.val (Value.int IntKind.u64 (Sp.par x)), Sg (Sp.svc x), Sg (Sp.op x), I (Sp.start x), I (Sp.dur x), Bo (Sp.err x), V.sl (2 : Nat) (List.map At.row (Sp.attrs x))]] [] (Bo (fewS x)) [],
      (!fewS x) = true] (by kernel_rfl)
    (by
      have d0 := tq0
      try simp only [Int.ofNat_eq_natCast, List.length_map, Bool.not_eq_true', Bool.not_eq_false', decide_eq_true_eq, decide_eq_false_iff_not] at d0
      simp only [allP]
      and_intros <;> first
        | omega
        | exact cFew x
        | (simp; omega)
        | (simp [hx]; done))

theorem fa_1 (l : List Sp) (x : Sp) (i : Nat) (h : i < l.length) (hx : l[i]? = some x) (hs : l.length ≤ 60) (tq0 : (!fewS x) = false) : CodeC Try.prog 0 19 faB (faS l false i) (Ex.normal) ({ env := [((0 : Nat), V.sl (10 : Nat) (List.map Sp.row l)), ((2 : Nat), Bo false), ((3 : Nat), I (Int.ofNat (i + (1 : Nat))))], st := [], ids := [] }) :=
  runP hmix [.reg 4 [(3, [], some true)], .reg 6 [(3, [.row (Sp.row x)], none), (4, [.call [] [] (Bo (fewS x)) []], none), (5, [], some false)], .reg 5 [(1, [.be (I ((i + 1 : Nat) : Int))], none)]] ⟨[0, 2, 3], [], []⟩ [
      decide (Int.ofNat i < Int.ofNat (List.length (List.map Sp.row l))) = true,
      (0 : Int) ≤ Int.ofNat i,
      Int.ofNat i < Int.ofNat (List.length (List.map Sp.row l)),
      (List.map Sp.row l)[i]? = some (Sp.row x),
      Contract Try.prog (34 : Nat) [V.agg [V.val (Value.int IntKind.u64 (Sp.hi x)), V.val (Value.int IntKind.u64 (Sp.lo x)), V.val (Value.int IntKind.u64 (Sp.id x)), V.val (Value.int IntKind.u64 (Sp.par x)), Sg (Sp.svc x), Sg (Sp.op x), I (Sp.start x), I (Sp.dur x), Bo (Sp.err x), V.sl (2 : Nat) (List.map At.row (Sp.attrs x))]] [] (Bo (fewS x)) [],
      (!fewS x) = false,
      IntKind.wrap IntKind.i64 (Int.ofNat (i + (1 : Nat))) = Int.ofNat (i + (1 : Nat))] (by kernel_rfl)
    (by
      have d0 := tq0
      try simp only [Int.ofNat_eq_natCast, List.length_map, Bool.not_eq_true', Bool.not_eq_false', decide_eq_true_eq, decide_eq_false_iff_not] at d0
      simp only [allP]
      and_intros <;> first
        | omega
        | exact cFew x
        | (simp; omega)
        | (simp [hx]; done)
        | exact i64_small (by simp; omega))

theorem faGo (l : List Sp) (x : Sp) (i : Nat) (h : i < l.length) (hx : l[i]? = some x) (hs : l.length ≤ 60) (hb : fewS x = true) : CodeC Try.prog 0 19 faB (faS l false i) .normal (faS l false (i + 1)) := by
  rcases tf (!fewS x) with tq0 | tq0
  · exact absurd hb (by
      first
        | ((try simp only [Int.ofNat_eq_natCast, List.length_map, Bool.not_eq_true', Bool.not_eq_false', decide_eq_true_eq, decide_eq_false_iff_not] at tq0); simp [tq0]; done))
  · exact CodeC.cast (by
      first
        | rfl) (fa_1 l x i h hx hs tq0)

theorem faStop (l : List Sp) (x : Sp) (i : Nat) (h : i < l.length) (hx : l[i]? = some x) (hs : l.length ≤ 60) (hb : fewS x = false) : CodeC Try.prog 0 19 faB (faS l false i) .ret (faS l false i) := by
  rcases tf (!fewS x) with tq0 | tq0
  · exact CodeC.cast (by
      first
        | rfl) (fa_0 l x i h hx hs tq0)
  · exact absurd hb (by
      first
        | ((try simp only [Int.ofNat_eq_natCast, List.length_map, Bool.not_eq_true', Bool.not_eq_false', decide_eq_true_eq, decide_eq_false_iff_not] at tq0); simp [tq0]; done))

theorem faE_0 (l : List Sp) (i : Nat) (h : l.length ≤ i) : CodeC Try.prog 0 19 faB (faS l false i) (Ex.exit (0 : Nat)) ({ env := [((0 : Nat), V.sl (10 : Nat) (List.map Sp.row l)), ((2 : Nat), Bo false), ((3 : Nat), I (Int.ofNat i))], st := [], ids := [] }) :=
  runP hmix [.reg 4 [(3, [], some false)]] ⟨[0, 2, 3], [], []⟩ [
      decide (Int.ofNat i < Int.ofNat (List.length (List.map Sp.row l))) = false] (by kernel_rfl)
    (by
      simp only [allP]
      and_intros <;> first
        | (simp; omega))

theorem faE (l : List Sp) (i : Nat) (h : l.length ≤ i)  : CodeC Try.prog 0 19 faB (faS l false i) (.exit 0) (faS l false i) := by
  exact CodeC.cast (by
    first
      | rfl) (faE_0 l i h )

theorem fewAll1_0 (l : List Sp) (i : Nat) (hl : LoopC Try.prog 0 19 faB (faS l false 0) .ret (faS l false i)) (tq0 : (decide (Int.ofNat (List.length (List.map Sp.row l)) > (60 : Int))) = true) : Contract Try.prog 27 [.sl 10 (l.map Sp.row)] [] (Bo false) ([]) :=
  vcP hmix [.reg 1 [(2, [], some true)]] [] [
      decide (Int.ofNat (List.length (List.map Sp.row l)) > (60 : Int)) = true] (by kernel_rfl)
    (by
      have d0 := tq0
      try simp only [Int.ofNat_eq_natCast, List.length_map, Bool.not_eq_true', Bool.not_eq_false', decide_eq_true_eq, decide_eq_false_iff_not] at d0
      simp only [allP]
      and_intros <;> first
        | omega)

theorem fewAll1_1 (l : List Sp) (i : Nat) (hl : LoopC Try.prog 0 19 faB (faS l false 0) .ret (faS l false i)) (tq0 : (decide (Int.ofNat (List.length (List.map Sp.row l)) > (60 : Int))) = false) : Contract Try.prog 27 [.sl 10 (l.map Sp.row)] [] (Bo false) ([]) :=
  vcP hmix [.reg 1 [(2, [], some false)], .cut ⟨[0, 2, 3], [], []⟩ .ret (faS l false i)] [] [
      decide (Int.ofNat (List.length (List.map Sp.row l)) > (60 : Int)) = false,
      LoopC Try.prog (0 : Nat) (19 : Nat) faB { env := [((0 : Nat), V.sl (10 : Nat) (List.map Sp.row l)), ((2 : Nat), Bo false), ((3 : Nat), I (0 : Int))], st := [], ids := [] } Ex.ret { env := [((0 : Nat), V.sl (10 : Nat) (List.map Sp.row l)), ((2 : Nat), Bo false), ((3 : Nat), I (Int.ofNat i))], st := [], ids := [] }] (by kernel_rfl)
    (by
      have d0 := tq0
      try simp only [Int.ofNat_eq_natCast, List.length_map, Bool.not_eq_true', Bool.not_eq_false', decide_eq_true_eq, decide_eq_false_iff_not] at d0
      simp only [allP]
      and_intros <;> first
        | omega
        | exact hl)

theorem fewAll1 (l : List Sp) (i : Nat) (hl : LoopC Try.prog 0 19 faB (faS l false 0) .ret (faS l false i)) : Contract Try.prog 27 [.sl 10 (l.map Sp.row)] [] (Bo false) [] := by
  rcases tf (decide (Int.ofNat (List.length (List.map Sp.row l)) > (60 : Int))) with tq0 | tq0
  · exact Contract.cast (by
      first
        | rfl) (by
      first
        | rfl) (fewAll1_0 l i hl tq0)
  · exact Contract.cast (by
      first
        | rfl) (by
      first
        | rfl) (fewAll1_1 l i hl tq0)

theorem fewAll2_0 (l : List Sp) (hl : LoopC Try.prog 0 19 faB (faS l false 0) (.exit 0) (faS l false l.length)) (tq0 : (decide (Int.ofNat (List.length (List.map Sp.row l)) > (60 : Int))) = true) : Contract Try.prog 27 [.sl 10 (l.map Sp.row)] [] (Bo false) ([]) :=
  vcP hmix [.reg 1 [(2, [], some true)]] [] [
      decide (Int.ofNat (List.length (List.map Sp.row l)) > (60 : Int)) = true] (by kernel_rfl)
    (by
      have d0 := tq0
      try simp only [Int.ofNat_eq_natCast, List.length_map, Bool.not_eq_true', Bool.not_eq_false', decide_eq_true_eq, decide_eq_false_iff_not] at d0
      simp only [allP]
      and_intros <;> first
        | omega)

theorem fewAll2_1 (l : List Sp) (hl : LoopC Try.prog 0 19 faB (faS l false 0) (.exit 0) (faS l false l.length)) (tq0 : (decide (Int.ofNat (List.length (List.map Sp.row l)) > (60 : Int))) = false) : Contract Try.prog 27 [.sl 10 (l.map Sp.row)] [] (Bo true) ([]) :=
  vcP hmix [.reg 1 [(2, [], some false)], .cut ⟨[0, 2, 3], [], []⟩ (.exit 0) (faS l false l.length)] [] [
      decide (Int.ofNat (List.length (List.map Sp.row l)) > (60 : Int)) = false,
      LoopC Try.prog (0 : Nat) (19 : Nat) faB { env := [((0 : Nat), V.sl (10 : Nat) (List.map Sp.row l)), ((2 : Nat), Bo false), ((3 : Nat), I (0 : Int))], st := [], ids := [] } (Ex.exit (0 : Nat)) { env := [((0 : Nat), V.sl (10 : Nat) (List.map Sp.row l)), ((2 : Nat), Bo false), ((3 : Nat), I (Int.ofNat (List.length l)))], st := [], ids := [] }] (by kernel_rfl)
    (by
      have d0 := tq0
      try simp only [Int.ofNat_eq_natCast, List.length_map, Bool.not_eq_true', Bool.not_eq_false', decide_eq_true_eq, decide_eq_false_iff_not] at d0
      simp only [allP]
      and_intros <;> first
        | omega
        | exact hl)

theorem fewAll2 (l : List Sp) (hl : LoopC Try.prog 0 19 faB (faS l false 0) (.exit 0) (faS l false l.length)) : Contract Try.prog 27 [.sl 10 (l.map Sp.row)] [] (Bo (!decide ((l.length : Int) > 60))) [] := by
  rcases tf (decide (Int.ofNat (List.length (List.map Sp.row l)) > (60 : Int))) with tq0 | tq0
  · exact Contract.cast (by
      first
        | ((try simp only [Int.ofNat_eq_natCast, List.length_map, Bool.not_eq_true', Bool.not_eq_false', decide_eq_true_eq, decide_eq_false_iff_not] at tq0); simp [tq0]; done)) (by
      first
        | rfl) (fewAll2_0 l hl tq0)
  · exact Contract.cast (by
      first
        | ((try simp only [Int.ofNat_eq_natCast, List.length_map, Bool.not_eq_true', Bool.not_eq_false', decide_eq_true_eq, decide_eq_false_iff_not] at tq0); simp [tq0]; done)) (by
      first
        | rfl) (fewAll2_1 l hl tq0)

theorem fewAll3_0 (l : List Sp) (h : decide ((l.length : Int) > 60) = true) : Contract Try.prog 27 [.sl 10 (l.map Sp.row)] [] (Bo false) ([]) :=
  vcP hmix [.reg 1 [(2, [], some true)]] [] [
      decide (Int.ofNat (List.length (List.map Sp.row l)) > (60 : Int)) = true] (by kernel_rfl)
    (by
      simp only [allP]
      and_intros <;> first
        | (simp at h ⊢; omega))

theorem fewAll3 (l : List Sp) (h : decide ((l.length : Int) > 60) = true) : Contract Try.prog 27 [.sl 10 (l.map Sp.row)] [] (Bo false) [] := by
  exact Contract.cast (by
    first
      | rfl) (by
    first
      | rfl) (fewAll3_0 l h )

theorem cFewAll (l : List Sp) : Contract Try.prog 27 [.sl 10 (l.map Sp.row)] [] (Bo (fewAll l)) [] := by
  unfold fewAll
  rcases tf (decide ((l.length : Int) > 60)) with h3 | h3
  · rw [h3]; simp only [Bool.not_true, Bool.false_and]; exact fewAll3 l h3
  · have hs : l.length ≤ 60 := by simp at h3; omega
    rcases LoopC.search (P := Try.prog) (k := 0) (n := 19) (c := faB) l (fun _ x => !fewS x) (fun i => faS l false i) (fun i => faS l false i) (e1 := .ret) (e2 := .exit 0) (by simp) (by simp)
      (fun i a hx hi hb => faGo l a i hi hx hs (by simpa using hb)) (fun i a hx hi hb => faStop l a i hi hx hs (by simpa using hb)) (faE l _ (Nat.le_refl _)) with ⟨i, a, k1, k2, _, k4⟩ | ⟨k1, k2⟩
    · have := all_not (p := fun x => !fewS x) k1 k2
      simp only [Bool.not_not] at this
      rw [show l.all fewS = false from this, Bool.and_false]; exact fewAll1 l i k4
    · have := all_of_idx (p := fun x => !fewS x) k1
      simp only [Bool.not_not] at this
      rw [show l.all fewS = true from this, Bool.and_true]; exact fewAll2 l k2
theorem few_of {x : Sp} (h : fewS x = true) : x.attrs.length ≤ 20 := by
  unfold fewS at h
  simp only [Bool.and_eq_true, Bool.not_eq_true', decide_eq_false_iff_not] at h
  omega
theorem fewAll_len {l : List Sp} (h : fewAll l = true) : l.length ≤ 60 ∧ ∀ x ∈ l, x.attrs.length ≤ 20 := by
  unfold fewAll at h
  simp only [Bool.and_eq_true, Bool.not_eq_true', decide_eq_false_iff_not, List.all_eq_true] at h
  exact ⟨by omega, fun x hx => few_of (h.2 x hx)⟩
end Go.Proofs.Ytfpdlamjlbpmkaa

/- episodes: few and short. -/
namespace Go.Proofs.Ytfpdlamjlbpmkaa
open E
set_option maxRecDepth 100000
set_option linter.unusedVariables false
set_option linter.unusedSimpArgs false

def few15 : List Ep → Nat → Bool
  | [], n => decide ((n : Int) ≤ 120)
  | e :: l, n => bif decide ((n : Int) < 1000) then (bif fewAll e.spans then few15 l (n + 1 + e.spans.length) else false) else false
def fwS (l : List Ep) (n i : Nat) : SL := ⟨[(0, .sl 6 (l.map Ep.row)), (2, Bo false), (3, I (n : Int)), (4, I (i : Int))], [], []⟩
noncomputable def fwB : Code := codeAt Try.prog 17 [true, true, false, true, false, false]

theorem fwGo_0 (l : List Ep) (x : Ep) (n i : Nat) (hx : l[i]? = some x) (hi : i < l.length) (hs : l.length ≤ 100000000) (hn : n < 1000) (hb : fewAll x.spans = true) : CodeC Try.prog 0 33 fwB (fwS l n i) (Ex.normal) ({ env := [((0 : Nat), V.sl (6 : Nat) (List.map Ep.row l)), ((2 : Nat), Bo false), ((3 : Nat), I (Int.ofNat (n + (1 : Nat) + List.length (Ep.spans x)))), ((4 : Nat), I (Int.ofNat (i + (1 : Nat))))], st := [], ids := [] }) :=
  runP hmix [.reg 3 [(3, [], some true), (6, [], some true)], .reg 5 [(4, [.row (Ep.row x)], none), (5, [.call [] [] (Bo (fewAll x.spans)) []], none), (6, [], some false)], .reg 7 [(1, [.be (I ((n + 1 : Nat) : Int))], none), (6, [.row (Ep.row x)], none), (8, [.be (I ((n + 1 + x.spans.length : Nat) : Int))], none)], .reg 4 [(1, [.be (I ((i + 1 : Nat) : Int))], none)]] ⟨[0, 2, 3, 4], [], []⟩ [
      decide (Int.ofNat i < Int.ofNat (List.length (List.map Ep.row l))) = true,
      decide (Int.ofNat n < (1000 : Int)) = true,
      (0 : Int) ≤ Int.ofNat i,
      Int.ofNat i < Int.ofNat (List.length (List.map Ep.row l)),
      (List.map Ep.row l)[i]? = some (Ep.row x),
      Contract Try.prog (27 : Nat) [V.sl (10 : Nat) (List.map Sp.row (Ep.spans x))] [] (Bo (fewAll (Ep.spans x))) [],
      (!fewAll (Ep.spans x)) = false,
      IntKind.wrap IntKind.i64 (Int.ofNat (n + (1 : Nat))) = Int.ofNat (n + (1 : Nat)),
      (0 : Int) ≤ Int.ofNat i,
      Int.ofNat i < Int.ofNat (List.length (List.map Ep.row l)),
      (List.map Ep.row l)[i]? = some (Ep.row x),
      IntKind.wrap IntKind.i64 (Int.ofNat (n + (1 : Nat) + List.length (List.map Sp.row (Ep.spans x)))) = Int.ofNat (n + (1 : Nat) + List.length (Ep.spans x)),
      IntKind.wrap IntKind.i64 (Int.ofNat (i + (1 : Nat))) = Int.ofNat (i + (1 : Nat))] (by kernel_rfl)
    (by
      simp only [allP]
      and_intros <;> first
        | exact cFewAll _
        | (simp; omega)
        | (simp [hx]; done)
        | (have q := (fewAll_len hb).1; exact i64_small (by simp; omega))
        | (have q := (fewAll_len hb).1; rw [i64_small (by simp; omega)]; simp; done))

theorem fwGo (l : List Ep) (x : Ep) (n i : Nat) (hx : l[i]? = some x) (hi : i < l.length) (hs : l.length ≤ 100000000) (hn : n < 1000) (hb : fewAll x.spans = true)  : CodeC Try.prog 0 33 fwB (fwS l n i) .normal (fwS l (n + 1 + x.spans.length) (i + 1)) := by
  exact CodeC.cast (by
    first
      | rfl) (fwGo_0 l x n i hx hi hs hn hb )

theorem fwStop_0 (l : List Ep) (x : Ep) (n i : Nat) (hx : l[i]? = some x) (hi : i < l.length) (hs : l.length ≤ 100000000) (hn : n < 1000) (hb : fewAll x.spans = false) : CodeC Try.prog 0 33 fwB (fwS l n i) (Ex.ret) ({ env := [((0 : Nat), V.sl (6 : Nat) (List.map Ep.row l)), ((2 : Nat), Bo false), ((3 : Nat), I (Int.ofNat n)), ((4 : Nat), I (Int.ofNat i))], st := [], ids := [] }) :=
  runP hmix [.reg 3 [(3, [], some true), (6, [], some true)], .reg 5 [(4, [.row (Ep.row x)], none), (5, [.call [] [] (Bo (fewAll x.spans)) []], none), (6, [], some true)]] ⟨[0, 2, 3, 4], [], []⟩ [
      decide (Int.ofNat i < Int.ofNat (List.length (List.map Ep.row l))) = true,
      decide (Int.ofNat n < (1000 : Int)) = true,
      (0 : Int) ≤ Int.ofNat i,
      Int.ofNat i < Int.ofNat (List.length (List.map Ep.row l)),
      (List.map Ep.row l)[i]? = some (Ep.row x),
      Contract Try.prog (27 : Nat) [V.sl (10 : Nat) (List.map Sp.row (Ep.spans x))] [] (Bo (fewAll (Ep.spans x))) [],
      (!fewAll (Ep.spans x)) = true] (by kernel_rfl)
    (by
      simp only [allP]
      and_intros <;> first
        | exact cFewAll _
        | (simp; omega)
        | (simp [hx]; done))

theorem fwStop (l : List Ep) (x : Ep) (n i : Nat) (hx : l[i]? = some x) (hi : i < l.length) (hs : l.length ≤ 100000000) (hn : n < 1000) (hb : fewAll x.spans = false)  : CodeC Try.prog 0 33 fwB (fwS l n i) .ret (fwS l n i) := by
  exact CodeC.cast (by
    first
      | rfl) (fwStop_0 l x n i hx hi hs hn hb )

theorem fwMany_0 (l : List Ep) (n i : Nat) (hi : i < l.length) (hn : 1000 ≤ n) : CodeC Try.prog 0 33 fwB (fwS l n i) (Ex.exit (0 : Nat)) ({ env := [((0 : Nat), V.sl (6 : Nat) (List.map Ep.row l)), ((2 : Nat), Bo false), ((3 : Nat), I (Int.ofNat n)), ((4 : Nat), I (Int.ofNat i))], st := [], ids := [] }) :=
  runP hmix [.reg 3 [(3, [], some true), (6, [], some false)]] ⟨[0, 2, 3, 4], [], []⟩ [
      decide (Int.ofNat i < Int.ofNat (List.length (List.map Ep.row l))) = true,
      decide (Int.ofNat n < (1000 : Int)) = false] (by kernel_rfl)
    (by
      simp only [allP]
      and_intros <;> first
        | (simp; omega))

theorem fwMany (l : List Ep) (n i : Nat) (hi : i < l.length) (hn : 1000 ≤ n)  : CodeC Try.prog 0 33 fwB (fwS l n i) (.exit 0) (fwS l n i) := by
  exact CodeC.cast (by
    first
      | rfl) (fwMany_0 l n i hi hn )

theorem fwE_0 (l : List Ep) (n i : Nat) (h : l.length ≤ i) : CodeC Try.prog 0 33 fwB (fwS l n i) (Ex.exit (0 : Nat)) ({ env := [((0 : Nat), V.sl (6 : Nat) (List.map Ep.row l)), ((2 : Nat), Bo false), ((3 : Nat), I (Int.ofNat n)), ((4 : Nat), I (Int.ofNat i))], st := [], ids := [] }) :=
  runP hmix [.reg 3 [(3, [], some false)]] ⟨[0, 2, 3, 4], [], []⟩ [
      decide (Int.ofNat i < Int.ofNat (List.length (List.map Ep.row l))) = false] (by kernel_rfl)
    (by
      simp only [allP]
      and_intros <;> first
        | (simp; omega))

theorem fwE (l : List Ep) (n i : Nat) (h : l.length ≤ i)  : CodeC Try.prog 0 33 fwB (fwS l n i) (.exit 0) (fwS l n i) := by
  exact CodeC.cast (by
    first
      | rfl) (fwE_0 l n i h )

theorem fwB1_0 (l : List Ep) (n i : Nat) (hl : LoopC Try.prog 0 33 fwB (fwS l 0 0) .ret (fwS l n i)) : Contract Try.prog 17 [.sl 6 (l.map Ep.row)] [] (Bo false) ([]) :=
  vcP hmix [.cut ⟨[0, 2, 3, 4], [], []⟩ .ret (fwS l n i)] [] [
      LoopC Try.prog (0 : Nat) (33 : Nat) fwB { env := [((0 : Nat), V.sl (6 : Nat) (List.map Ep.row l)), ((2 : Nat), Bo false), ((3 : Nat), I (0 : Int)), ((4 : Nat), I (0 : Int))], st := [], ids := [] } Ex.ret { env := [((0 : Nat), V.sl (6 : Nat) (List.map Ep.row l)), ((2 : Nat), Bo false), ((3 : Nat), I (Int.ofNat n)), ((4 : Nat), I (Int.ofNat i))], st := [], ids := [] }] (by kernel_rfl)
    (by
      simp only [allP]
      and_intros <;> first
        | exact hl)

theorem fwB1 (l : List Ep) (n i : Nat) (hl : LoopC Try.prog 0 33 fwB (fwS l 0 0) .ret (fwS l n i)) : Contract Try.prog 17 [.sl 6 (l.map Ep.row)] [] (Bo false) [] := by
  exact Contract.cast (by
    first
      | rfl) (by
    first
      | rfl) (fwB1_0 l n i hl )

theorem fwB2_0 (l : List Ep) (n i : Nat) (hl : LoopC Try.prog 0 33 fwB (fwS l 0 0) (.exit 0) (fwS l n i)) : Contract Try.prog 17 [.sl 6 (l.map Ep.row)] [] (Bo (decide (Int.ofNat n ≤ (120 : Int)))) ([]) :=
  vcP hmix [.cut ⟨[0, 2, 3, 4], [], []⟩ (.exit 0) (fwS l n i)] [] [
      LoopC Try.prog (0 : Nat) (33 : Nat) fwB { env := [((0 : Nat), V.sl (6 : Nat) (List.map Ep.row l)), ((2 : Nat), Bo false), ((3 : Nat), I (0 : Int)), ((4 : Nat), I (0 : Int))], st := [], ids := [] } (Ex.exit (0 : Nat)) { env := [((0 : Nat), V.sl (6 : Nat) (List.map Ep.row l)), ((2 : Nat), Bo false), ((3 : Nat), I (Int.ofNat n)), ((4 : Nat), I (Int.ofNat i))], st := [], ids := [] }] (by kernel_rfl)
    (by
      simp only [allP]
      and_intros <;> first
        | exact hl)

theorem fwB2 (l : List Ep) (n i : Nat) (hl : LoopC Try.prog 0 33 fwB (fwS l 0 0) (.exit 0) (fwS l n i)) : Contract Try.prog 17 [.sl 6 (l.map Ep.row)] [] (Bo (decide ((n : Int) ≤ 120))) [] := by
  exact Contract.cast (by
    first
      | rfl) (by
    first
      | rfl) (fwB2_0 l n i hl )

theorem fwAll (l : List Ep) (hs : l.length ≤ 100000000) : ∀ m i n : Nat, i + m = l.length → (few15 (l.drop i) n = false ∧ ∃ n' i', LoopC Try.prog 0 33 fwB (fwS l n i) .ret (fwS l n' i')) ∨ (∃ n' i' : Nat, few15 (l.drop i) n = decide ((n' : Int) ≤ 120) ∧ LoopC Try.prog 0 33 fwB (fwS l n i) (.exit 0) (fwS l n' i'))
  | 0, i, n, h => by
    have : i = l.length := by omega
    subst this
    refine .inr ⟨n, l.length, ?_, LoopC.last (fwE l n _ (Nat.le_refl _)) (by simp)⟩
    rw [List.drop_length]
    rfl
  | m + 1, i, n, h => by
    have hi : i < l.length := by omega
    have hx : l[i]? = some l[i] := List.getElem?_eq_getElem hi
    rw [List.drop_eq_getElem_cons hi]
    unfold few15
    by_cases hn : n < 1000
    · have hd : decide ((n : Int) < 1000) = true := by simp; omega
      rw [hd]
      cases hb : fewAll l[i].spans with
      | true =>
        rcases fwAll l hs m (i + 1) (n + 1 + l[i].spans.length) (by omega) with ⟨k1, n', i', k2⟩ | ⟨n', i', k1, k2⟩
        · exact .inl ⟨k1, n', i', LoopC.next (fwGo l l[i] n i hx hi hs hn hb) k2⟩
        · exact .inr ⟨n', i', k1, LoopC.next (fwGo l l[i] n i hx hi hs hn hb) k2⟩
      | false => exact .inl ⟨rfl, n, i, LoopC.last (fwStop l l[i] n i hx hi hs hn hb) (by simp)⟩
    · have hd : decide ((n : Int) < 1000) = false := by simp; omega
      rw [hd]
      refine .inr ⟨n, i, ?_, LoopC.last (fwMany l n i hi (by omega)) (by simp)⟩
      simp only [cond_false]
      symm
      simp
      omega
theorem cFew15 (l : List Ep) (hs : l.length ≤ 100000000) : Contract Try.prog 17 [.sl 6 (l.map Ep.row)] [] (Bo (few15 l 0)) [] := by
  rcases fwAll l hs l.length 0 0 (by omega) with ⟨k1, n, i, k2⟩ | ⟨n, i, k1, k2⟩
  · rw [List.drop_zero] at k1
    rw [k1]; exact fwB1 l n i k2
  · rw [List.drop_zero] at k1
    rw [k1]; exact fwB2 l n i k2
theorem few15_of : ∀ (l : List Ep) (n : Nat), few15 l n = true → n + l.length ≤ 120 ∧ (∀ e ∈ l, fewAll e.spans = true) ∧ n + l.length + (l.map fun e => e.spans.length).sum ≤ 120
  | [], n, h => by simp [few15] at h; exact ⟨by simp; omega, by simp, by simp; omega⟩
  | e :: l, n, h => by
    unfold few15 at h
    cases h1 : decide ((n : Int) < 1000) with
    | false => rw [h1] at h; cases h
    | true =>
      cases h2 : fewAll e.spans with
      | false => rw [h1, h2] at h; cases h
      | true =>
        rw [h1, h2] at h
        obtain ⟨k1, k2, k3⟩ := few15_of l _ h
        refine ⟨by simp; omega, ?_, by simp; omega⟩
        intro x hx
        rcases List.mem_cons.1 hx with rfl | hx
        · exact h2
        · exact k2 x hx

end Go.Proofs.Ytfpdlamjlbpmkaa

/- blocks: few and short. -/
namespace Go.Proofs.Ytfpdlamjlbpmkaa
open E
set_option maxRecDepth 100000
set_option linter.unusedVariables false
set_option linter.unusedSimpArgs false

def fvS (l : List Bk) (R : List Ep) (i : Nat) : SL := ⟨[(0, .sl 4 (l.map Bk.row)), (2, Bo false), (3, .own 0), (4, I (i : Int))], [(0, .arr 6 (R.map Ep.row))], [0]⟩
def allE (l : List Bk) : List Ep := (l.take 20).flatMap (·.eps)
def few19 (l : List Bk) : Bool := decide ((l.length : Int) ≤ 12) && few15 (allE l) 0
noncomputable def fvB : Code := codeAt Try.prog 8 [true, true, false, true, false, false]

theorem tkget {α : Type} {l : List α} {m i : Nat} {x : α} (h : (l.take m)[i]? = some x) : l[i]? = some x := by
  have h1 := (List.getElem?_eq_some_iff.1 h).1
  simp only [List.length_take] at h1
  rw [List.getElem?_take_of_lt (by omega)] at h
  exact h
theorem foldl_flat {α β : Type} (f : α → List β) : ∀ (l : List α) (R : List β), l.foldl (fun R x => R ++ f x) R = R ++ l.flatMap f
  | [], R => by simp
  | x :: l, R => by rw [List.foldl_cons, foldl_flat f l]; simp
theorem fv_0 (l : List Bk) (R : List Ep) (x : Bk) (i : Nat) (hx : (l.take 20)[i]? = some x) (hi : i < (l.take 20).length) (hR : R.length ≤ 20000000) (he : x.eps.length ≤ 1048576) : CodeC Try.prog 0 29 fvB (fvS l R i) (Ex.normal) ({ env := [((0 : Nat), V.sl (4 : Nat) (List.map Bk.row l)), ((2 : Nat), Bo false), ((3 : Nat), V.own (0 : Nat)), ((4 : Nat), I (Int.ofNat (i + (1 : Nat))))], st := [((0 : Nat), Obj.arr (6 : Nat) (List.map Ep.row (R ++ Bk.eps x)))], ids := [(0 : Nat)] }) :=
  runP hmix [.reg 3 [(3, [], some true), (6, [], some true)], .reg 5 [(5, [.row (Bk.row x)], none), (6, [.beO ((R ++ x.eps).map Ep.row)], none)], .reg 4 [(1, [.be (I ((i + 1 : Nat) : Int))], none)]] ⟨[0, 2, 3, 4], [(1007000, 0)], []⟩ [
      decide (Int.ofNat i < Int.ofNat (List.length (List.map Bk.row l))) = true,
      decide (Int.ofNat i < (20 : Int)) = true,
      (0 : Int) ≤ Int.ofNat i,
      Int.ofNat i < Int.ofNat (List.length (List.map Bk.row l)),
      (List.map Bk.row l)[i]? = some (Bk.row x),
      (List.length (List.map Ep.row R) + List.length (List.map Ep.row (Bk.eps x))) * (64 : Nat) ≤ (140737488355328 : Nat),
      List.map Ep.row R ++ List.map Ep.row (Bk.eps x) = List.map Ep.row (R ++ Bk.eps x),
      IntKind.wrap IntKind.i64 (Int.ofNat (i + (1 : Nat))) = Int.ofNat (i + (1 : Nat))] (by kernel_rfl)
    (by
      simp only [allP]
      and_intros <;> first
        | (simp at hi; simp; omega)
        | (rw [List.getElem?_map, tkget hx]; rfl)
        | (simp at hi; exact i64_small (by simp; omega))
        | (rw [List.map_append]; done)
        | (simp; done))

theorem fv (l : List Bk) (R : List Ep) (x : Bk) (i : Nat) (hx : (l.take 20)[i]? = some x) (hi : i < (l.take 20).length) (hR : R.length ≤ 20000000) (he : x.eps.length ≤ 1048576)  : CodeC Try.prog 0 29 fvB (fvS l R i) .normal (fvS l (R ++ x.eps) (i + 1)) := by
  exact CodeC.cast (by
    first
      | rfl) (fv_0 l R x i hx hi hR he )

theorem fvE1_0 (l : List Bk) (R : List Ep) (i : Nat) (hb : l.length ≤ i) : CodeC Try.prog 0 29 fvB (fvS l R i) (Ex.exit (0 : Nat)) ({ env := [((0 : Nat), V.sl (4 : Nat) (List.map Bk.row l)), ((2 : Nat), Bo false), ((3 : Nat), V.own (0 : Nat)), ((4 : Nat), I (Int.ofNat i))], st := [((0 : Nat), Obj.arr (6 : Nat) (List.map Ep.row R))], ids := [(0 : Nat)] }) :=
  runP hmix [.reg 3 [(3, [], some false)]] ⟨[0, 2, 3, 4], [(0, 0)], []⟩ [
      decide (Int.ofNat i < Int.ofNat (List.length (List.map Bk.row l))) = false] (by kernel_rfl)
    (by
      simp only [allP]
      and_intros <;> first
        | (simp; omega))

theorem fvE1 (l : List Bk) (R : List Ep) (i : Nat) (hb : l.length ≤ i)  : CodeC Try.prog 0 29 fvB (fvS l R i) (.exit 0) (fvS l R i) := by
  exact CodeC.cast (by
    first
      | rfl) (fvE1_0 l R i hb )

theorem fvE2_0 (l : List Bk) (R : List Ep) (i : Nat) (hi : i < l.length) (hb : 20 ≤ i) : CodeC Try.prog 0 29 fvB (fvS l R i) (Ex.exit (0 : Nat)) ({ env := [((0 : Nat), V.sl (4 : Nat) (List.map Bk.row l)), ((2 : Nat), Bo false), ((3 : Nat), V.own (0 : Nat)), ((4 : Nat), I (Int.ofNat i))], st := [((0 : Nat), Obj.arr (6 : Nat) (List.map Ep.row R))], ids := [(0 : Nat)] }) :=
  runP hmix [.reg 3 [(3, [], some true), (6, [], some false)]] ⟨[0, 2, 3, 4], [(0, 0)], []⟩ [
      decide (Int.ofNat i < Int.ofNat (List.length (List.map Bk.row l))) = true,
      decide (Int.ofNat i < (20 : Int)) = false] (by kernel_rfl)
    (by
      simp only [allP]
      and_intros <;> first
        | (simp; omega))

theorem fvE2 (l : List Bk) (R : List Ep) (i : Nat) (hi : i < l.length) (hb : 20 ≤ i)  : CodeC Try.prog 0 29 fvB (fvS l R i) (.exit 0) (fvS l R i) := by
  exact CodeC.cast (by
    first
      | rfl) (fvE2_0 l R i hi hb )

theorem fvE (l : List Bk) (R : List Ep) (i : Nat) (h : (l.take 20).length ≤ i) : CodeC Try.prog 0 29 fvB (fvS l R i) (.exit 0) (fvS l R i) := by
  simp only [List.length_take] at h
  by_cases h1 : l.length ≤ i
  · exact fvE1 l R i h1
  · exact fvE2 l R i (by omega) (by omega)
theorem fvAll (l : List Bk) (hm : ∀ b ∈ l, b.eps.length ≤ 1048576) : LoopC Try.prog 0 29 fvB (fvS l [] 0) (.exit 0) (fvS l (allE l) (l.take 20).length) := by
  have := LoopC.fold (l.take 20) (fun R (x : Bk) => R ++ x.eps) (fun i R => R.length ≤ i * 1048576) (fun R i => fvS l R i) (P := Try.prog) (k := 0) (n := 29) (c := fvB) (e := .exit 0) (by simp)
    (fun i R x hx hi hR => by
      have he := hm x (List.mem_of_getElem? (tkget hx))
      simp only [List.length_take] at hi
      have h2 : i * 1048576 ≤ 19 * 1048576 := Nat.mul_le_mul_right _ (by omega)
      have h3 : (i + 1) * 1048576 = i * 1048576 + 1048576 := Nat.succ_mul _ _
      exact ⟨fv l R x i hx (by simpa using hi) (by omega) he, by simp only [List.length_append]; omega⟩)
    (fun R _ => fvE l R _ (Nat.le_refl _)) [] (Nat.zero_le _)
  rw [foldl_flat, List.nil_append] at this
  exact this
theorem fv1_0 (l : List Bk) (R : List Ep) (i : Nat) (hl : LoopC Try.prog 0 29 fvB (fvS l [] 0) (.exit 0) (fvS l R i)) (hs : R.length ≤ 100000000) (tq0 : (decide (Int.ofNat (List.length (List.map Bk.row l)) ≤ (12 : Int))) = true) : Contract Try.prog 8 [.sl 4 (l.map Bk.row)] [] (Bo (few15 R (0 : Nat))) ([]) :=
  vcP hmix [.cut ⟨[0, 2, 3, 4], [], [.slot 3 0 6]⟩ (.exit 0) (fvS l R i), .reg 6 [(3, [], some true), (5, [.call [] [] (Bo (few15 R 0)) []], none)]] [] [
      LoopC Try.prog (0 : Nat) (29 : Nat) fvB { env := [((0 : Nat), V.sl (4 : Nat) (List.map Bk.row l)), ((2 : Nat), Bo false), ((3 : Nat), V.own (0 : Nat)), ((4 : Nat), I (0 : Int))], st := [((0 : Nat), Obj.arr (6 : Nat) [])], ids := [(0 : Nat)] } (Ex.exit (0 : Nat)) { env := [((0 : Nat), V.sl (4 : Nat) (List.map Bk.row l)), ((2 : Nat), Bo false), ((3 : Nat), V.own (0 : Nat)), ((4 : Nat), I (Int.ofNat i))], st := [((0 : Nat), Obj.arr (6 : Nat) (List.map Ep.row R))], ids := [(0 : Nat)] },
      decide (Int.ofNat (List.length (List.map Bk.row l)) ≤ (12 : Int)) = true,
      Contract Try.prog (17 : Nat) [V.sl (6 : Nat) (List.map Ep.row R)] [] (Bo (few15 R (0 : Nat))) [],
      true = true] (by kernel_rfl)
    (by
      have d0 := tq0
      try simp only [Int.ofNat_eq_natCast, List.length_map, Bool.not_eq_true', Bool.not_eq_false', decide_eq_true_eq, decide_eq_false_iff_not] at d0
      simp only [allP]
      and_intros <;> first
        | omega
        | exact hl
        | exact cFew15 _ hs
        | (simp; done))

theorem fv1_1 (l : List Bk) (R : List Ep) (i : Nat) (hl : LoopC Try.prog 0 29 fvB (fvS l [] 0) (.exit 0) (fvS l R i)) (hs : R.length ≤ 100000000) (tq0 : (decide (Int.ofNat (List.length (List.map Bk.row l)) ≤ (12 : Int))) = false) : Contract Try.prog 8 [.sl 4 (l.map Bk.row)] [] (Bo false) ([]) :=
  vcP hmix [.cut ⟨[0, 2, 3, 4], [], [.slot 3 0 6]⟩ (.exit 0) (fvS l R i), .reg 6 [(3, [], some false), (5, [.call [] [] (Bo (few15 R 0)) []], none)]] [] [
      LoopC Try.prog (0 : Nat) (29 : Nat) fvB { env := [((0 : Nat), V.sl (4 : Nat) (List.map Bk.row l)), ((2 : Nat), Bo false), ((3 : Nat), V.own (0 : Nat)), ((4 : Nat), I (0 : Int))], st := [((0 : Nat), Obj.arr (6 : Nat) [])], ids := [(0 : Nat)] } (Ex.exit (0 : Nat)) { env := [((0 : Nat), V.sl (4 : Nat) (List.map Bk.row l)), ((2 : Nat), Bo false), ((3 : Nat), V.own (0 : Nat)), ((4 : Nat), I (Int.ofNat i))], st := [((0 : Nat), Obj.arr (6 : Nat) (List.map Ep.row R))], ids := [(0 : Nat)] },
      decide (Int.ofNat (List.length (List.map Bk.row l)) ≤ (12 : Int)) = false] (by kernel_rfl)
    (by
      have d0 := tq0
      try simp only [Int.ofNat_eq_natCast, List.length_map, Bool.not_eq_true', Bool.not_eq_false', decide_eq_true_eq, decide_eq_false_iff_not] at d0
      simp only [allP]
      and_intros <;> first
        | omega
        | exact hl)

theorem fv1 (l : List Bk) (R : List Ep) (i : Nat) (hl : LoopC Try.prog 0 29 fvB (fvS l [] 0) (.exit 0) (fvS l R i)) (hs : R.length ≤ 100000000) : Contract Try.prog 8 [.sl 4 (l.map Bk.row)] [] (Bo (decide ((l.length : Int) ≤ 12) && few15 R 0)) [] := by
  rcases tf (decide (Int.ofNat (List.length (List.map Bk.row l)) ≤ (12 : Int))) with tq0 | tq0
  · exact Contract.cast (by
      first
        | ((try simp only [Int.ofNat_eq_natCast, List.length_map, Bool.not_eq_true', Bool.not_eq_false', decide_eq_true_eq, decide_eq_false_iff_not] at tq0); simp [tq0]; done)) (by
      first
        | rfl) (fv1_0 l R i hl hs tq0)
  · exact Contract.cast (by
      first
        | ((try simp only [Int.ofNat_eq_natCast, List.length_map, Bool.not_eq_true', Bool.not_eq_false', decide_eq_true_eq, decide_eq_false_iff_not] at tq0); simp [tq0]; done)) (by
      first
        | rfl) (fv1_1 l R i hl hs tq0)

theorem flat_len {α β : Type} {f : α → List β} {B : Nat} : ∀ {l : List α}, (∀ x ∈ l, (f x).length ≤ B) → (l.flatMap f).length ≤ l.length * B
  | [], _ => by simp
  | x :: l, h => by
    have h1 := h x (by simp)
    have h2 := flat_len (f := f) (l := l) (B := B) fun y hy => h y (by simp [hy])
    simp only [List.flatMap_cons, List.length_append, List.length_cons, Nat.succ_mul]
    omega
theorem allE_len {l : List Bk} (hm : ∀ b ∈ l, b.eps.length ≤ 1048576) : (allE l).length ≤ 20 * 1048576 := by
  have h := flat_len (f := fun (b : Bk) => b.eps) (l := l.take 20) (B := 1048576) fun x hx => hm x (List.mem_of_mem_take hx)
  have : (l.take 20).length * 1048576 ≤ 20 * 1048576 := Nat.mul_le_mul_right _ (by simp; omega)
  exact Nat.le_trans h this
theorem cFew19 (l : List Bk) (hm : ∀ b ∈ l, b.eps.length ≤ 1048576)  : Contract Try.prog 8 [.sl 4 (l.map Bk.row)] [] (Bo (few19 l)) [] :=
  fv1 l _ _ (fvAll l hm) (Nat.le_trans (allE_len hm) (by decide))

end Go.Proofs.Ytfpdlamjlbpmkaa

/- merge: which two blocks, the law. -/
namespace Go.Proofs.Ytfpdlamjlbpmkaa
open E
set_option maxRecDepth 100000
set_option linter.unusedVariables false
set_option linter.unusedSimpArgs false
def pickTo (l : List Bk) (n : Nat) : Bool × Nat × Nat := (List.range n).foldl (fun s i => pickStep l i s) (false, 0, 0)
theorem pickTo_succ (l : List Bk) (n : Nat) : pickTo l (n + 1) = pickStep l n (pickTo l n) := by
  unfold pickTo
  rw [List.range_succ, List.foldl_append]
  rfl
theorem pkRound {l : List Bk} {x : Bk} {i : Nat} {s : Bool × Nat × Nat} (hx : l[i]? = some x) (hs : l.length ≤ 1000000)
    (h : s.1 = true → s.2.1 < s.2.2 ∧ s.2.2 < l.length ∧ ∃ x y, l[s.2.1]? = some x ∧ l[s.2.2]? = some y ∧ x.tier = y.tier) :
    CodeC Try.prog 0 49 pkB (pkS l s.1 s.2.1 s.2.2 i) .normal (pkS l (pickStep l i s).1 (pickStep l i s).2.1 (pickStep l i s).2.2 (i + 1)) := by
  unfold pickStep
  rw [hx]
  dsimp only
  cases hk : (l.drop (i + 1)).findIdx? (pT x) with
  | none => exact pkNo l x x s.1 s.2.1 s.2.2 i 0 hx hs (by unfold idxI; rw [hk])
  | some j =>
    have hj : idxI (pT x) (l.drop (i + 1)) = (j : Int) := by unfold idxI; rw [hk]
    obtain ⟨f, a, b⟩ := s
    cases f with
    | false => exact pkFst l x x false a b i j hx rfl hs hj
    | true =>
      obtain ⟨g1, g2, u, y, g3, g4, g5⟩ := h rfl
      dsimp only at g3 ⊢
      rw [g3]
      dsimp only
      cases hd : decide (x.tier < u.tier) with
      | true => exact pkLess l x u true a b i j hx rfl g3 (by simpa using hd) hs hj
      | false => exact pkGe l x u true a b i j hx rfl g3 (by simpa using hd) hs hj
theorem pkAll (l : List Bk) (hs : l.length ≤ 1000000) : ∀ n i : Nat, i + n = l.length →
    LoopC Try.prog 0 49 pkB (pkS l (pickTo l i).1 (pickTo l i).2.1 (pickTo l i).2.2 i) (.exit 0) (pkS l (pickM l).1 (pickM l).2.1 (pickM l).2.2 l.length)
  | 0, i, h => by
    have : i = l.length := by omega
    subst this
    exact LoopC.last (pkEnd l _ _ _ _ (Nat.le_refl _)) (by simp)
  | n + 1, i, h => by
    have hr := pkRound (l := l) (i := i) (s := pickTo l i) (List.getElem?_eq_getElem (by omega)) hs (pick_inv l i)
    rw [← pickTo_succ] at hr
    exact LoopC.next hr (pkAll l hs n (i + 1) (by omega))
theorem cPick (l : List Bk) (hs : l.length ≤ 1000000) : Contract Try.prog 9 [.sl 4 (l.map Bk.row)] [] (.tup [I ((pickM l).2.1 : Int), I ((pickM l).2.2 : Int), Bo (pickM l).1]) [] :=
  pkF l _ _ _ _ (pkAll l hs l.length 0 (by omega))
end Go.Proofs.Ytfpdlamjlbpmkaa

/- which two blocks, by the reference. -/
namespace Go.Proofs.Ytfpdlamjlbpmkaa
open E
set_option maxRecDepth 100000
set_option linter.unusedVariables false
set_option linter.unusedSimpArgs false

def rpS (l : List Bk) (f : Bool) (a b i : Nat) : SL := ⟨[(0, .sl 4 (l.map Bk.row)), (5, I (a : Int)), (6, I (b : Int)), (7, Bo f), (8, I (i : Int))], [], []⟩
def rqS (l : List Bk) (f : Bool) (a b i k : Nat) : SL := ⟨[(0, .sl 4 (l.map Bk.row)), (5, I (a : Int)), (6, I (b : Int)), (7, Bo f), (8, I (i : Int)), (9, I (k : Int))], [], []⟩
noncomputable def rpB : Code := codeAt Try.prog 10 [true, true, true, true, false, true, false, false]

noncomputable def rqB : Code := codeAt Try.prog 10 [true, true, true, true, false, true, false, false, true, false, false, true, false, false]

theorem rqNo_0 (l : List Bk) (x y : Bk) (f : Bool) (a b i k : Nat) (hx : l[i]? = some x) (hy : l[k]? = some y) (hs : l.length ≤ 1000000) (hb : pT x y = false) : CodeC Try.prog 0 57 rqB (rqS l f a b i k) (Ex.normal) ({ env := [((0 : Nat), V.sl (4 : Nat) (List.map Bk.row l)), ((5 : Nat), I (Int.ofNat a)), ((6 : Nat), I (Int.ofNat b)), ((7 : Nat), Bo f), ((8 : Nat), I (Int.ofNat i)), ((9 : Nat), I (Int.ofNat (k + (1 : Nat))))], st := [], ids := [] }) :=
  runP hmix [.reg 8 [(3, [], some true)], .reg 10 [(4, [.row (Bk.row y)], none), (9, [.row (Bk.row x)], none), (10, [], some false), (19, [.row (Bk.row x)], none)], .reg 9 [(1, [.be (I ((k + 1 : Nat) : Int))], none)]] ⟨[0, 5, 6, 7, 8, 9], [], []⟩ [
      decide (Int.ofNat k < Int.ofNat (List.length (List.map Bk.row l))) = true,
      (0 : Int) ≤ Int.ofNat k,
      Int.ofNat k < Int.ofNat (List.length (List.map Bk.row l)),
      (List.map Bk.row l)[k]? = some (Bk.row y),
      (0 : Int) ≤ Int.ofNat i,
      Int.ofNat i < Int.ofNat (List.length (List.map Bk.row l)),
      (List.map Bk.row l)[i]? = some (Bk.row x),
      (Bk.tier y == Bk.tier x) = false,
      IntKind.wrap IntKind.i64 (Int.ofNat (k + (1 : Nat))) = Int.ofNat (k + (1 : Nat))] (by kernel_rfl)
    (by
      simp only [allP]
      and_intros <;> first
        | (have q := (List.getElem?_eq_some_iff.1 hx).1; simp; omega)
        | (have q := (List.getElem?_eq_some_iff.1 hy).1; simp; omega)
        | (simp [hx]; done)
        | (simp [hy]; done)
        | (have q := (List.getElem?_eq_some_iff.1 hy).1; exact i64_small (by simp; omega))
        | exact hb)

theorem rqNo (l : List Bk) (x y : Bk) (f : Bool) (a b i k : Nat) (hx : l[i]? = some x) (hy : l[k]? = some y) (hs : l.length ≤ 1000000) (hb : pT x y = false)  : CodeC Try.prog 0 57 rqB (rqS l f a b i k) .normal (rqS l f a b i (k + 1)) := by
  exact CodeC.cast (by
    first
      | rfl) (rqNo_0 l x y f a b i k hx hy hs hb )

theorem rqA_0 (l : List Bk) (x y : Bk) (f : Bool) (a b i k : Nat) (hx : l[i]? = some x) (hy : l[k]? = some y) (hs : l.length ≤ 1000000) (hb : pT x y = true) (hf : f = false) : CodeC Try.prog 0 57 rqB (rqS l f a b i k) (Ex.normal) ({ env := [((0 : Nat), V.sl (4 : Nat) (List.map Bk.row l)), ((5 : Nat), I (Int.ofNat i)), ((6 : Nat), I (Int.ofNat k)), ((7 : Nat), Bo true), ((8 : Nat), I (Int.ofNat i)), ((9 : Nat), I (Int.ofNat (k + (1 : Nat))))], st := [], ids := [] }) :=
  runP hmix [.reg 8 [(3, [], some true)], .reg 10 [(4, [.row (Bk.row y)], none), (9, [.row (Bk.row x)], none), (10, [], some true), (13, [], some true), (19, [.row (Bk.row x)], none)], .reg 9 [(1, [.be (I ((k + 1 : Nat) : Int))], none)]] ⟨[0, 5, 6, 7, 8, 9], [], []⟩ [
      decide (Int.ofNat k < Int.ofNat (List.length (List.map Bk.row l))) = true,
      (0 : Int) ≤ Int.ofNat k,
      Int.ofNat k < Int.ofNat (List.length (List.map Bk.row l)),
      (List.map Bk.row l)[k]? = some (Bk.row y),
      (0 : Int) ≤ Int.ofNat i,
      Int.ofNat i < Int.ofNat (List.length (List.map Bk.row l)),
      (List.map Bk.row l)[i]? = some (Bk.row x),
      (Bk.tier y == Bk.tier x) = true,
      (!f) = true,
      IntKind.wrap IntKind.i64 (Int.ofNat (k + (1 : Nat))) = Int.ofNat (k + (1 : Nat))] (by kernel_rfl)
    (by
      simp only [allP]
      and_intros <;> first
        | (have q := (List.getElem?_eq_some_iff.1 hx).1; simp; omega)
        | (have q := (List.getElem?_eq_some_iff.1 hy).1; simp; omega)
        | (simp [hx]; done)
        | (simp [hy]; done)
        | (have q := (List.getElem?_eq_some_iff.1 hy).1; exact i64_small (by simp; omega))
        | exact hb)

theorem rqA (l : List Bk) (x y : Bk) (f : Bool) (a b i k : Nat) (hx : l[i]? = some x) (hy : l[k]? = some y) (hs : l.length ≤ 1000000) (hb : pT x y = true) (hf : f = false)  : CodeC Try.prog 0 57 rqB (rqS l f a b i k) .normal (rqS l true i k i (k + 1)) := by
  exact CodeC.cast (by
    first
      | rfl) (rqA_0 l x y f a b i k hx hy hs hb hf )

theorem rqU_0 (l : List Bk) (x y z : Bk) (f : Bool) (a b i k : Nat) (hx : l[i]? = some x) (hy : l[k]? = some y) (hs : l.length ≤ 1000000) (hb : pT x y = true) (hf : f = true) (hz : l[a]? = some z) (hn : decide (x.tier < z.tier) = true) : CodeC Try.prog 0 57 rqB (rqS l f a b i k) (Ex.normal) ({ env := [((0 : Nat), V.sl (4 : Nat) (List.map Bk.row l)), ((5 : Nat), I (Int.ofNat i)), ((6 : Nat), I (Int.ofNat k)), ((7 : Nat), Bo true), ((8 : Nat), I (Int.ofNat i)), ((9 : Nat), I (Int.ofNat (k + (1 : Nat))))], st := [], ids := [] }) :=
  runP hmix [.reg 8 [(3, [], some true)], .reg 10 [(4, [.row (Bk.row y)], none), (9, [.row (Bk.row x)], none), (10, [], some true), (13, [], some false), (19, [.row (Bk.row x)], none), (24, [.row (Bk.row z)], none), (25, [], some true)], .reg 9 [(1, [.be (I ((k + 1 : Nat) : Int))], none)]] ⟨[0, 5, 6, 7, 8, 9], [], []⟩ [
      decide (Int.ofNat k < Int.ofNat (List.length (List.map Bk.row l))) = true,
      (0 : Int) ≤ Int.ofNat k,
      Int.ofNat k < Int.ofNat (List.length (List.map Bk.row l)),
      (List.map Bk.row l)[k]? = some (Bk.row y),
      (0 : Int) ≤ Int.ofNat i,
      Int.ofNat i < Int.ofNat (List.length (List.map Bk.row l)),
      (List.map Bk.row l)[i]? = some (Bk.row x),
      (Bk.tier y == Bk.tier x) = true,
      (!f) = false,
      (0 : Int) ≤ Int.ofNat i,
      Int.ofNat i < Int.ofNat (List.length (List.map Bk.row l)),
      (List.map Bk.row l)[i]? = some (Bk.row x),
      (0 : Int) ≤ Int.ofNat a,
      Int.ofNat a < Int.ofNat (List.length (List.map Bk.row l)),
      (List.map Bk.row l)[a]? = some (Bk.row z),
      decide (Bk.tier x < Bk.tier z) = true,
      IntKind.wrap IntKind.i64 (Int.ofNat (k + (1 : Nat))) = Int.ofNat (k + (1 : Nat))] (by kernel_rfl)
    (by
      simp only [allP]
      and_intros <;> first
        | omega
        | (have q := (List.getElem?_eq_some_iff.1 hx).1; simp; omega)
        | (have q := (List.getElem?_eq_some_iff.1 hy).1; simp; omega)
        | (simp [hx]; done)
        | (simp [hy]; done)
        | (have q := (List.getElem?_eq_some_iff.1 hy).1; exact i64_small (by simp; omega))
        | exact hb
        | (simp [hz]; done)
        | (have q := (List.getElem?_eq_some_iff.1 hz).1; simp; omega))

theorem rqU (l : List Bk) (x y z : Bk) (f : Bool) (a b i k : Nat) (hx : l[i]? = some x) (hy : l[k]? = some y) (hs : l.length ≤ 1000000) (hb : pT x y = true) (hf : f = true) (hz : l[a]? = some z) (hn : decide (x.tier < z.tier) = true)  : CodeC Try.prog 0 57 rqB (rqS l f a b i k) .normal (rqS l true i k i (k + 1)) := by
  exact CodeC.cast (by
    first
      | rfl) (rqU_0 l x y z f a b i k hx hy hs hb hf hz hn )

theorem rqC_0 (l : List Bk) (x y z : Bk) (f : Bool) (a b i k : Nat) (hx : l[i]? = some x) (hy : l[k]? = some y) (hs : l.length ≤ 1000000) (hb : pT x y = true) (hf : f = true) (hz : l[a]? = some z) (hn : decide (x.tier < z.tier) = false) : CodeC Try.prog 0 57 rqB (rqS l f a b i k) (Ex.normal) ({ env := [((0 : Nat), V.sl (4 : Nat) (List.map Bk.row l)), ((5 : Nat), I (Int.ofNat a)), ((6 : Nat), I (Int.ofNat b)), ((7 : Nat), Bo f), ((8 : Nat), I (Int.ofNat i)), ((9 : Nat), I (Int.ofNat (k + (1 : Nat))))], st := [], ids := [] }) :=
  runP hmix [.reg 8 [(3, [], some true)], .reg 10 [(4, [.row (Bk.row y)], none), (9, [.row (Bk.row x)], none), (10, [], some true), (13, [], some false), (19, [.row (Bk.row x)], none), (24, [.row (Bk.row z)], none), (25, [], some false)], .reg 9 [(1, [.be (I ((k + 1 : Nat) : Int))], none)]] ⟨[0, 5, 6, 7, 8, 9], [], []⟩ [
      decide (Int.ofNat k < Int.ofNat (List.length (List.map Bk.row l))) = true,
      (0 : Int) ≤ Int.ofNat k,
      Int.ofNat k < Int.ofNat (List.length (List.map Bk.row l)),
      (List.map Bk.row l)[k]? = some (Bk.row y),
      (0 : Int) ≤ Int.ofNat i,
      Int.ofNat i < Int.ofNat (List.length (List.map Bk.row l)),
      (List.map Bk.row l)[i]? = some (Bk.row x),
      (Bk.tier y == Bk.tier x) = true,
      (!f) = false,
      (0 : Int) ≤ Int.ofNat i,
      Int.ofNat i < Int.ofNat (List.length (List.map Bk.row l)),
      (List.map Bk.row l)[i]? = some (Bk.row x),
      (0 : Int) ≤ Int.ofNat a,
      Int.ofNat a < Int.ofNat (List.length (List.map Bk.row l)),
      (List.map Bk.row l)[a]? = some (Bk.row z),
      decide (Bk.tier x < Bk.tier z) = false,
      IntKind.wrap IntKind.i64 (Int.ofNat (k + (1 : Nat))) = Int.ofNat (k + (1 : Nat))] (by kernel_rfl)
    (by
      simp only [allP]
      and_intros <;> first
        | omega
        | (have q := (List.getElem?_eq_some_iff.1 hx).1; simp; omega)
        | (have q := (List.getElem?_eq_some_iff.1 hy).1; simp; omega)
        | (simp [hx]; done)
        | (simp [hy]; done)
        | (have q := (List.getElem?_eq_some_iff.1 hy).1; exact i64_small (by simp; omega))
        | exact hb
        | (simp [hz]; done)
        | (have q := (List.getElem?_eq_some_iff.1 hz).1; simp; omega))

theorem rqC (l : List Bk) (x y z : Bk) (f : Bool) (a b i k : Nat) (hx : l[i]? = some x) (hy : l[k]? = some y) (hs : l.length ≤ 1000000) (hb : pT x y = true) (hf : f = true) (hz : l[a]? = some z) (hn : decide (x.tier < z.tier) = false)  : CodeC Try.prog 0 57 rqB (rqS l f a b i k) .normal (rqS l f a b i (k + 1)) := by
  exact CodeC.cast (by
    first
      | rfl) (rqC_0 l x y z f a b i k hx hy hs hb hf hz hn )

theorem rqE_0 (l : List Bk) (f : Bool) (a b i k : Nat) (h : l.length ≤ k) : CodeC Try.prog 0 57 rqB (rqS l f a b i k) (Ex.exit (2 : Nat)) ({ env := [((0 : Nat), V.sl (4 : Nat) (List.map Bk.row l)), ((5 : Nat), I (Int.ofNat a)), ((6 : Nat), I (Int.ofNat b)), ((7 : Nat), Bo f), ((8 : Nat), I (Int.ofNat i)), ((9 : Nat), I (Int.ofNat k))], st := [], ids := [] }) :=
  runP hmix [.reg 8 [(3, [], some false)]] ⟨[0, 5, 6, 7, 8, 9], [], []⟩ [
      decide (Int.ofNat k < Int.ofNat (List.length (List.map Bk.row l))) = false] (by kernel_rfl)
    (by
      simp only [allP]
      and_intros <;> first
        | (simp; omega))

theorem rqE (l : List Bk) (f : Bool) (a b i k : Nat) (h : l.length ≤ k)  : CodeC Try.prog 0 57 rqB (rqS l f a b i k) (.exit 2) (rqS l f a b i k) := by
  exact CodeC.cast (by
    first
      | rfl) (rqE_0 l f a b i k h )


/-- Nothing better comes. -/
theorem rqQ (l : List Bk) (x z : Bk) (a b i : Nat) (hx : l[i]? = some x) (hs : l.length ≤ 1000000) (hz : l[a]? = some z) (hn : decide (x.tier < z.tier) = false) : ∀ m k, k + m = l.length → LoopC Try.prog 0 57 rqB (rqS l true a b i k) (.exit 2) (rqS l true a b i l.length)
  | 0, k, h => by
    have : k = l.length := by omega
    subst this
    exact LoopC.last (rqE l _ _ _ _ _ (Nat.le_refl _)) (by simp)
  | m + 1, k, h => by
    have hy : l[k]? = some l[k] := List.getElem?_eq_getElem (by omega)
    have ih := rqQ l x z a b i hx hs hz hn m (k + 1) (by omega)
    cases hb : pT x l[k] with
    | false => exact LoopC.next (rqNo l x l[k] true a b i k hx hy hs hb) ih
    | true => exact LoopC.next (rqC l x l[k] z true a b i k hx hy hs hb rfl hz hn) ih
def rqM (l : List Bk) (i : Nat) (x : Bk) (k : Nat) (s : Bool × Nat × Nat) : Bool × Nat × Nat := match (l.drop k).findIdx? (pT x) with
    | none => s
    | some j => match s.1, l[s.2.1]? with
      | true, some y => bif decide (x.tier < y.tier) then (true, i, k + j) else s
      | _, _ => (true, i, k + j)
theorem rqAll (l : List Bk) (x : Bk) (i : Nat) (hx : l[i]? = some x) (hs : l.length ≤ 1000000) (s : Bool × Nat × Nat) (hv : s.1 = true → ∃ z, l[s.2.1]? = some z) : ∀ m k, k + m = l.length → LoopC Try.prog 0 57 rqB (rqS l s.1 s.2.1 s.2.2 i k) (.exit 2) (rqS l (rqM l i x k s).1 (rqM l i x k s).2.1 (rqM l i x k s).2.2 i l.length)
  | 0, k, h => by
    have : k = l.length := by omega
    subst this
    have e : rqM l i x l.length s = s := by unfold rqM; rw [List.drop_length]; rfl
    rw [e]
    exact LoopC.last (rqE l _ _ _ _ _ (Nat.le_refl _)) (by simp)
  | m + 1, k, h => by
    have hk : k < l.length := by omega
    have hy : l[k]? = some l[k] := List.getElem?_eq_getElem hk
    have xx : decide (x.tier < x.tier) = false := by simp
    cases hb : pT x l[k] with
    | false =>
      have e : rqM l i x k s = rqM l i x (k + 1) s := by
        unfold rqM
        rw [List.drop_eq_getElem_cons hk, List.findIdx?_cons, hb]
        cases (l.drop (k + 1)).findIdx? (pT x) with
        | none => rfl
        | some j => simp [show k + (j + 1) = k + 1 + j by omega]
      rw [e]
      exact LoopC.next (rqNo l x l[k] s.1 s.2.1 s.2.2 i k hx hy hs hb) (rqAll l x i hx hs s hv m (k + 1) (by omega))
    | true =>
      have e0 : (l.drop k).findIdx? (pT x) = some 0 := by rw [List.drop_eq_getElem_cons hk, List.findIdx?_cons, hb]; rfl
      obtain ⟨f, a, b⟩ := s
      cases f with
      | false =>
        have e : rqM l i x k (false, a, b) = (true, i, k) := by unfold rqM; rw [e0]; rfl
        rw [e]
        exact LoopC.next (rqA l x l[k] false a b i k hx hy hs hb rfl) (rqQ l x x i k i hx hs hx xx m (k + 1) (by omega))
      | true =>
        obtain ⟨z, hz⟩ := hv rfl
        dsimp only at hz
        cases hn : decide (x.tier < z.tier) with
        | true =>
          have e : rqM l i x k (true, a, b) = (true, i, k) := by unfold rqM; rw [e0]; simp only [hz]; rw [hn]; rfl
          rw [e]
          exact LoopC.next (rqU l x l[k] z true a b i k hx hy hs hb rfl hz hn) (rqQ l x x i k i hx hs hx xx m (k + 1) (by omega))
        | false =>
          have e : rqM l i x k (true, a, b) = (true, a, b) := by unfold rqM; rw [e0]; simp only [hz]; rw [hn]; rfl
          rw [e]
          exact LoopC.next (rqC l x l[k] z true a b i k hx hy hs hb rfl hz hn) (rqQ l x z a b i hx hs hz hn m (k + 1) (by omega))
theorem rqM_eq (l : List Bk) (i : Nat) (x : Bk) (s : Bool × Nat × Nat) (hx : l[i]? = some x) : rqM l i x (i + 1) s = pickStep l i s := by
  unfold rqM pickStep
  rw [hx]
  rfl
theorem rp_0 (l : List Bk) (f f2 : Bool) (a b a2 b2 i : Nat) (hi : i < l.length) (hs : l.length ≤ 1000000) (hl : LoopC Try.prog 0 57 rqB (rqS l f a b i (i + 1)) (.exit 2) (rqS l f2 a2 b2 i l.length)) : CodeC Try.prog 0 57 rpB (rpS l f a b i) (Ex.normal) ({ env := [((0 : Nat), V.sl (4 : Nat) (List.map Bk.row l)), ((5 : Nat), I (Int.ofNat a2)), ((6 : Nat), I (Int.ofNat b2)), ((7 : Nat), Bo f2), ((8 : Nat), I (Int.ofNat (i + (1 : Nat))))], st := [], ids := [] }) :=
  runP hmix [.reg 5 [(3, [], some true)], .reg 7 [(1, [.be (I ((i + 1 : Nat) : Int))], none)], .cut ⟨[0, 5, 6, 7, 8, 9], [], []⟩ (.exit 2) (rqS l f2 a2 b2 i l.length), .reg 6 [(1, [.be (I ((i + 1 : Nat) : Int))], none)]] ⟨[0, 5, 6, 7, 8], [], []⟩ [
      decide (Int.ofNat i < Int.ofNat (List.length (List.map Bk.row l))) = true,
      IntKind.wrap IntKind.i64 (Int.ofNat (i + (1 : Nat))) = Int.ofNat (i + (1 : Nat)),
      LoopC Try.prog (0 : Nat) (57 : Nat) rqB { env := [((0 : Nat), V.sl (4 : Nat) (List.map Bk.row l)), ((5 : Nat), I (Int.ofNat a)), ((6 : Nat), I (Int.ofNat b)), ((7 : Nat), Bo f), ((8 : Nat), I (Int.ofNat i)), ((9 : Nat), I (Int.ofNat (i + (1 : Nat))))], st := [], ids := [] } (Ex.exit (2 : Nat)) { env := [((0 : Nat), V.sl (4 : Nat) (List.map Bk.row l)), ((5 : Nat), I (Int.ofNat a2)), ((6 : Nat), I (Int.ofNat b2)), ((7 : Nat), Bo f2), ((8 : Nat), I (Int.ofNat i)), ((9 : Nat), I (Int.ofNat (List.length l)))], st := [], ids := [] },
      IntKind.wrap IntKind.i64 (Int.ofNat (i + (1 : Nat))) = Int.ofNat (i + (1 : Nat))] (by kernel_rfl)
    (by
      simp only [allP]
      and_intros <;> first
        | exact hl
        | (simp; omega)
        | exact i64_small (by simp; omega))

theorem rp (l : List Bk) (f f2 : Bool) (a b a2 b2 i : Nat) (hi : i < l.length) (hs : l.length ≤ 1000000) (hl : LoopC Try.prog 0 57 rqB (rqS l f a b i (i + 1)) (.exit 2) (rqS l f2 a2 b2 i l.length))  : CodeC Try.prog 0 57 rpB (rpS l f a b i) .normal (rpS l f2 a2 b2 (i + 1)) := by
  exact CodeC.cast (by
    first
      | rfl) (rp_0 l f f2 a b a2 b2 i hi hs hl )

theorem rpE_0 (l : List Bk) (f : Bool) (a b i : Nat) (h : l.length ≤ i) : CodeC Try.prog 0 57 rpB (rpS l f a b i) (Ex.exit (0 : Nat)) ({ env := [((0 : Nat), V.sl (4 : Nat) (List.map Bk.row l)), ((5 : Nat), I (Int.ofNat a)), ((6 : Nat), I (Int.ofNat b)), ((7 : Nat), Bo f), ((8 : Nat), I (Int.ofNat i))], st := [], ids := [] }) :=
  runP hmix [.reg 5 [(3, [], some false)]] ⟨[0, 5, 6, 7, 8], [], []⟩ [
      decide (Int.ofNat i < Int.ofNat (List.length (List.map Bk.row l))) = false] (by kernel_rfl)
    (by
      simp only [allP]
      and_intros <;> first
        | (simp; omega))

theorem rpE (l : List Bk) (f : Bool) (a b i : Nat) (h : l.length ≤ i)  : CodeC Try.prog 0 57 rpB (rpS l f a b i) (.exit 0) (rpS l f a b i) := by
  exact CodeC.cast (by
    first
      | rfl) (rpE_0 l f a b i h )

theorem rpAll (l : List Bk) (hs : l.length ≤ 1000000) : ∀ m i, i + m = l.length → LoopC Try.prog 0 57 rpB (rpS l (pickTo l i).1 (pickTo l i).2.1 (pickTo l i).2.2 i) (.exit 0) (rpS l (pickM l).1 (pickM l).2.1 (pickM l).2.2 l.length)
  | 0, i, h => by
    have : i = l.length := by omega
    subst this
    exact LoopC.last (rpE l _ _ _ _ (Nat.le_refl _)) (by simp)
  | m + 1, i, h => by
    have hx : l[i]? = some l[i] := List.getElem?_eq_getElem (by omega)
    have hin := rqAll l l[i] i hx hs (pickTo l i) (fun hf => by obtain ⟨_, _, z, _, q, _⟩ := pick_inv l i hf; exact ⟨z, q⟩) (l.length - (i + 1)) (i + 1) (by omega)
    rw [rqM_eq l i l[i] _ hx, ← pickTo_succ] at hin
    exact LoopC.next (rp l _ _ _ _ _ _ i (by omega) hs hin) (rpAll l hs m (i + 1) (by omega))
theorem rp0_0 (l : List Bk) (f : Bool) (a b i : Nat) (hl : LoopC Try.prog 0 57 rpB (rpS l false 0 0 0) (.exit 0) (rpS l f a b i)) : Contract Try.prog 10 [.sl 4 (l.map Bk.row)] [] (V.tup [I (Int.ofNat a), I (Int.ofNat b), Bo f]) ([]) :=
  vcP hmix [.cut ⟨[0, 5, 6, 7, 8], [], []⟩ (.exit 0) (rpS l f a b i)] [] [
      LoopC Try.prog (0 : Nat) (57 : Nat) rpB { env := [((0 : Nat), V.sl (4 : Nat) (List.map Bk.row l)), ((5 : Nat), I (0 : Int)), ((6 : Nat), I (0 : Int)), ((7 : Nat), Bo false), ((8 : Nat), I (0 : Int))], st := [], ids := [] } (Ex.exit (0 : Nat)) { env := [((0 : Nat), V.sl (4 : Nat) (List.map Bk.row l)), ((5 : Nat), I (Int.ofNat a)), ((6 : Nat), I (Int.ofNat b)), ((7 : Nat), Bo f), ((8 : Nat), I (Int.ofNat i))], st := [], ids := [] }] (by kernel_rfl)
    (by
      simp only [allP]
      and_intros <;> first
        | exact hl)

theorem rp0 (l : List Bk) (f : Bool) (a b i : Nat) (hl : LoopC Try.prog 0 57 rpB (rpS l false 0 0 0) (.exit 0) (rpS l f a b i)) : Contract Try.prog 10 [.sl 4 (l.map Bk.row)] [] (.tup [I (a : Int), I (b : Int), Bo f]) [] := by
  exact Contract.cast (by
    first
      | rfl) (by
    first
      | rfl) (rp0_0 l f a b i hl )

theorem cPickR (l : List Bk) (hs : l.length ≤ 1000000) : Contract Try.prog 10 [.sl 4 (l.map Bk.row)] [] (.tup [I ((pickM l).2.1 : Int), I ((pickM l).2.2 : Int), Bo (pickM l).1]) [] :=
  rp0 l _ _ _ _ (rpAll l hs l.length 0 (by omega))

end Go.Proofs.Ytfpdlamjlbpmkaa

/- what is the same is told so. -/
namespace Go.Proofs.Ytfpdlamjlbpmkaa
open E
set_option maxRecDepth 100000
set_option linter.unusedVariables false
set_option linter.unusedSimpArgs false

def sfS (s : Sp) (i : Nat) : SL := ⟨[(2, .ptr 1000 0 0 0), (3, .ptr 2000 0 0 0), (5, I (i : Int))], [(1000, .box s.row), (2000, .box s.row)], [1000, 2000]⟩
def sgS (l : List Sp) (i : Nat) : SL := ⟨[(0, .sl 10 (l.map Sp.row)), (1, .sl 10 (l.map Sp.row)), (5, I (i : Int))], [], []⟩
def shS (l : List Ep) (i : Nat) : SL := ⟨[(0, .sl 6 (l.map Ep.row)), (1, .sl 6 (l.map Ep.row)), (5, I (i : Int))], [], []⟩
noncomputable def sfB : Code := codeAt Try.prog 33 [true, true, false, true, false, false]

noncomputable def sgB : Code := codeAt Try.prog 26 [true, true, false, true, false, false]

theorem sfG_0 (s : Sp) (x : At) (i : Nat) (hx : s.attrs[i]? = some x) (hi : i < s.attrs.length) (hs : s.attrs.length ≤ 1000000) : CodeC Try.prog 0 87 sfB (sfS s (i)) (Ex.normal) ({ env := [((2 : Nat), V.ptr (1000 : Nat) (0 : Nat) (0 : Nat) (0 : Nat)), ((3 : Nat), V.ptr (2000 : Nat) (0 : Nat) (0 : Nat) (0 : Nat)), ((5 : Nat), I (Int.ofNat (i + (1 : Nat))))], st := [((1000 : Nat), Obj.box [V.val (Value.int IntKind.u64 (Sp.hi s)), V.val (Value.int IntKind.u64 (Sp.lo s)), V.val (Value.int IntKind.u64 (Sp.id s)), V.val (Value.int IntKind.u64 (Sp.par s)), Sg (Sp.svc s), Sg (Sp.op s), I (Sp.start s), I (Sp.dur s), Bo (Sp.err s), V.sl (2 : Nat) (List.map At.row (Sp.attrs s))]), ((2000 : Nat), Obj.box [V.val (Value.int IntKind.u64 (Sp.hi s)), V.val (Value.int IntKind.u64 (Sp.lo s)), V.val (Value.int IntKind.u64 (Sp.id s)), V.val (Value.int IntKind.u64 (Sp.par s)), Sg (Sp.svc s), Sg (Sp.op s), I (Sp.start s), I (Sp.dur s), Bo (Sp.err s), V.sl (2 : Nat) (List.map At.row (Sp.attrs s))])], ids := [(1000 : Nat), (2000 : Nat)] }) :=
  runP hmix [.reg 4 [(4, [], some true)], .reg 6 [(4, [.row (At.row x)], none), (9, [.row (At.row x)], none), (10, [], some false)], .reg 5 [(1, [.be (I ((i + 1 : Nat) : Int))], none)]] ⟨[2, 3, 5], [(1000, 1000), (2000, 2000)], []⟩ [
      decide (Int.ofNat i < Int.ofNat (List.length (List.map At.row (Sp.attrs s)))) = true,
      (0 : Int) ≤ Int.ofNat i,
      Int.ofNat i < Int.ofNat (List.length (List.map At.row (Sp.attrs s))),
      (List.map At.row (Sp.attrs s))[i]? = some (At.row x),
      (0 : Int) ≤ Int.ofNat i,
      Int.ofNat i < Int.ofNat (List.length (List.map At.row (Sp.attrs s))),
      (List.map At.row (Sp.attrs s))[i]? = some (At.row x),
      (!(At.key x == At.key x && (At.val x == At.val x && true))) = false,
      IntKind.wrap IntKind.i64 (Int.ofNat (i + (1 : Nat))) = Int.ofNat (i + (1 : Nat))] (by kernel_rfl)
    (by
      simp only [allP]
      and_intros <;> first
        | (simp; omega)
        | (simp [hx]; done)
        | exact i64_small (by simp; omega))

theorem sfG (s : Sp) (x : At) (i : Nat) (hx : s.attrs[i]? = some x) (hi : i < s.attrs.length) (hs : s.attrs.length ≤ 1000000)  : CodeC Try.prog 0 87 sfB (sfS s (i)) .normal (sfS s (i + 1)) := by
  exact CodeC.cast (by
    first
      | rfl) (sfG_0 s x i hx hi hs )

theorem sfE_0 (s : Sp) (i : Nat) (h : s.attrs.length ≤ i) : CodeC Try.prog 0 87 sfB (sfS s (i)) (Ex.exit (0 : Nat)) ({ env := [((2 : Nat), V.ptr (1000 : Nat) (0 : Nat) (0 : Nat) (0 : Nat)), ((3 : Nat), V.ptr (2000 : Nat) (0 : Nat) (0 : Nat) (0 : Nat)), ((5 : Nat), I (Int.ofNat i))], st := [((1000 : Nat), Obj.box [V.val (Value.int IntKind.u64 (Sp.hi s)), V.val (Value.int IntKind.u64 (Sp.lo s)), V.val (Value.int IntKind.u64 (Sp.id s)), V.val (Value.int IntKind.u64 (Sp.par s)), Sg (Sp.svc s), Sg (Sp.op s), I (Sp.start s), I (Sp.dur s), Bo (Sp.err s), V.sl (2 : Nat) (List.map At.row (Sp.attrs s))]), ((2000 : Nat), Obj.box [V.val (Value.int IntKind.u64 (Sp.hi s)), V.val (Value.int IntKind.u64 (Sp.lo s)), V.val (Value.int IntKind.u64 (Sp.id s)), V.val (Value.int IntKind.u64 (Sp.par s)), Sg (Sp.svc s), Sg (Sp.op s), I (Sp.start s), I (Sp.dur s), Bo (Sp.err s), V.sl (2 : Nat) (List.map At.row (Sp.attrs s))])], ids := [(1000 : Nat), (2000 : Nat)] }) :=
  runP hmix [.reg 4 [(4, [], some false)]] ⟨[2, 3, 5], [(1000, 1000), (2000, 2000)], []⟩ [
      decide (Int.ofNat i < Int.ofNat (List.length (List.map At.row (Sp.attrs s)))) = false] (by kernel_rfl)
    (by
      simp only [allP]
      and_intros <;> first
        | (simp; omega))

theorem sfE (s : Sp) (i : Nat) (h : s.attrs.length ≤ i)  : CodeC Try.prog 0 87 sfB (sfS s (i)) (.exit 0) (sfS s (i)) := by
  exact CodeC.cast (by
    first
      | rfl) (sfE_0 s i h )

theorem sfL (s : Sp) (hs : s.attrs.length ≤ 1000000) : LoopC Try.prog 0 87 sfB (sfS s (0)) (.exit 0) (sfS s (s.attrs.length)) :=
  LoopC.pass s.attrs (fun i => sfS s (i)) (by simp) (fun i x hx hi => sfG s x i hx hi hs) (sfE s _ (Nat.le_refl _))

theorem cSameSpan_0 (s : Sp) (hs : s.attrs.length ≤ 1000000) : Contract Try.prog 33 [s.v, s.v] [] (Bo true) ([]) :=
  vcP hmix [.reg 1 [(4, [], some false), (10, [], some false), (17, [], some false), (24, [], some false), (31, [], some false), (38, [], some false), (45, [], some false), (52, [], some false), (61, [], some false)], .cut ⟨[2, 3, 5], [(1000, 1000), (2000, 2000)], []⟩ (.exit 0) (sfS s s.attrs.length)] [] [
      (!(decide (Sp.hi s = Sp.hi s) && (decide (Sp.lo s = Sp.lo s) && true))) = false,
      (Sp.id s != Sp.id s) = false,
      (Sp.par s != Sp.par s) = false,
      (!ByteArray.toList (Sp.svc s) == ByteArray.toList (Sp.svc s)) = false,
      (!ByteArray.toList (Sp.op s) == ByteArray.toList (Sp.op s)) = false,
      (Sp.start s != Sp.start s) = false,
      (Sp.dur s != Sp.dur s) = false,
      (!Sp.err s == Sp.err s) = false,
      (Int.ofNat (List.length (List.map At.row (Sp.attrs s))) != Int.ofNat (List.length (List.map At.row (Sp.attrs s)))) = false,
      LoopC Try.prog (0 : Nat) (87 : Nat) sfB { env := [((2 : Nat), V.ptr (1000 : Nat) (0 : Nat) (0 : Nat) (0 : Nat)), ((3 : Nat), V.ptr (2000 : Nat) (0 : Nat) (0 : Nat) (0 : Nat)), ((5 : Nat), I (0 : Int))], st := [((1000 : Nat), Obj.box [V.val (Value.int IntKind.u64 (Sp.hi s)), V.val (Value.int IntKind.u64 (Sp.lo s)), V.val (Value.int IntKind.u64 (Sp.id s)), V.val (Value.int IntKind.u64 (Sp.par s)), Sg (Sp.svc s), Sg (Sp.op s), I (Sp.start s), I (Sp.dur s), Bo (Sp.err s), V.sl (2 : Nat) (List.map At.row (Sp.attrs s))]), ((2000 : Nat), Obj.box [V.val (Value.int IntKind.u64 (Sp.hi s)), V.val (Value.int IntKind.u64 (Sp.lo s)), V.val (Value.int IntKind.u64 (Sp.id s)), V.val (Value.int IntKind.u64 (Sp.par s)), Sg (Sp.svc s), Sg (Sp.op s), I (Sp.start s), I (Sp.dur s), Bo (Sp.err s), V.sl (2 : Nat) (List.map At.row (Sp.attrs s))])], ids := [(1000 : Nat), (2000 : Nat)] } (Ex.exit (0 : Nat)) { env := [((2 : Nat), V.ptr (1000 : Nat) (0 : Nat) (0 : Nat) (0 : Nat)), ((3 : Nat), V.ptr (2000 : Nat) (0 : Nat) (0 : Nat) (0 : Nat)), ((5 : Nat), I (Int.ofNat (List.length (Sp.attrs s))))], st := [((1000 : Nat), Obj.box (Sp.row s)), ((2000 : Nat), Obj.box (Sp.row s))], ids := [(1000 : Nat), (2000 : Nat)] }] (by kernel_rfl)
    (by
      simp only [allP]
      and_intros <;> first
        | exact sfL s hs
        | (simp; done))

theorem cSameSpan (s : Sp) (hs : s.attrs.length ≤ 1000000) : Contract Try.prog 33 [s.v, s.v] [] (Bo true) [] := by
  exact Contract.cast (by
    first
      | rfl) (by
    first
      | rfl) (cSameSpan_0 s hs )

theorem sgG_0 (l : List Sp) (x : Sp) (i : Nat) (hx : l[i]? = some x) (hi : i < l.length) (hs : l.length ≤ 1000000) (hm : ∀ s ∈ l, s.attrs.length ≤ 1000000) : CodeC Try.prog 0 27 sgB (sgS l (i)) (Ex.normal) ({ env := [((0 : Nat), V.sl (10 : Nat) (List.map Sp.row l)), ((1 : Nat), V.sl (10 : Nat) (List.map Sp.row l)), ((5 : Nat), I (Int.ofNat (i + (1 : Nat))))], st := [], ids := [] }) :=
  runP hmix [.reg 4 [(3, [], some true)], .reg 6 [(3, [.row (Sp.row x)], none), (7, [.row (Sp.row x)], none), (8, [.call [] [] (Bo true) []], none)], .reg 5 [(1, [.be (I ((i + 1 : Nat) : Int))], none)]] ⟨[0, 1, 5], [], []⟩ [
      decide (Int.ofNat i < Int.ofNat (List.length (List.map Sp.row l))) = true,
      (0 : Int) ≤ Int.ofNat i,
      Int.ofNat i < Int.ofNat (List.length (List.map Sp.row l)),
      (List.map Sp.row l)[i]? = some (Sp.row x),
      (0 : Int) ≤ Int.ofNat i,
      Int.ofNat i < Int.ofNat (List.length (List.map Sp.row l)),
      (List.map Sp.row l)[i]? = some (Sp.row x),
      Contract Try.prog (33 : Nat) [V.agg [V.val (Value.int IntKind.u64 (Sp.hi x)), V.val (Value.int IntKind.u64 (Sp.lo x)), V.val (Value.int IntKind.u64 (Sp.id x)), V.val (Value.int IntKind.u64 (Sp.par x)), Sg (Sp.svc x), Sg (Sp.op x), I (Sp.start x), I (Sp.dur x), Bo (Sp.err x), V.sl (2 : Nat) (List.map At.row (Sp.attrs x))], V.agg [V.val (Value.int IntKind.u64 (Sp.hi x)), V.val (Value.int IntKind.u64 (Sp.lo x)), V.val (Value.int IntKind.u64 (Sp.id x)), V.val (Value.int IntKind.u64 (Sp.par x)), Sg (Sp.svc x), Sg (Sp.op x), I (Sp.start x), I (Sp.dur x), Bo (Sp.err x), V.sl (2 : Nat) (List.map At.row (Sp.attrs x))]] [] (Bo true) [],
      IntKind.wrap IntKind.i64 (Int.ofNat (i + (1 : Nat))) = Int.ofNat (i + (1 : Nat))] (by kernel_rfl)
    (by
      simp only [allP]
      and_intros <;> first
        | exact cSameSpan x (hm x (List.mem_of_getElem? hx))
        | (simp; omega)
        | (simp [hx]; done)
        | exact i64_small (by simp; omega))

theorem sgG (l : List Sp) (x : Sp) (i : Nat) (hx : l[i]? = some x) (hi : i < l.length) (hs : l.length ≤ 1000000) (hm : ∀ s ∈ l, s.attrs.length ≤ 1000000)  : CodeC Try.prog 0 27 sgB (sgS l (i)) .normal (sgS l (i + 1)) := by
  exact CodeC.cast (by
    first
      | rfl) (sgG_0 l x i hx hi hs hm )

theorem sgE_0 (l : List Sp) (i : Nat) (h : l.length ≤ i) : CodeC Try.prog 0 27 sgB (sgS l (i)) (Ex.exit (0 : Nat)) ({ env := [((0 : Nat), V.sl (10 : Nat) (List.map Sp.row l)), ((1 : Nat), V.sl (10 : Nat) (List.map Sp.row l)), ((5 : Nat), I (Int.ofNat i))], st := [], ids := [] }) :=
  runP hmix [.reg 4 [(3, [], some false)]] ⟨[0, 1, 5], [], []⟩ [
      decide (Int.ofNat i < Int.ofNat (List.length (List.map Sp.row l))) = false] (by kernel_rfl)
    (by
      simp only [allP]
      and_intros <;> first
        | (simp; omega))

theorem sgE (l : List Sp) (i : Nat) (h : l.length ≤ i)  : CodeC Try.prog 0 27 sgB (sgS l (i)) (.exit 0) (sgS l (i)) := by
  exact CodeC.cast (by
    first
      | rfl) (sgE_0 l i h )

theorem sgL (l : List Sp) (hs : l.length ≤ 1000000) (hm : ∀ s ∈ l, s.attrs.length ≤ 1000000) : LoopC Try.prog 0 27 sgB (sgS l (0)) (.exit 0) (sgS l (l.length)) :=
  LoopC.pass l (fun i => sgS l (i)) (by simp) (fun i x hx hi => sgG l x i hx hi hs hm) (sgE l _ (Nat.le_refl _))

theorem cSameSpans_0 (l : List Sp) (hs : l.length ≤ 1000000) (hm : ∀ s ∈ l, s.attrs.length ≤ 1000000) : Contract Try.prog 26 [.sl 10 (l.map Sp.row), .sl 10 (l.map Sp.row)] [] (Bo true) ([]) :=
  vcP hmix [.reg 1 [(4, [], some false)], .cut ⟨[0, 1, 5], [], []⟩ (.exit 0) (sgS l l.length)] [] [
      (Int.ofNat (List.length (List.map Sp.row l)) != Int.ofNat (List.length (List.map Sp.row l))) = false,
      LoopC Try.prog (0 : Nat) (27 : Nat) sgB { env := [((0 : Nat), V.sl (10 : Nat) (List.map Sp.row l)), ((1 : Nat), V.sl (10 : Nat) (List.map Sp.row l)), ((5 : Nat), I (0 : Int))], st := [], ids := [] } (Ex.exit (0 : Nat)) { env := [((0 : Nat), V.sl (10 : Nat) (List.map Sp.row l)), ((1 : Nat), V.sl (10 : Nat) (List.map Sp.row l)), ((5 : Nat), I (Int.ofNat (List.length l)))], st := [], ids := [] }] (by kernel_rfl)
    (by
      simp only [allP]
      and_intros <;> first
        | exact sgL l hs hm
        | (simp; done))

theorem cSameSpans (l : List Sp) (hs : l.length ≤ 1000000) (hm : ∀ s ∈ l, s.attrs.length ≤ 1000000) : Contract Try.prog 26 [.sl 10 (l.map Sp.row), .sl 10 (l.map Sp.row)] [] (Bo true) [] := by
  exact Contract.cast (by
    first
      | rfl) (by
    first
      | rfl) (cSameSpans_0 l hs hm )

noncomputable def shB : Code := codeAt Try.prog 16 [true, true, false, true, false, false]

def okE (e : Ep) : Prop := e.spans.length ≤ 1000000 ∧ ∀ s ∈ e.spans, s.attrs.length ≤ 1000000
theorem shG_0 (l : List Ep) (x : Ep) (i : Nat) (hx : l[i]? = some x) (hi : i < l.length) (hs : l.length ≤ 1000000) (hm : ∀ e ∈ l, okE e) : CodeC Try.prog 0 81 shB (shS l (i)) (Ex.normal) ({ env := [((0 : Nat), V.sl (6 : Nat) (List.map Ep.row l)), ((1 : Nat), V.sl (6 : Nat) (List.map Ep.row l)), ((5 : Nat), I (Int.ofNat (i + (1 : Nat))))], st := [], ids := [] }) :=
  runP hmix [.reg 4 [(3, [], some true)], .reg 6 [(4, [.row (Ep.row x)], none), (9, [.row (Ep.row x)], none), (10, [], some false), (16, [.row (Ep.row x)], none), (21, [.row (Ep.row x)], none), (22, [], some false), (29, [.row (Ep.row x)], none), (34, [.row (Ep.row x)], none), (35, [], some false), (42, [.row (Ep.row x)], none), (47, [.row (Ep.row x)], none), (48, [], some false), (55, [.row (Ep.row x)], none), (60, [.row (Ep.row x)], none), (61, [.call [] [] (Bo true) []], none)], .reg 5 [(1, [.be (I ((i + 1 : Nat) : Int))], none)]] ⟨[0, 1, 5], [], []⟩ [
      decide (Int.ofNat i < Int.ofNat (List.length (List.map Ep.row l))) = true,
      (0 : Int) ≤ Int.ofNat i,
      Int.ofNat i < Int.ofNat (List.length (List.map Ep.row l)),
      (List.map Ep.row l)[i]? = some (Ep.row x),
      (0 : Int) ≤ Int.ofNat i,
      Int.ofNat i < Int.ofNat (List.length (List.map Ep.row l)),
      (List.map Ep.row l)[i]? = some (Ep.row x),
      (!(decide (Ep.hi x = Ep.hi x) && (decide (Ep.lo x = Ep.lo x) && true))) = false,
      (0 : Int) ≤ Int.ofNat i,
      Int.ofNat i < Int.ofNat (List.length (List.map Ep.row l)),
      (List.map Ep.row l)[i]? = some (Ep.row x),
      (0 : Int) ≤ Int.ofNat i,
      Int.ofNat i < Int.ofNat (List.length (List.map Ep.row l)),
      (List.map Ep.row l)[i]? = some (Ep.row x),
      (Ep.first x != Ep.first x) = false,
      (0 : Int) ≤ Int.ofNat i,
      Int.ofNat i < Int.ofNat (List.length (List.map Ep.row l)),
      (List.map Ep.row l)[i]? = some (Ep.row x),
      (0 : Int) ≤ Int.ofNat i,
      Int.ofNat i < Int.ofNat (List.length (List.map Ep.row l)),
      (List.map Ep.row l)[i]? = some (Ep.row x),
      (Ep.last x != Ep.last x) = false,
      (0 : Int) ≤ Int.ofNat i,
      Int.ofNat i < Int.ofNat (List.length (List.map Ep.row l)),
      (List.map Ep.row l)[i]? = some (Ep.row x),
      (0 : Int) ≤ Int.ofNat i,
      Int.ofNat i < Int.ofNat (List.length (List.map Ep.row l)),
      (List.map Ep.row l)[i]? = some (Ep.row x),
      (!Ep.sure x == Ep.sure x) = false,
      (0 : Int) ≤ Int.ofNat i,
      Int.ofNat i < Int.ofNat (List.length (List.map Ep.row l)),
      (List.map Ep.row l)[i]? = some (Ep.row x),
      (0 : Int) ≤ Int.ofNat i,
      Int.ofNat i < Int.ofNat (List.length (List.map Ep.row l)),
      (List.map Ep.row l)[i]? = some (Ep.row x),
      Contract Try.prog (26 : Nat) [V.sl (10 : Nat) (List.map Sp.row (Ep.spans x)), V.sl (10 : Nat) (List.map Sp.row (Ep.spans x))] [] (Bo true) [],
      IntKind.wrap IntKind.i64 (Int.ofNat (i + (1 : Nat))) = Int.ofNat (i + (1 : Nat))] (by kernel_rfl)
    (by
      simp only [allP]
      and_intros <;> first
        | exact cSameSpans _ (hm x (List.mem_of_getElem? hx)).1 (hm x (List.mem_of_getElem? hx)).2
        | (simp; omega)
        | (simp [hx]; done)
        | exact i64_small (by simp; omega))

theorem shG (l : List Ep) (x : Ep) (i : Nat) (hx : l[i]? = some x) (hi : i < l.length) (hs : l.length ≤ 1000000) (hm : ∀ e ∈ l, okE e)  : CodeC Try.prog 0 81 shB (shS l (i)) .normal (shS l (i + 1)) := by
  exact CodeC.cast (by
    first
      | rfl) (shG_0 l x i hx hi hs hm )

theorem shE_0 (l : List Ep) (i : Nat) (h : l.length ≤ i) : CodeC Try.prog 0 81 shB (shS l (i)) (Ex.exit (0 : Nat)) ({ env := [((0 : Nat), V.sl (6 : Nat) (List.map Ep.row l)), ((1 : Nat), V.sl (6 : Nat) (List.map Ep.row l)), ((5 : Nat), I (Int.ofNat i))], st := [], ids := [] }) :=
  runP hmix [.reg 4 [(3, [], some false)]] ⟨[0, 1, 5], [], []⟩ [
      decide (Int.ofNat i < Int.ofNat (List.length (List.map Ep.row l))) = false] (by kernel_rfl)
    (by
      simp only [allP]
      and_intros <;> first
        | (simp; omega))

theorem shE (l : List Ep) (i : Nat) (h : l.length ≤ i)  : CodeC Try.prog 0 81 shB (shS l (i)) (.exit 0) (shS l (i)) := by
  exact CodeC.cast (by
    first
      | rfl) (shE_0 l i h )

theorem shL (l : List Ep) (hs : l.length ≤ 1000000) (hm : ∀ e ∈ l, okE e) : LoopC Try.prog 0 81 shB (shS l (0)) (.exit 0) (shS l (l.length)) :=
  LoopC.pass l (fun i => shS l (i)) (by simp) (fun i x hx hi => shG l x i hx hi hs hm) (shE l _ (Nat.le_refl _))

theorem cSameEps_0 (l : List Ep) (hs : l.length ≤ 1000000) (hm : ∀ e ∈ l, okE e) : Contract Try.prog 16 [.sl 6 (l.map Ep.row), .sl 6 (l.map Ep.row)] [] (Bo true) ([]) :=
  vcP hmix [.reg 1 [(4, [], some false)], .cut ⟨[0, 1, 5], [], []⟩ (.exit 0) (shS l l.length)] [] [
      (Int.ofNat (List.length (List.map Ep.row l)) != Int.ofNat (List.length (List.map Ep.row l))) = false,
      LoopC Try.prog (0 : Nat) (81 : Nat) shB { env := [((0 : Nat), V.sl (6 : Nat) (List.map Ep.row l)), ((1 : Nat), V.sl (6 : Nat) (List.map Ep.row l)), ((5 : Nat), I (0 : Int))], st := [], ids := [] } (Ex.exit (0 : Nat)) { env := [((0 : Nat), V.sl (6 : Nat) (List.map Ep.row l)), ((1 : Nat), V.sl (6 : Nat) (List.map Ep.row l)), ((5 : Nat), I (Int.ofNat (List.length l)))], st := [], ids := [] }] (by kernel_rfl)
    (by
      simp only [allP]
      and_intros <;> first
        | exact shL l hs hm
        | (simp; done))

theorem cSameEps (l : List Ep) (hs : l.length ≤ 1000000) (hm : ∀ e ∈ l, okE e) : Contract Try.prog 16 [.sl 6 (l.map Ep.row), .sl 6 (l.map Ep.row)] [] (Bo true) [] := by
  exact Contract.cast (by
    first
      | rfl) (by
    first
      | rfl) (cSameEps_0 l hs hm )

theorem cSameBlock_0 (b : Bk) (hs : b.eps.length ≤ 1000000) (hm : ∀ e ∈ b.eps, okE e) : Contract Try.prog 11 [b.v, b.v] [] (Bo true) ([]) :=
  vcP hmix [.reg 1 [(4, [], some true), (10, [], some true), (17, [], some true), (24, [.call [] [] (Bo true) []], none)]] [] [
      (Bk.num b == Bk.num b) = true,
      (Bk.born b == Bk.born b) = true,
      (Bk.tier b == Bk.tier b) = true,
      Contract Try.prog (16 : Nat) [V.sl (6 : Nat) (List.map Ep.row (Bk.eps b)), V.sl (6 : Nat) (List.map Ep.row (Bk.eps b))] [] (Bo true) []] (by kernel_rfl)
    (by
      simp only [allP]
      and_intros <;> first
        | exact cSameEps _ hs hm
        | (simp; done))

theorem cSameBlock (b : Bk) (hs : b.eps.length ≤ 1000000) (hm : ∀ e ∈ b.eps, okE e) : Contract Try.prog 11 [b.v, b.v] [] (Bo true) [] := by
  exact Contract.cast (by
    first
      | rfl) (by
    first
      | rfl) (cSameBlock_0 b hs hm )

end Go.Proofs.Ytfpdlamjlbpmkaa

/- merge: the example. -/
namespace Go.Proofs.Ytfpdlamjlbpmkaa
open E
set_option maxRecDepth 100000
set_option linter.unusedVariables false
set_option linter.unusedSimpArgs false


theorem pick_ex : pickM [⟨0, 0, 1, []⟩, ⟨0, 0, 0, []⟩, ⟨0, 0, 1, []⟩] = (true, 0, 2) := by decide
theorem cAlive_0   : Contract Try.prog 7 [] [] (Bo true) ([]) :=
  vcP hmix [.reg 1 [(0, [.call [] [] (.tup [I 0, I 0, Bo false]) []], none)], .reg 2 [(4, [.call [] [] (.tup [I 0, I 2, Bo true]) []], none)]] [] [
      Contract Try.prog (9 : Nat) [V.sl (4 : Nat) []] [] (V.tup [I (0 : Int), I (0 : Int), Bo false]) [],
      Contract Try.prog (9 : Nat) [V.sl (4 : Nat) [[I (0 : Int), I (0 : Int), I (1 : Int), V.sl (6 : Nat) []], [I (0 : Int), I (0 : Int), I (0 : Int), V.sl (6 : Nat) []], [I (0 : Int), I (0 : Int), I (1 : Int), V.sl (6 : Nat) []]]] [] (V.tup [I (0 : Int), I (2 : Int), Bo true]) [],
      true = true] (by kernel_rfl)
    (by
      simp only [allP]
      and_intros <;> first
        | exact cPick [] (by simp)
        | (have q := cPick [⟨0, 0, 1, []⟩, ⟨0, 0, 0, []⟩, ⟨0, 0, 1, []⟩] (by simp); rw [pick_ex] at q; exact q)
        | (simp; done))

theorem cAlive   : Contract Try.prog 7 [] [] (Bo true) [] := by
  exact Contract.cast (by
    first
      | rfl) (by
    first
      | rfl) (cAlive_0   )

end Go.Proofs.Ytfpdlamjlbpmkaa

/- merge: what is small enough, and what two blocks together are. -/
namespace Go.Proofs.Ytfpdlamjlbpmkaa
open E
set_option maxRecDepth 100000
set_option linter.unusedVariables false
set_option linter.unusedSimpArgs false


theorem fewE_sm {e : Ep} (h : fewAll e.spans = true) : smE e ∧ okE e := by
  obtain ⟨h1, h2⟩ := fewAll_len h
  exact ⟨⟨by omega, fun s hs => by have := h2 s hs; unfold smS; omega⟩, ⟨by omega, fun s hs => by have := h2 s hs; omega⟩⟩
theorem few19_of {l : List Bk} (h : few19 l = true) : l.length ≤ 12 ∧ ∀ b ∈ l, b.eps.length ≤ 120 ∧ ∀ e ∈ b.eps, fewAll e.spans = true := by
  unfold few19 at h
  simp only [Bool.and_eq_true, decide_eq_true_eq] at h
  obtain ⟨h1, h2⟩ := h
  obtain ⟨k1, k2, _⟩ := few15_of _ _ h2
  have hl : l.length ≤ 12 := by omega
  have ht : l.take 20 = l := List.take_of_length_le (by omega)
  unfold allE at k1 k2
  rw [ht] at k1 k2
  refine ⟨hl, fun b hb => ⟨?_, fun e he => k2 e (List.mem_flatMap.2 ⟨b, hb, he⟩)⟩⟩
  have : b.eps.length ≤ (l.flatMap fun b => b.eps).length := by
    obtain ⟨s, t, rfl⟩ := List.append_of_mem hb
    simp
    omega
  simp only [Nat.zero_add] at k1
  exact Nat.le_trans this k1
theorem join_few {a b : Bk} {n : Int} (ha : ∀ e ∈ a.eps, fewAll e.spans = true) (hb : ∀ e ∈ b.eps, fewAll e.spans = true) : ∀ e ∈ (joinM a b n).eps, fewAll e.spans = true := by
  intro e he
  have := srt_mem _ e (show e ∈ srt soLt (a.eps ++ b.eps) from he)
  rcases List.mem_append.1 this with h | h
  · exact ha e h
  · exact hb e h
theorem join_len (a b : Bk) (n : Int) : (joinM a b n).eps.length = a.eps.length + b.eps.length := by
  show (srt soLt (a.eps ++ b.eps)).length = _
  rw [srt_len, List.length_append]
theorem cJoinF {a b : Bk} (n : Int) (la : a.eps.length ≤ 1000) (lb : b.eps.length ≤ 1000) (ha : ∀ e ∈ a.eps, fewAll e.spans = true) (hb : ∀ e ∈ b.eps, fewAll e.spans = true) : Contract Try.prog 12 [a.v, b.v, I n] [] (Bk.v (joinM a b n)) [] :=
  cJoin a b n (by omega) (by omega) fun e he => by
    rcases List.mem_append.1 he with h | h
    · exact (fewE_sm (ha e h)).1
    · exact (fewE_sm (hb e h)).1
theorem maxI_assoc (a b c : Int) : maxI (maxI a b) c = maxI a (maxI b c) := by
  unfold maxI
  by_cases h1 : a ≥ b <;> by_cases h2 : b ≥ c <;> by_cases h3 : a ≥ c <;> simp [h1, h2, h3] <;> omega
theorem join3 (a b c : List Ep) : srt soLt (srt soLt (a ++ b) ++ c) = srt soLt (a ++ b ++ c) ∧ srt soLt (a ++ srt soLt (b ++ c)) = srt soLt (a ++ b ++ c) := by
  constructor
  · rw [srt_append soOrd, srt_of_sorted soOrd (srt_srt soOrd _), ← srt_append soOrd]
  · rw [srt_append soOrd, srt_of_sorted soOrd (srt_srt soOrd _), ← srt_append soOrd, List.append_assoc]
/-- What is of one trace keeps its order. -/
theorem mrg_filter {p : Ep → Bool} (hp : ∀ x y, p x = true → p y = true → soLt x y = false) : ∀ {A B : List Ep}, Srt soLt A → Srt soLt B → (mrg soLt A B).filter p = A.filter p ++ B.filter p
  | [], B, _, _ => by rw [mrg_nil_l]; simp
  | a :: A, [], _, _ => by rw [mrg_nil_r]; simp
  | a :: A, b :: B, hA, hB => by
    rw [mrg_cons]
    cases h : soLt b a with
    | false =>
      simp only [cond_false, List.filter_cons]
      rw [mrg_filter hp (List.Pairwise.of_cons hA) hB]
      cases p a <;> simp [List.filter_cons]
    | true =>
      simp only [cond_true]
      rw [List.filter_cons, mrg_filter hp hA (List.Pairwise.of_cons hB)]
      cases hb : p b with
      | false => simp [List.filter_cons, hb]
      | true =>
        have : (a :: A).filter p = [] := by
          rw [List.filter_eq_nil_iff]
          intro y hy hpy
          have h1 : soLt y a = false := by
            rcases List.mem_cons.1 hy with rfl | hy
            · exact soOrd.irrefl _
            · exact List.rel_of_pairwise_cons hA hy
          have h2 := soOrd.lt_of_lt_le h h1
          rw [hp b y hb hpy] at h2
          cases h2
        rw [this]
        simp [List.filter_cons, hb]
theorem srt_filter {p : Ep → Bool} (hp : ∀ x y, p x = true → p y = true → soLt x y = false) (l : List Ep) : (srt soLt l).filter p = l.filter p := by
  induction l using snoc_ind with
  | h0 => rfl
  | h1 l a ih =>
    rw [srt_snoc, mrg_filter hp (srt_srt soOrd l) (List.pairwise_singleton _ _), ih, List.filter_append]
theorem eqT_no {h o : Int} (x y : Ep) (hx : eqT h o x = true) (hy : eqT h o y = true) : soLt x y = false := by
  rw [soLt_eq]
  unfold eqT at hx hy
  simp at hx hy ⊢
  omega
end Go.Proofs.Ytfpdlamjlbpmkaa

/- merge: what two blocks have, both together have. -/
namespace Go.Proofs.Ytfpdlamjlbpmkaa
open E
set_option maxRecDepth 100000
set_option linter.unusedVariables false
set_option linter.unusedSimpArgs false


theorem badB_no {b : Bk} (h : rightB b = true) : (∀ e ∈ b.eps, rightE e = true) ∧ countB b.num = true ∧ countB b.born = true ∧ countB b.tier = true := by
  unfold rightB at h
  simp only [Bool.and_eq_true] at h
  obtain ⟨h1, ⟨h2, h3⟩, h4⟩ := h
  refine ⟨fun e he => ?_, h2, h3, h4⟩
  obtain ⟨i, hi⟩ := List.getElem?_of_mem he
  have := allI_iff.1 h1 i e hi
  unfold badB at this
  simp only [Bool.or_eq_false_iff, Bool.not_eq_false'] at this
  exact this.1
theorem right_join {a b : Bk} {n : Int} (ha : rightB a = true) (hb : rightB b = true) (h0 : 0 ≤ n) (h1 : n ≤ 1099511627776) (ta : a.tier ≤ 1073741824) (tb : b.tier ≤ 1073741824) : rightB (joinM a b n) = true ∧ maxI a.tier b.tier < IntKind.i64.wrap (maxI a.tier b.tier + 1) := by
  obtain ⟨ea, na, ba, ra⟩ := badB_no ha
  obtain ⟨eb, nb, bb, rb⟩ := badB_no hb
  unfold countB withinB at na ba ra nb bb rb
  simp only [Bool.and_eq_true, decide_eq_true_eq] at na ba ra nb bb rb
  have m1 : 0 ≤ maxI a.tier b.tier ∧ maxI a.tier b.tier ≤ 1073741824 := by
    unfold maxI
    by_cases h : a.tier ≥ b.tier <;> simp [h] <;> omega
  have m2 : 0 ≤ maxI a.born b.born ∧ maxI a.born b.born ≤ 1099511627776 := by
    unfold maxI
    by_cases h : a.born ≥ b.born <;> simp [h] <;> omega
  have ht : (joinM a b n).tier = maxI a.tier b.tier + 1 := i64_small (by omega)
  refine ⟨?_, by rw [show IntKind.i64.wrap (maxI a.tier b.tier + 1) = maxI a.tier b.tier + 1 from ht]; omega⟩
  unfold rightB
  rw [ht]
  simp only [Bool.and_eq_true]
  refine ⟨allI_good fun i x hx => ?_, ⟨?_, ?_⟩, ?_⟩
  · have hs : (srt soLt (a.eps ++ b.eps))[i]? = some x := hx
    have hm := srt_mem _ x (List.mem_of_getElem? hs)
    have hr : rightE x = true := by
      rcases List.mem_append.1 hm with h | h
      · exact ea x h
      · exact eb x h
    unfold badB
    rw [hr]
    simp only [Bool.not_true, Bool.false_or, Bool.and_eq_false_iff, decide_eq_false_iff_not]
    by_cases h : 0 < i
    · right
      cases hy : (joinM a b n).eps[i - 1]? with
      | none => rfl
      | some y => exact Srt.le soOrd (srt_srt soOrd (a.eps ++ b.eps)) (show i - 1 ≤ i by omega) hy hs
    · left; exact h
  · show withinB n 0 1099511627776 = true
    unfold withinB; simp; omega
  · show withinB (maxI a.born b.born) 0 1099511627776 = true
    unfold withinB; simp; omega
  · show withinB (maxI a.tier b.tier + 1) 0 1099511627776 = true
    unfold withinB; simp; omega
theorem join_find (a b : Bk) (n h o : Int) : (joinM a b n).eps.filter (eqT h o) = a.eps.filter (eqT h o) ++ b.eps.filter (eqT h o) := by
  show (srt soLt (a.eps ++ b.eps)).filter (eqT h o) = _
  rw [srt_filter eqT_no, List.filter_append]
theorem maxI_ge (a b : Int) : a ≤ maxI a b ∧ b ≤ maxI a b ∧ (maxI a b = a ∨ maxI a b = b) := by
  unfold maxI
  by_cases h : a ≥ b <;> simp [h] <;> omega
theorem mk0__0 (a b : Bk) (n h o : Int) (la : a.eps.length ≤ 1048576) (lb : b.eps.length ≤ 1048576) (h1 : few19 [a, b] = false) : Contract Try.prog 4 [a.v, b.v, I n, .agg [U h, U o]] [] (Bo true) ([]) :=
  vcP hmix [.reg 1 [(0, [.call [] [] (Bo true) []], none)], .reg 2 [(6, [.call [] [] (Bo (few19 [a, b])) []], some false), (11, [.call [] [] (Bo (rightB a)) []], none), (16, [.call [] [] (Bo (rightB b)) []], none)]] [] [
      Contract Try.prog (7 : Nat) [] [] (Bo true) [],
      Contract Try.prog (8 : Nat) [V.sl (4 : Nat) [[I (Bk.num a), I (Bk.born a), I (Bk.tier a), V.sl (6 : Nat) (List.map Ep.row (Bk.eps a))], [I (Bk.num b), I (Bk.born b), I (Bk.tier b), V.sl (6 : Nat) (List.map Ep.row (Bk.eps b))]]] [] (Bo (few19 [a, b])) [],
      true = true,
      few19 [a, b] = false] (by kernel_rfl)
    (by
      simp only [allP]
      and_intros <;> first
        | omega
        | exact cAlive
        | exact cFew19 [a, b] (by intro x hx; rcases List.mem_cons.1 hx with rfl | hx; exact la; rcases List.mem_cons.1 hx with rfl | hx; exact lb; cases hx)
        | (simp [h1]; done))

theorem mk0_ (a b : Bk) (n h o : Int) (la : a.eps.length ≤ 1048576) (lb : b.eps.length ≤ 1048576) (h1 : few19 [a, b] = false) : Contract Try.prog 4 [a.v, b.v, I n, .agg [U h, U o]] [] (Bo true) [] := by
  exact Contract.cast (by
    first
      | rfl) (by
    first
      | rfl) (mk0__0 a b n h o la lb h1 )

theorem mk1__0 (a b : Bk) (n h o : Int) (la : a.eps.length ≤ 1048576) (lb : b.eps.length ≤ 1048576) (h1 : few19 [a, b] = true) (h2 : rightB a = false) : Contract Try.prog 4 [a.v, b.v, I n, .agg [U h, U o]] [] (Bo true) ([]) :=
  vcP hmix [.reg 1 [(0, [.call [] [] (Bo true) []], none)], .reg 2 [(6, [.call [] [] (Bo (few19 [a, b])) []], some true), (11, [.call [] [] (Bo (rightB a)) []], some false), (16, [.call [] [] (Bo (rightB b)) []], none)]] [] [
      Contract Try.prog (7 : Nat) [] [] (Bo true) [],
      Contract Try.prog (8 : Nat) [V.sl (4 : Nat) [[I (Bk.num a), I (Bk.born a), I (Bk.tier a), V.sl (6 : Nat) (List.map Ep.row (Bk.eps a))], [I (Bk.num b), I (Bk.born b), I (Bk.tier b), V.sl (6 : Nat) (List.map Ep.row (Bk.eps b))]]] [] (Bo (few19 [a, b])) [],
      true = true,
      few19 [a, b] = true,
      Contract Try.prog (14 : Nat) [V.agg [I (Bk.num a), I (Bk.born a), I (Bk.tier a), V.sl (6 : Nat) (List.map Ep.row (Bk.eps a))]] [] (Bo (rightB a)) [],
      rightB a = false] (by kernel_rfl)
    (by
      simp only [allP]
      and_intros <;> first
        | omega
        | exact cAlive
        | exact cFew19 [a, b] (by intro x hx; rcases List.mem_cons.1 hx with rfl | hx; exact la; rcases List.mem_cons.1 hx with rfl | hx; exact lb; cases hx)
        | (have q := (few19_of h1).2; have qa := q a (by simp); have qb := q b (by simp); exact cRightB a (by omega) (fun e he => by have w := fewAll_len (qa.2 e he); omega))
        | (simp [h1]; done))

theorem mk1_ (a b : Bk) (n h o : Int) (la : a.eps.length ≤ 1048576) (lb : b.eps.length ≤ 1048576) (h1 : few19 [a, b] = true) (h2 : rightB a = false) : Contract Try.prog 4 [a.v, b.v, I n, .agg [U h, U o]] [] (Bo true) [] := by
  exact Contract.cast (by
    first
      | rfl) (by
    first
      | rfl) (mk1__0 a b n h o la lb h1 h2 )

theorem mk2__0 (a b : Bk) (n h o : Int) (la : a.eps.length ≤ 1048576) (lb : b.eps.length ≤ 1048576) (h1 : few19 [a, b] = true) (h2 : rightB a = true) (h3 : rightB b = false) : Contract Try.prog 4 [a.v, b.v, I n, .agg [U h, U o]] [] (Bo true) ([]) :=
  vcP hmix [.reg 1 [(0, [.call [] [] (Bo true) []], none)], .reg 2 [(6, [.call [] [] (Bo (few19 [a, b])) []], some true), (11, [.call [] [] (Bo (rightB a)) []], some true), (16, [.call [] [] (Bo (rightB b)) []], some false)]] [] [
      Contract Try.prog (7 : Nat) [] [] (Bo true) [],
      Contract Try.prog (8 : Nat) [V.sl (4 : Nat) [[I (Bk.num a), I (Bk.born a), I (Bk.tier a), V.sl (6 : Nat) (List.map Ep.row (Bk.eps a))], [I (Bk.num b), I (Bk.born b), I (Bk.tier b), V.sl (6 : Nat) (List.map Ep.row (Bk.eps b))]]] [] (Bo (few19 [a, b])) [],
      true = true,
      few19 [a, b] = true,
      Contract Try.prog (14 : Nat) [V.agg [I (Bk.num a), I (Bk.born a), I (Bk.tier a), V.sl (6 : Nat) (List.map Ep.row (Bk.eps a))]] [] (Bo (rightB a)) [],
      rightB a = true,
      Contract Try.prog (14 : Nat) [V.agg [I (Bk.num b), I (Bk.born b), I (Bk.tier b), V.sl (6 : Nat) (List.map Ep.row (Bk.eps b))]] [] (Bo (rightB b)) [],
      rightB b = false] (by kernel_rfl)
    (by
      simp only [allP]
      and_intros <;> first
        | omega
        | exact cAlive
        | exact cFew19 [a, b] (by intro x hx; rcases List.mem_cons.1 hx with rfl | hx; exact la; rcases List.mem_cons.1 hx with rfl | hx; exact lb; cases hx)
        | (have q := (few19_of h1).2; have qa := q a (by simp); have qb := q b (by simp); exact cRightB a (by omega) (fun e he => by have w := fewAll_len (qa.2 e he); omega))
        | (have q := (few19_of h1).2; have qa := q a (by simp); have qb := q b (by simp); exact cRightB b (by omega) (fun e he => by have w := fewAll_len (qb.2 e he); omega))
        | (simp [h1]; done))

theorem mk2_ (a b : Bk) (n h o : Int) (la : a.eps.length ≤ 1048576) (lb : b.eps.length ≤ 1048576) (h1 : few19 [a, b] = true) (h2 : rightB a = true) (h3 : rightB b = false) : Contract Try.prog 4 [a.v, b.v, I n, .agg [U h, U o]] [] (Bo true) [] := by
  exact Contract.cast (by
    first
      | rfl) (by
    first
      | rfl) (mk2__0 a b n h o la lb h1 h2 h3 )

theorem mk3__0 (a b : Bk) (n h o : Int) (la : a.eps.length ≤ 1048576) (lb : b.eps.length ≤ 1048576) (h1 : few19 [a, b] = true) (h2 : rightB a = true) (h3 : rightB b = true) (h4 : n < 0) : Contract Try.prog 4 [a.v, b.v, I n, .agg [U h, U o]] [] (Bo true) ([]) :=
  vcP hmix [.reg 1 [(0, [.call [] [] (Bo true) []], none)], .reg 2 [(6, [.call [] [] (Bo (few19 [a, b])) []], some true), (11, [.call [] [] (Bo (rightB a)) []], some true), (16, [.call [] [] (Bo (rightB b)) []], some true), (21, [], some true)]] [] [
      Contract Try.prog (7 : Nat) [] [] (Bo true) [],
      Contract Try.prog (8 : Nat) [V.sl (4 : Nat) [[I (Bk.num a), I (Bk.born a), I (Bk.tier a), V.sl (6 : Nat) (List.map Ep.row (Bk.eps a))], [I (Bk.num b), I (Bk.born b), I (Bk.tier b), V.sl (6 : Nat) (List.map Ep.row (Bk.eps b))]]] [] (Bo (few19 [a, b])) [],
      true = true,
      few19 [a, b] = true,
      Contract Try.prog (14 : Nat) [V.agg [I (Bk.num a), I (Bk.born a), I (Bk.tier a), V.sl (6 : Nat) (List.map Ep.row (Bk.eps a))]] [] (Bo (rightB a)) [],
      rightB a = true,
      Contract Try.prog (14 : Nat) [V.agg [I (Bk.num b), I (Bk.born b), I (Bk.tier b), V.sl (6 : Nat) (List.map Ep.row (Bk.eps b))]] [] (Bo (rightB b)) [],
      rightB b = true,
      decide (n < (0 : Int)) = true] (by kernel_rfl)
    (by
      simp only [allP]
      and_intros <;> first
        | omega
        | exact cAlive
        | exact cFew19 [a, b] (by intro x hx; rcases List.mem_cons.1 hx with rfl | hx; exact la; rcases List.mem_cons.1 hx with rfl | hx; exact lb; cases hx)
        | (have q := (few19_of h1).2; have qa := q a (by simp); have qb := q b (by simp); exact cRightB a (by omega) (fun e he => by have w := fewAll_len (qa.2 e he); omega))
        | (have q := (few19_of h1).2; have qa := q a (by simp); have qb := q b (by simp); exact cRightB b (by omega) (fun e he => by have w := fewAll_len (qb.2 e he); omega))
        | (simp [h1]; done)
        | (simp; omega))

theorem mk3_ (a b : Bk) (n h o : Int) (la : a.eps.length ≤ 1048576) (lb : b.eps.length ≤ 1048576) (h1 : few19 [a, b] = true) (h2 : rightB a = true) (h3 : rightB b = true) (h4 : n < 0) : Contract Try.prog 4 [a.v, b.v, I n, .agg [U h, U o]] [] (Bo true) [] := by
  exact Contract.cast (by
    first
      | rfl) (by
    first
      | rfl) (mk3__0 a b n h o la lb h1 h2 h3 h4 )

theorem mk4__0 (a b : Bk) (n h o : Int) (la : a.eps.length ≤ 1048576) (lb : b.eps.length ≤ 1048576) (h1 : few19 [a, b] = true) (h2 : rightB a = true) (h3 : rightB b = true) (h4 : 0 ≤ n) (h5 : 1099511627776 < n) : Contract Try.prog 4 [a.v, b.v, I n, .agg [U h, U o]] [] (Bo true) ([]) :=
  vcP hmix [.reg 1 [(0, [.call [] [] (Bo true) []], none)], .reg 2 [(6, [.call [] [] (Bo (few19 [a, b])) []], some true), (11, [.call [] [] (Bo (rightB a)) []], some true), (16, [.call [] [] (Bo (rightB b)) []], some true), (21, [], some false), (25, [], some true)]] [] [
      Contract Try.prog (7 : Nat) [] [] (Bo true) [],
      Contract Try.prog (8 : Nat) [V.sl (4 : Nat) [[I (Bk.num a), I (Bk.born a), I (Bk.tier a), V.sl (6 : Nat) (List.map Ep.row (Bk.eps a))], [I (Bk.num b), I (Bk.born b), I (Bk.tier b), V.sl (6 : Nat) (List.map Ep.row (Bk.eps b))]]] [] (Bo (few19 [a, b])) [],
      true = true,
      few19 [a, b] = true,
      Contract Try.prog (14 : Nat) [V.agg [I (Bk.num a), I (Bk.born a), I (Bk.tier a), V.sl (6 : Nat) (List.map Ep.row (Bk.eps a))]] [] (Bo (rightB a)) [],
      rightB a = true,
      Contract Try.prog (14 : Nat) [V.agg [I (Bk.num b), I (Bk.born b), I (Bk.tier b), V.sl (6 : Nat) (List.map Ep.row (Bk.eps b))]] [] (Bo (rightB b)) [],
      rightB b = true,
      decide (n < (0 : Int)) = false,
      decide (n > (1099511627776 : Int)) = true] (by kernel_rfl)
    (by
      simp only [allP]
      and_intros <;> first
        | omega
        | exact cAlive
        | exact cFew19 [a, b] (by intro x hx; rcases List.mem_cons.1 hx with rfl | hx; exact la; rcases List.mem_cons.1 hx with rfl | hx; exact lb; cases hx)
        | (have q := (few19_of h1).2; have qa := q a (by simp); have qb := q b (by simp); exact cRightB a (by omega) (fun e he => by have w := fewAll_len (qa.2 e he); omega))
        | (have q := (few19_of h1).2; have qa := q a (by simp); have qb := q b (by simp); exact cRightB b (by omega) (fun e he => by have w := fewAll_len (qb.2 e he); omega))
        | (simp [h1]; done)
        | (simp; omega))

theorem mk4_ (a b : Bk) (n h o : Int) (la : a.eps.length ≤ 1048576) (lb : b.eps.length ≤ 1048576) (h1 : few19 [a, b] = true) (h2 : rightB a = true) (h3 : rightB b = true) (h4 : 0 ≤ n) (h5 : 1099511627776 < n) : Contract Try.prog 4 [a.v, b.v, I n, .agg [U h, U o]] [] (Bo true) [] := by
  exact Contract.cast (by
    first
      | rfl) (by
    first
      | rfl) (mk4__0 a b n h o la lb h1 h2 h3 h4 h5 )

theorem mk5__0 (a b : Bk) (n h o : Int) (la : a.eps.length ≤ 1048576) (lb : b.eps.length ≤ 1048576) (h1 : few19 [a, b] = true) (h2 : rightB a = true) (h3 : rightB b = true) (h4 : 0 ≤ n) (h5 : n ≤ 1099511627776) (h6 : 1073741824 < a.tier) : Contract Try.prog 4 [a.v, b.v, I n, .agg [U h, U o]] [] (Bo true) ([]) :=
  vcP hmix [.reg 1 [(0, [.call [] [] (Bo true) []], none)], .reg 2 [(6, [.call [] [] (Bo (few19 [a, b])) []], some true), (11, [.call [] [] (Bo (rightB a)) []], some true), (16, [.call [] [] (Bo (rightB b)) []], some true), (21, [], some false), (25, [], some false), (30, [], some true)]] [] [
      Contract Try.prog (7 : Nat) [] [] (Bo true) [],
      Contract Try.prog (8 : Nat) [V.sl (4 : Nat) [[I (Bk.num a), I (Bk.born a), I (Bk.tier a), V.sl (6 : Nat) (List.map Ep.row (Bk.eps a))], [I (Bk.num b), I (Bk.born b), I (Bk.tier b), V.sl (6 : Nat) (List.map Ep.row (Bk.eps b))]]] [] (Bo (few19 [a, b])) [],
      true = true,
      few19 [a, b] = true,
      Contract Try.prog (14 : Nat) [V.agg [I (Bk.num a), I (Bk.born a), I (Bk.tier a), V.sl (6 : Nat) (List.map Ep.row (Bk.eps a))]] [] (Bo (rightB a)) [],
      rightB a = true,
      Contract Try.prog (14 : Nat) [V.agg [I (Bk.num b), I (Bk.born b), I (Bk.tier b), V.sl (6 : Nat) (List.map Ep.row (Bk.eps b))]] [] (Bo (rightB b)) [],
      rightB b = true,
      decide (n < (0 : Int)) = false,
      decide (n > (1099511627776 : Int)) = false,
      decide (Bk.tier a > (1073741824 : Int)) = true] (by kernel_rfl)
    (by
      simp only [allP]
      and_intros <;> first
        | omega
        | exact cAlive
        | exact cFew19 [a, b] (by intro x hx; rcases List.mem_cons.1 hx with rfl | hx; exact la; rcases List.mem_cons.1 hx with rfl | hx; exact lb; cases hx)
        | (have q := (few19_of h1).2; have qa := q a (by simp); have qb := q b (by simp); exact cRightB a (by omega) (fun e he => by have w := fewAll_len (qa.2 e he); omega))
        | (have q := (few19_of h1).2; have qa := q a (by simp); have qb := q b (by simp); exact cRightB b (by omega) (fun e he => by have w := fewAll_len (qb.2 e he); omega))
        | (simp [h1]; done)
        | (simp; omega))

theorem mk5_ (a b : Bk) (n h o : Int) (la : a.eps.length ≤ 1048576) (lb : b.eps.length ≤ 1048576) (h1 : few19 [a, b] = true) (h2 : rightB a = true) (h3 : rightB b = true) (h4 : 0 ≤ n) (h5 : n ≤ 1099511627776) (h6 : 1073741824 < a.tier) : Contract Try.prog 4 [a.v, b.v, I n, .agg [U h, U o]] [] (Bo true) [] := by
  exact Contract.cast (by
    first
      | rfl) (by
    first
      | rfl) (mk5__0 a b n h o la lb h1 h2 h3 h4 h5 h6 )

theorem mk6__0 (a b : Bk) (n h o : Int) (la : a.eps.length ≤ 1048576) (lb : b.eps.length ≤ 1048576) (h1 : few19 [a, b] = true) (h2 : rightB a = true) (h3 : rightB b = true) (h4 : 0 ≤ n) (h5 : n ≤ 1099511627776) (h6 : a.tier ≤ 1073741824) (h7 : 1073741824 < b.tier) : Contract Try.prog 4 [a.v, b.v, I n, .agg [U h, U o]] [] (Bo true) ([]) :=
  vcP hmix [.reg 1 [(0, [.call [] [] (Bo true) []], none)], .reg 2 [(6, [.call [] [] (Bo (few19 [a, b])) []], some true), (11, [.call [] [] (Bo (rightB a)) []], some true), (16, [.call [] [] (Bo (rightB b)) []], some true), (21, [], some false), (25, [], some false), (30, [], some false), (35, [], some true)]] [] [
      Contract Try.prog (7 : Nat) [] [] (Bo true) [],
      Contract Try.prog (8 : Nat) [V.sl (4 : Nat) [[I (Bk.num a), I (Bk.born a), I (Bk.tier a), V.sl (6 : Nat) (List.map Ep.row (Bk.eps a))], [I (Bk.num b), I (Bk.born b), I (Bk.tier b), V.sl (6 : Nat) (List.map Ep.row (Bk.eps b))]]] [] (Bo (few19 [a, b])) [],
      true = true,
      few19 [a, b] = true,
      Contract Try.prog (14 : Nat) [V.agg [I (Bk.num a), I (Bk.born a), I (Bk.tier a), V.sl (6 : Nat) (List.map Ep.row (Bk.eps a))]] [] (Bo (rightB a)) [],
      rightB a = true,
      Contract Try.prog (14 : Nat) [V.agg [I (Bk.num b), I (Bk.born b), I (Bk.tier b), V.sl (6 : Nat) (List.map Ep.row (Bk.eps b))]] [] (Bo (rightB b)) [],
      rightB b = true,
      decide (n < (0 : Int)) = false,
      decide (n > (1099511627776 : Int)) = false,
      decide (Bk.tier a > (1073741824 : Int)) = false,
      decide (Bk.tier b > (1073741824 : Int)) = true] (by kernel_rfl)
    (by
      simp only [allP]
      and_intros <;> first
        | omega
        | exact cAlive
        | exact cFew19 [a, b] (by intro x hx; rcases List.mem_cons.1 hx with rfl | hx; exact la; rcases List.mem_cons.1 hx with rfl | hx; exact lb; cases hx)
        | (have q := (few19_of h1).2; have qa := q a (by simp); have qb := q b (by simp); exact cRightB a (by omega) (fun e he => by have w := fewAll_len (qa.2 e he); omega))
        | (have q := (few19_of h1).2; have qa := q a (by simp); have qb := q b (by simp); exact cRightB b (by omega) (fun e he => by have w := fewAll_len (qb.2 e he); omega))
        | (simp [h1]; done)
        | (simp; omega))

theorem mk6_ (a b : Bk) (n h o : Int) (la : a.eps.length ≤ 1048576) (lb : b.eps.length ≤ 1048576) (h1 : few19 [a, b] = true) (h2 : rightB a = true) (h3 : rightB b = true) (h4 : 0 ≤ n) (h5 : n ≤ 1099511627776) (h6 : a.tier ≤ 1073741824) (h7 : 1073741824 < b.tier) : Contract Try.prog 4 [a.v, b.v, I n, .agg [U h, U o]] [] (Bo true) [] := by
  exact Contract.cast (by
    first
      | rfl) (by
    first
      | rfl) (mk6__0 a b n h o la lb h1 h2 h3 h4 h5 h6 h7 )

theorem mkZ1__0 (a b : Bk) (n h o : Int) (la : a.eps.length ≤ 1048576) (lb : b.eps.length ≤ 1048576) (h1 : few19 [a, b] = true) (h2 : rightB a = true) (h3 : rightB b = true) (h4 : 0 ≤ n) (h5 : n ≤ 1099511627776) (h6 : a.tier ≤ 1073741824) (h7 : b.tier ≤ 1073741824) (hq : maxI a.born b.born = a.born) (r1 : rightB (joinM a b n) = true) (r2 : maxI a.tier b.tier < IntKind.i64.wrap (maxI a.tier b.tier + 1)) : Contract Try.prog 4 [a.v, b.v, I n, .agg [U h, U o]] [] (Bo true) ([]) :=
  vcP hmix [.reg 1 [(0, [.call [] [] (Bo true) []], none)], .reg 2 [(6, [.call [] [] (Bo (few19 [a, b])) []], some true), (11, [.call [] [] (Bo (rightB a)) []], some true), (16, [.call [] [] (Bo (rightB b)) []], some true), (21, [], some false), (25, [], some false), (30, [], some false), (35, [], some false)], .reg 4 [(3, [.call [] [] (Bk.v (joinM a b n)) []], none)], .reg 5 [(2, [.call [] [] (.sl 6 ((a.eps.filter (eqT h o)).map Ep.row)) []], none), (6, [.call [] [] (.sl 6 ((b.eps.filter (eqT h o)).map Ep.row)) []], none), (7, [.beO ((a.eps.filter (eqT h o) ++ b.eps.filter (eqT h o)).map Ep.row)], none)], .reg 6 [(1, [.call [] [] (Bo true) []], none), (5, [.call [] [] (.sl 6 ((a.eps.filter (eqT h o) ++ b.eps.filter (eqT h o)).map Ep.row)) []], none), (7, [.call [] [] (Bo true) []], none), (13, [], some true), (20, [], some true), (27, [], some true), (34, [], some true), (48, [], some true), (55, [], some true), (68, [], some true)]] [] [
      Contract Try.prog (7 : Nat) [] [] (Bo true) [],
      Contract Try.prog (8 : Nat) [V.sl (4 : Nat) [[I (Bk.num a), I (Bk.born a), I (Bk.tier a), V.sl (6 : Nat) (List.map Ep.row (Bk.eps a))], [I (Bk.num b), I (Bk.born b), I (Bk.tier b), V.sl (6 : Nat) (List.map Ep.row (Bk.eps b))]]] [] (Bo (few19 [a, b])) [],
      true = true,
      few19 [a, b] = true,
      Contract Try.prog (14 : Nat) [V.agg [I (Bk.num a), I (Bk.born a), I (Bk.tier a), V.sl (6 : Nat) (List.map Ep.row (Bk.eps a))]] [] (Bo (rightB a)) [],
      rightB a = true,
      Contract Try.prog (14 : Nat) [V.agg [I (Bk.num b), I (Bk.born b), I (Bk.tier b), V.sl (6 : Nat) (List.map Ep.row (Bk.eps b))]] [] (Bo (rightB b)) [],
      rightB b = true,
      decide (n < (0 : Int)) = false,
      decide (n > (1099511627776 : Int)) = false,
      decide (Bk.tier a > (1073741824 : Int)) = false,
      decide (Bk.tier b > (1073741824 : Int)) = false,
      Contract Try.prog (12 : Nat) [V.agg [I (Bk.num a), I (Bk.born a), I (Bk.tier a), V.sl (6 : Nat) (List.map Ep.row (Bk.eps a))], V.agg [I (Bk.num b), I (Bk.born b), I (Bk.tier b), V.sl (6 : Nat) (List.map Ep.row (Bk.eps b))], I n] [] (V.agg (Bk.row (joinM a b n))) [],
      Contract Try.prog (15 : Nat) [V.agg [I (Bk.num a), I (Bk.born a), I (Bk.tier a), V.sl (6 : Nat) (List.map Ep.row (Bk.eps a))], V.agg [V.val (Value.int IntKind.u64 h), V.val (Value.int IntKind.u64 o)]] [] (V.sl (6 : Nat) (List.map Ep.row (List.filter (eqT h o) (Bk.eps a)))) [],
      List.length (List.map Ep.row (List.filter (eqT h o) (Bk.eps a))) * (64 : Nat) ≤ (140737488355328 : Nat),
      Contract Try.prog (15 : Nat) [V.agg [I (Bk.num b), I (Bk.born b), I (Bk.tier b), V.sl (6 : Nat) (List.map Ep.row (Bk.eps b))], V.agg [V.val (Value.int IntKind.u64 h), V.val (Value.int IntKind.u64 o)]] [] (V.sl (6 : Nat) (List.map Ep.row (List.filter (eqT h o) (Bk.eps b)))) [],
      (List.length (List.map Ep.row (List.filter (eqT h o) (Bk.eps a))) + List.length (List.map Ep.row (List.filter (eqT h o) (Bk.eps b)))) * (64 : Nat) ≤ (140737488355328 : Nat),
      List.map Ep.row (List.filter (eqT h o) (Bk.eps a)) ++ List.map Ep.row (List.filter (eqT h o) (Bk.eps b)) = List.map Ep.row (List.filter (eqT h o) (Bk.eps a) ++ List.filter (eqT h o) (Bk.eps b)),
      Contract Try.prog (14 : Nat) [V.agg [I n, I (maxI (Bk.born a) (Bk.born b)), I (IntKind.wrap IntKind.i64 (maxI (Bk.tier a) (Bk.tier b) + (1 : Int))), V.sl (6 : Nat) (List.map Ep.row (srt soLt (Bk.eps a ++ Bk.eps b)))]] [] (Bo true) [],
      Contract Try.prog (15 : Nat) [V.agg [I n, I (maxI (Bk.born a) (Bk.born b)), I (IntKind.wrap IntKind.i64 (maxI (Bk.tier a) (Bk.tier b) + (1 : Int))), V.sl (6 : Nat) (List.map Ep.row (srt soLt (Bk.eps a ++ Bk.eps b)))], V.agg [V.val (Value.int IntKind.u64 h), V.val (Value.int IntKind.u64 o)]] [] (V.sl (6 : Nat) (List.map Ep.row (List.filter (eqT h o) (Bk.eps a) ++ List.filter (eqT h o) (Bk.eps b)))) [],
      Contract Try.prog (16 : Nat) [V.sl (6 : Nat) (List.map Ep.row (List.filter (eqT h o) (Bk.eps a) ++ List.filter (eqT h o) (Bk.eps b))), V.sl (6 : Nat) (List.map Ep.row (List.filter (eqT h o) (Bk.eps a) ++ List.filter (eqT h o) (Bk.eps b)))] [] (Bo true) [],
      true = true,
      (n == n) = true,
      decide (maxI (Bk.born a) (Bk.born b) ≥ Bk.born a) = true,
      decide (maxI (Bk.born a) (Bk.born b) ≥ Bk.born b) = true,
      (maxI (Bk.born a) (Bk.born b) == Bk.born a) = true,
      decide (IntKind.wrap IntKind.i64 (maxI (Bk.tier a) (Bk.tier b) + (1 : Int)) > Bk.tier a) = true,
      decide (IntKind.wrap IntKind.i64 (maxI (Bk.tier a) (Bk.tier b) + (1 : Int)) > Bk.tier b) = true,
      (Int.ofNat (List.length (List.map Ep.row (srt soLt (Bk.eps a ++ Bk.eps b)))) == IntKind.wrap IntKind.i64 (Int.ofNat (List.length (List.map Ep.row (Bk.eps a)) + List.length (List.map Ep.row (Bk.eps b))))) = true] (by kernel_rfl)
    (by
      simp only [allP]
      and_intros <;> first
        | omega
        | exact cAlive
        | exact cFew19 [a, b] (by intro x hx; rcases List.mem_cons.1 hx with rfl | hx; exact la; rcases List.mem_cons.1 hx with rfl | hx; exact lb; cases hx)
        | (have q := (few19_of h1).2; have qa := q a (by simp); have qb := q b (by simp); exact cRightB a (by omega) (fun e he => by have w := fewAll_len (qa.2 e he); omega))
        | (have q := (few19_of h1).2; have qa := q a (by simp); have qb := q b (by simp); exact cRightB b (by omega) (fun e he => by have w := fewAll_len (qb.2 e he); omega))
        | (simp [h1]; done)
        | (simp; omega)
        | (have q := (few19_of h1).2; have qa := q a (by simp); have qb := q b (by simp); exact cJoinF n (by omega) (by omega) qa.2 qb.2)
        | (have q := (few19_of h1).2; have qa := q a (by simp); have qb := q b (by simp); exact cFindR a h o (by omega))
        | (have q := (few19_of h1).2; have qa := q a (by simp); have qb := q b (by simp); exact cFindR b h o (by omega))
        | (have q := (few19_of h1).2; have qa := q a (by simp); have qb := q b (by simp); have k := cFindR (joinM a b n) h o (by rw [join_len]; omega); rw [join_find] at k; exact k)
        | (have q := (few19_of h1).2; have qa := q a (by simp); have qb := q b (by simp); have w1 := List.length_filter_le (eqT h o) a.eps; simp; omega)
        | (have q := (few19_of h1).2; have qa := q a (by simp); have qb := q b (by simp); have w1 := List.length_filter_le (eqT h o) a.eps; have w2 := List.length_filter_le (eqT h o) b.eps; simp; omega)
        | (have q := (few19_of h1).2; have qa := q a (by simp); have qb := q b (by simp); have k := cRightB (joinM a b n) (by rw [join_len]; omega) (fun e he => by have w := fewAll_len (join_few qa.2 qb.2 e he); omega); rw [r1] at k; exact k)
        | (have q := (few19_of h1).2; have qa := q a (by simp); have qb := q b (by simp); exact cSameEps _ (by have w1 := List.length_filter_le (eqT h o) a.eps; have w2 := List.length_filter_le (eqT h o) b.eps; simp; omega) fun e he => (fewE_sm (by rcases List.mem_append.1 he with h | h; exact qa.2 e (List.mem_filter.1 h).1; exact qb.2 e (List.mem_filter.1 h).1)).2)
        | (have w := maxI_ge a.born b.born; simp; omega)
        | (have w := maxI_ge a.tier b.tier; simp; omega)
        | (have q := (few19_of h1).2; have qa := q a (by simp); have qb := q b (by simp); rw [i64_small (by simp; omega)]; simp [srt_len]; done))

theorem mkZ1_ (a b : Bk) (n h o : Int) (la : a.eps.length ≤ 1048576) (lb : b.eps.length ≤ 1048576) (h1 : few19 [a, b] = true) (h2 : rightB a = true) (h3 : rightB b = true) (h4 : 0 ≤ n) (h5 : n ≤ 1099511627776) (h6 : a.tier ≤ 1073741824) (h7 : b.tier ≤ 1073741824) (hq : maxI a.born b.born = a.born) (r1 : rightB (joinM a b n) = true) (r2 : maxI a.tier b.tier < IntKind.i64.wrap (maxI a.tier b.tier + 1)) : Contract Try.prog 4 [a.v, b.v, I n, .agg [U h, U o]] [] (Bo true) [] := by
  exact Contract.cast (by
    first
      | rfl) (by
    first
      | rfl) (mkZ1__0 a b n h o la lb h1 h2 h3 h4 h5 h6 h7 hq r1 r2 )

theorem mkZ2__0 (a b : Bk) (n h o : Int) (la : a.eps.length ≤ 1048576) (lb : b.eps.length ≤ 1048576) (h1 : few19 [a, b] = true) (h2 : rightB a = true) (h3 : rightB b = true) (h4 : 0 ≤ n) (h5 : n ≤ 1099511627776) (h6 : a.tier ≤ 1073741824) (h7 : b.tier ≤ 1073741824) (hq : maxI a.born b.born ≠ a.born) (hq2 : maxI a.born b.born = b.born) (r1 : rightB (joinM a b n) = true) (r2 : maxI a.tier b.tier < IntKind.i64.wrap (maxI a.tier b.tier + 1)) : Contract Try.prog 4 [a.v, b.v, I n, .agg [U h, U o]] [] (Bo true) ([]) :=
  vcP hmix [.reg 1 [(0, [.call [] [] (Bo true) []], none)], .reg 2 [(6, [.call [] [] (Bo (few19 [a, b])) []], some true), (11, [.call [] [] (Bo (rightB a)) []], some true), (16, [.call [] [] (Bo (rightB b)) []], some true), (21, [], some false), (25, [], some false), (30, [], some false), (35, [], some false)], .reg 4 [(3, [.call [] [] (Bk.v (joinM a b n)) []], none)], .reg 5 [(2, [.call [] [] (.sl 6 ((a.eps.filter (eqT h o)).map Ep.row)) []], none), (6, [.call [] [] (.sl 6 ((b.eps.filter (eqT h o)).map Ep.row)) []], none), (7, [.beO ((a.eps.filter (eqT h o) ++ b.eps.filter (eqT h o)).map Ep.row)], none)], .reg 6 [(1, [.call [] [] (Bo true) []], none), (5, [.call [] [] (.sl 6 ((a.eps.filter (eqT h o) ++ b.eps.filter (eqT h o)).map Ep.row)) []], none), (7, [.call [] [] (Bo true) []], none), (13, [], some true), (20, [], some true), (27, [], some true), (34, [], some false), (40, [], some true), (48, [], some true), (55, [], some true), (68, [], some true)]] [] [
      Contract Try.prog (7 : Nat) [] [] (Bo true) [],
      Contract Try.prog (8 : Nat) [V.sl (4 : Nat) [[I (Bk.num a), I (Bk.born a), I (Bk.tier a), V.sl (6 : Nat) (List.map Ep.row (Bk.eps a))], [I (Bk.num b), I (Bk.born b), I (Bk.tier b), V.sl (6 : Nat) (List.map Ep.row (Bk.eps b))]]] [] (Bo (few19 [a, b])) [],
      true = true,
      few19 [a, b] = true,
      Contract Try.prog (14 : Nat) [V.agg [I (Bk.num a), I (Bk.born a), I (Bk.tier a), V.sl (6 : Nat) (List.map Ep.row (Bk.eps a))]] [] (Bo (rightB a)) [],
      rightB a = true,
      Contract Try.prog (14 : Nat) [V.agg [I (Bk.num b), I (Bk.born b), I (Bk.tier b), V.sl (6 : Nat) (List.map Ep.row (Bk.eps b))]] [] (Bo (rightB b)) [],
      rightB b = true,
      decide (n < (0 : Int)) = false,
      decide (n > (1099511627776 : Int)) = false,
      decide (Bk.tier a > (1073741824 : Int)) = false,
      decide (Bk.tier b > (1073741824 : Int)) = false,
      Contract Try.prog (12 : Nat) [V.agg [I (Bk.num a), I (Bk.born a), I (Bk.tier a), V.sl (6 : Nat) (List.map Ep.row (Bk.eps a))], V.agg [I (Bk.num b), I (Bk.born b), I (Bk.tier b), V.sl (6 : Nat) (List.map Ep.row (Bk.eps b))], I n] [] (V.agg (Bk.row (joinM a b n))) [],
      Contract Try.prog (15 : Nat) [V.agg [I (Bk.num a), I (Bk.born a), I (Bk.tier a), V.sl (6 : Nat) (List.map Ep.row (Bk.eps a))], V.agg [V.val (Value.int IntKind.u64 h), V.val (Value.int IntKind.u64 o)]] [] (V.sl (6 : Nat) (List.map Ep.row (List.filter (eqT h o) (Bk.eps a)))) [],
      List.length (List.map Ep.row (List.filter (eqT h o) (Bk.eps a))) * (64 : Nat) ≤ (140737488355328 : Nat),
      Contract Try.prog (15 : Nat) [V.agg [I (Bk.num b), I (Bk.born b), I (Bk.tier b), V.sl (6 : Nat) (List.map Ep.row (Bk.eps b))], V.agg [V.val (Value.int IntKind.u64 h), V.val (Value.int IntKind.u64 o)]] [] (V.sl (6 : Nat) (List.map Ep.row (List.filter (eqT h o) (Bk.eps b)))) [],
      (List.length (List.map Ep.row (List.filter (eqT h o) (Bk.eps a))) + List.length (List.map Ep.row (List.filter (eqT h o) (Bk.eps b)))) * (64 : Nat) ≤ (140737488355328 : Nat),
      List.map Ep.row (List.filter (eqT h o) (Bk.eps a)) ++ List.map Ep.row (List.filter (eqT h o) (Bk.eps b)) = List.map Ep.row (List.filter (eqT h o) (Bk.eps a) ++ List.filter (eqT h o) (Bk.eps b)),
      Contract Try.prog (14 : Nat) [V.agg [I n, I (maxI (Bk.born a) (Bk.born b)), I (IntKind.wrap IntKind.i64 (maxI (Bk.tier a) (Bk.tier b) + (1 : Int))), V.sl (6 : Nat) (List.map Ep.row (srt soLt (Bk.eps a ++ Bk.eps b)))]] [] (Bo true) [],
      Contract Try.prog (15 : Nat) [V.agg [I n, I (maxI (Bk.born a) (Bk.born b)), I (IntKind.wrap IntKind.i64 (maxI (Bk.tier a) (Bk.tier b) + (1 : Int))), V.sl (6 : Nat) (List.map Ep.row (srt soLt (Bk.eps a ++ Bk.eps b)))], V.agg [V.val (Value.int IntKind.u64 h), V.val (Value.int IntKind.u64 o)]] [] (V.sl (6 : Nat) (List.map Ep.row (List.filter (eqT h o) (Bk.eps a) ++ List.filter (eqT h o) (Bk.eps b)))) [],
      Contract Try.prog (16 : Nat) [V.sl (6 : Nat) (List.map Ep.row (List.filter (eqT h o) (Bk.eps a) ++ List.filter (eqT h o) (Bk.eps b))), V.sl (6 : Nat) (List.map Ep.row (List.filter (eqT h o) (Bk.eps a) ++ List.filter (eqT h o) (Bk.eps b)))] [] (Bo true) [],
      true = true,
      (n == n) = true,
      decide (maxI (Bk.born a) (Bk.born b) ≥ Bk.born a) = true,
      decide (maxI (Bk.born a) (Bk.born b) ≥ Bk.born b) = true,
      (maxI (Bk.born a) (Bk.born b) == Bk.born a) = false,
      (maxI (Bk.born a) (Bk.born b) == Bk.born b) = true,
      decide (IntKind.wrap IntKind.i64 (maxI (Bk.tier a) (Bk.tier b) + (1 : Int)) > Bk.tier a) = true,
      decide (IntKind.wrap IntKind.i64 (maxI (Bk.tier a) (Bk.tier b) + (1 : Int)) > Bk.tier b) = true,
      (Int.ofNat (List.length (List.map Ep.row (srt soLt (Bk.eps a ++ Bk.eps b)))) == IntKind.wrap IntKind.i64 (Int.ofNat (List.length (List.map Ep.row (Bk.eps a)) + List.length (List.map Ep.row (Bk.eps b))))) = true] (by kernel_rfl)
    (by
      simp only [allP]
      and_intros <;> first
        | omega
        | exact cAlive
        | exact cFew19 [a, b] (by intro x hx; rcases List.mem_cons.1 hx with rfl | hx; exact la; rcases List.mem_cons.1 hx with rfl | hx; exact lb; cases hx)
        | (have q := (few19_of h1).2; have qa := q a (by simp); have qb := q b (by simp); exact cRightB a (by omega) (fun e he => by have w := fewAll_len (qa.2 e he); omega))
        | (have q := (few19_of h1).2; have qa := q a (by simp); have qb := q b (by simp); exact cRightB b (by omega) (fun e he => by have w := fewAll_len (qb.2 e he); omega))
        | (simp [h1]; done)
        | (simp; omega)
        | (have q := (few19_of h1).2; have qa := q a (by simp); have qb := q b (by simp); exact cJoinF n (by omega) (by omega) qa.2 qb.2)
        | (have q := (few19_of h1).2; have qa := q a (by simp); have qb := q b (by simp); exact cFindR a h o (by omega))
        | (have q := (few19_of h1).2; have qa := q a (by simp); have qb := q b (by simp); exact cFindR b h o (by omega))
        | (have q := (few19_of h1).2; have qa := q a (by simp); have qb := q b (by simp); have k := cFindR (joinM a b n) h o (by rw [join_len]; omega); rw [join_find] at k; exact k)
        | (have q := (few19_of h1).2; have qa := q a (by simp); have qb := q b (by simp); have w1 := List.length_filter_le (eqT h o) a.eps; simp; omega)
        | (have q := (few19_of h1).2; have qa := q a (by simp); have qb := q b (by simp); have w1 := List.length_filter_le (eqT h o) a.eps; have w2 := List.length_filter_le (eqT h o) b.eps; simp; omega)
        | (have q := (few19_of h1).2; have qa := q a (by simp); have qb := q b (by simp); have k := cRightB (joinM a b n) (by rw [join_len]; omega) (fun e he => by have w := fewAll_len (join_few qa.2 qb.2 e he); omega); rw [r1] at k; exact k)
        | (have q := (few19_of h1).2; have qa := q a (by simp); have qb := q b (by simp); exact cSameEps _ (by have w1 := List.length_filter_le (eqT h o) a.eps; have w2 := List.length_filter_le (eqT h o) b.eps; simp; omega) fun e he => (fewE_sm (by rcases List.mem_append.1 he with h | h; exact qa.2 e (List.mem_filter.1 h).1; exact qb.2 e (List.mem_filter.1 h).1)).2)
        | (have w := maxI_ge a.born b.born; simp; omega)
        | (have w := maxI_ge a.tier b.tier; simp; omega)
        | (have q := (few19_of h1).2; have qa := q a (by simp); have qb := q b (by simp); rw [i64_small (by simp; omega)]; simp [srt_len]; done))

theorem mkZ2_ (a b : Bk) (n h o : Int) (la : a.eps.length ≤ 1048576) (lb : b.eps.length ≤ 1048576) (h1 : few19 [a, b] = true) (h2 : rightB a = true) (h3 : rightB b = true) (h4 : 0 ≤ n) (h5 : n ≤ 1099511627776) (h6 : a.tier ≤ 1073741824) (h7 : b.tier ≤ 1073741824) (hq : maxI a.born b.born ≠ a.born) (hq2 : maxI a.born b.born = b.born) (r1 : rightB (joinM a b n) = true) (r2 : maxI a.tier b.tier < IntKind.i64.wrap (maxI a.tier b.tier + 1)) : Contract Try.prog 4 [a.v, b.v, I n, .agg [U h, U o]] [] (Bo true) [] := by
  exact Contract.cast (by
    first
      | rfl) (by
    first
      | rfl) (mkZ2__0 a b n h o la lb h1 h2 h3 h4 h5 h6 h7 hq hq2 r1 r2 )

theorem cKeeps (a b : Bk) (n h o : Int) (la : a.eps.length ≤ 1048576) (lb : b.eps.length ≤ 1048576) : Contract Try.prog 4 [a.v, b.v, I n, .agg [U h, U o]] [] (Bo true) [] := by
  cases h1 : few19 [a, b] with
  | false => exact mk0_ a b n h o la lb h1
  | true =>
  cases h2 : rightB a with
  | false => exact mk1_ a b n h o la lb h1 h2
  | true =>
  cases h3 : rightB b with
  | false => exact mk2_ a b n h o la lb h1 h2 h3
  | true =>
  by_cases h4 : 0 ≤ n
  · by_cases h5 : n ≤ 1099511627776
    · by_cases h6 : a.tier ≤ 1073741824
      · by_cases h7 : b.tier ≤ 1073741824
        · obtain ⟨r1, r2⟩ := right_join h2 h3 h4 h5 h6 h7
          by_cases hq : maxI a.born b.born = a.born
          · exact mkZ1_ a b n h o la lb h1 h2 h3 h4 h5 h6 h7 hq r1 r2
          · exact mkZ2_ a b n h o la lb h1 h2 h3 h4 h5 h6 h7 hq (by have w := maxI_ge a.born b.born; omega) r1 r2
        · exact mk6_ a b n h o la lb h1 h2 h3 h4 h5 h6 (by omega)
      · exact mk5_ a b n h o la lb h1 h2 h3 h4 h5 (by omega)
    · exact mk4_ a b n h o la lb h1 h2 h3 h4 (by omega)
  · exact mk3_ a b n h o la lb h1 h2 h3 (by omega)
end Go.Proofs.Ytfpdlamjlbpmkaa

