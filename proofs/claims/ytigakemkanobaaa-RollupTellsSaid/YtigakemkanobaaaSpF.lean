/- spans: few and short. -/
import Derived.Test.YtigakemkanobaaaSpB
namespace Go.Proofs.Ytigakemkanobaaa
open E
set_option maxRecDepth 100000
set_option linter.unusedVariables false
set_option linter.unusedSimpArgs false

def longA (a : At) : Bool := decide ((a.key.size : Int) > 100) || decide ((a.val.size : Int) > 100)
def fewS (s : Sp) : Bool := !decide ((s.svc.size : Int) > 100) && !decide ((s.op.size : Int) > 100) && !decide ((s.attrs.length : Int) > 20) && s.attrs.all (fun a => !longA a)
def fewAll (l : List Sp) : Bool := !decide ((l.length : Int) > 60) && l.all fewS
def feS (s : Sp) (r : Bool) (i : Nat) : SL := ⟨[(1, .ptr 1000 0 0 0), (2, Bo r), (3, I (i : Int))], [(1000, .box s.row)], [1000]⟩
def faS (l : List Sp) (r : Bool) (i : Nat) : SL := ⟨[(0, .sl 10 (l.map Sp.row)), (2, Bo r), (3, I (i : Int))], [], []⟩
noncomputable def feB : Code := codeAt Try.prog 18 [true, true, false, true, false, false]

noncomputable def faB : Code := codeAt Try.prog 9 [true, true, false, true, false, false]

theorem fe_0 (s : Sp) (a : At) (i : Nat) (h : i < s.attrs.length) (hx : s.attrs[i]? = some a) (hs : s.attrs.length ≤ 20) (tq0 : (decide (Int.ofNat (ByteArray.size (At.key a)) > (100 : Int))) = true) : CodeC Try.prog 0 45 feB (feS s false i) (Ex.ret) ({ env := [((1 : Nat), V.ptr (1000 : Nat) (0 : Nat) (0 : Nat) (0 : Nat)), ((2 : Nat), Bo false), ((3 : Nat), I (Int.ofNat i))], st := [((1000 : Nat), Obj.box [V.val (Value.int IntKind.u64 (Sp.hi s)), V.val (Value.int IntKind.u64 (Sp.lo s)), V.val (Value.int IntKind.u64 (Sp.id s)), V.val (Value.int IntKind.u64 (Sp.par s)), Sg (Sp.svc s), Sg (Sp.op s), I (Sp.start s), I (Sp.dur s), Bo (Sp.err s), V.sl (2 : Nat) (List.map At.row (Sp.attrs s))])], ids := [(1000 : Nat)] }) :=
  runP hmix [.reg 4 [(4, [], some true)], .reg 6 [(5, [.row (At.row a)], none), (8, [], some true)]] ⟨[1, 2, 3], [(1000, 1000)], []⟩ [
      decide (Int.ofNat i < Int.ofNat (List.length (List.map At.row (Sp.attrs s)))) = true,
      (0 : Int) ≤ Int.ofNat i,
      Int.ofNat i < Int.ofNat (List.length (List.map At.row (Sp.attrs s))),
      (List.map At.row (Sp.attrs s))[i]? = some (At.row a),
      decide (Int.ofNat (ByteArray.size (At.key a)) > (100 : Int)) = true] (by kernel_rfl)
    (by
      have d0 := tq0
      try simp only [Int.ofNat_eq_natCast, List.length_map, Bool.not_eq_true', Bool.not_eq_false', decide_eq_true_eq, decide_eq_false_iff_not] at d0
      simp only [allP]
      and_intros <;> first
        | omega
        | (simp; omega)
        | (simp [hx]; done))

theorem fe_1 (s : Sp) (a : At) (i : Nat) (h : i < s.attrs.length) (hx : s.attrs[i]? = some a) (hs : s.attrs.length ≤ 20) (tq0 : (decide (Int.ofNat (ByteArray.size (At.key a)) > (100 : Int))) = false) (tq1 : (decide (Int.ofNat (ByteArray.size (At.val a)) > (100 : Int))) = true) : CodeC Try.prog 0 45 feB (feS s false i) (Ex.ret) ({ env := [((1 : Nat), V.ptr (1000 : Nat) (0 : Nat) (0 : Nat) (0 : Nat)), ((2 : Nat), Bo false), ((3 : Nat), I (Int.ofNat i))], st := [((1000 : Nat), Obj.box [V.val (Value.int IntKind.u64 (Sp.hi s)), V.val (Value.int IntKind.u64 (Sp.lo s)), V.val (Value.int IntKind.u64 (Sp.id s)), V.val (Value.int IntKind.u64 (Sp.par s)), Sg (Sp.svc s), Sg (Sp.op s), I (Sp.start s), I (Sp.dur s), Bo (Sp.err s), V.sl (2 : Nat) (List.map At.row (Sp.attrs s))])], ids := [(1000 : Nat)] }) :=
  runP hmix [.reg 4 [(4, [], some true)], .reg 6 [(5, [.row (At.row a)], none), (8, [], some false), (14, [.row (At.row a)], none), (17, [], some true)]] ⟨[1, 2, 3], [(1000, 1000)], []⟩ [
      decide (Int.ofNat i < Int.ofNat (List.length (List.map At.row (Sp.attrs s)))) = true,
      (0 : Int) ≤ Int.ofNat i,
      Int.ofNat i < Int.ofNat (List.length (List.map At.row (Sp.attrs s))),
      (List.map At.row (Sp.attrs s))[i]? = some (At.row a),
      decide (Int.ofNat (ByteArray.size (At.key a)) > (100 : Int)) = false,
      (0 : Int) ≤ Int.ofNat i,
      Int.ofNat i < Int.ofNat (List.length (List.map At.row (Sp.attrs s))),
      (List.map At.row (Sp.attrs s))[i]? = some (At.row a),
      decide (Int.ofNat (ByteArray.size (At.val a)) > (100 : Int)) = true] (by kernel_rfl)
    (by
      have d0 := tq0
      have d1 := tq1
      try simp only [Int.ofNat_eq_natCast, List.length_map, Bool.not_eq_true', Bool.not_eq_false', decide_eq_true_eq, decide_eq_false_iff_not] at d0 d1
      simp only [allP]
      and_intros <;> first
        | omega
        | (simp; omega)
        | (simp [hx]; done))

theorem fe_2 (s : Sp) (a : At) (i : Nat) (h : i < s.attrs.length) (hx : s.attrs[i]? = some a) (hs : s.attrs.length ≤ 20) (tq0 : (decide (Int.ofNat (ByteArray.size (At.key a)) > (100 : Int))) = false) (tq1 : (decide (Int.ofNat (ByteArray.size (At.val a)) > (100 : Int))) = false) : CodeC Try.prog 0 45 feB (feS s false i) (Ex.normal) ({ env := [((1 : Nat), V.ptr (1000 : Nat) (0 : Nat) (0 : Nat) (0 : Nat)), ((2 : Nat), Bo false), ((3 : Nat), I (Int.ofNat (i + (1 : Nat))))], st := [((1000 : Nat), Obj.box [V.val (Value.int IntKind.u64 (Sp.hi s)), V.val (Value.int IntKind.u64 (Sp.lo s)), V.val (Value.int IntKind.u64 (Sp.id s)), V.val (Value.int IntKind.u64 (Sp.par s)), Sg (Sp.svc s), Sg (Sp.op s), I (Sp.start s), I (Sp.dur s), Bo (Sp.err s), V.sl (2 : Nat) (List.map At.row (Sp.attrs s))])], ids := [(1000 : Nat)] }) :=
  runP hmix [.reg 4 [(4, [], some true)], .reg 6 [(5, [.row (At.row a)], none), (8, [], some false), (14, [.row (At.row a)], none), (17, [], some false)], .reg 5 [(1, [.be (I ((i + 1 : Nat) : Int))], none)]] ⟨[1, 2, 3], [(1000, 1000)], []⟩ [
      decide (Int.ofNat i < Int.ofNat (List.length (List.map At.row (Sp.attrs s)))) = true,
      (0 : Int) ≤ Int.ofNat i,
      Int.ofNat i < Int.ofNat (List.length (List.map At.row (Sp.attrs s))),
      (List.map At.row (Sp.attrs s))[i]? = some (At.row a),
      decide (Int.ofNat (ByteArray.size (At.key a)) > (100 : Int)) = false,
      (0 : Int) ≤ Int.ofNat i,
      Int.ofNat i < Int.ofNat (List.length (List.map At.row (Sp.attrs s))),
      (List.map At.row (Sp.attrs s))[i]? = some (At.row a),
      decide (Int.ofNat (ByteArray.size (At.val a)) > (100 : Int)) = false,
      IntKind.wrap IntKind.i64 (Int.ofNat (i + (1 : Nat))) = Int.ofNat (i + (1 : Nat))] (by kernel_rfl)
    (by
      have d0 := tq0
      have d1 := tq1
      try simp only [Int.ofNat_eq_natCast, List.length_map, Bool.not_eq_true', Bool.not_eq_false', decide_eq_true_eq, decide_eq_false_iff_not] at d0 d1
      simp only [allP]
      and_intros <;> first
        | omega
        | (simp; omega)
        | (simp [hx]; done)
        | exact i64_small (by simp; omega))

theorem feGo (s : Sp) (a : At) (i : Nat) (h : i < s.attrs.length) (hx : s.attrs[i]? = some a) (hs : s.attrs.length ≤ 20) (hb : longA a = false) : CodeC Try.prog 0 45 feB (feS s false i) .normal (feS s false (i + 1)) := by
  rcases tf (decide (Int.ofNat (ByteArray.size (At.key a)) > (100 : Int))) with tq0 | tq0
  · exact absurd hb (by
      first
        | ((try simp only [Int.ofNat_eq_natCast, List.length_map, Bool.not_eq_true', Bool.not_eq_false', decide_eq_true_eq, decide_eq_false_iff_not] at tq0); simp [longA, tq0]; done))
  · rcases tf (decide (Int.ofNat (ByteArray.size (At.val a)) > (100 : Int))) with tq1 | tq1
    · exact absurd hb (by
        first
          | ((try simp only [Int.ofNat_eq_natCast, List.length_map, Bool.not_eq_true', Bool.not_eq_false', decide_eq_true_eq, decide_eq_false_iff_not] at tq0 tq1); simp [longA, tq0, tq1]; done))
    · exact CodeC.cast (by
        first
          | rfl) (fe_2 s a i h hx hs tq0 tq1)

theorem feStop (s : Sp) (a : At) (i : Nat) (h : i < s.attrs.length) (hx : s.attrs[i]? = some a) (hs : s.attrs.length ≤ 20) (hb : longA a = true) : CodeC Try.prog 0 45 feB (feS s false i) .ret (feS s false i) := by
  rcases tf (decide (Int.ofNat (ByteArray.size (At.key a)) > (100 : Int))) with tq0 | tq0
  · exact CodeC.cast (by
      first
        | rfl) (fe_0 s a i h hx hs tq0)
  · rcases tf (decide (Int.ofNat (ByteArray.size (At.val a)) > (100 : Int))) with tq1 | tq1
    · exact CodeC.cast (by
        first
          | rfl) (fe_1 s a i h hx hs tq0 tq1)
    · exact absurd hb (by
        first
          | ((try simp only [Int.ofNat_eq_natCast, List.length_map, Bool.not_eq_true', Bool.not_eq_false', decide_eq_true_eq, decide_eq_false_iff_not] at tq0 tq1); simp [longA, tq0, tq1]; done))

theorem feE_0 (s : Sp) (i : Nat) (h : s.attrs.length ≤ i) : CodeC Try.prog 0 45 feB (feS s false i) (Ex.exit (0 : Nat)) ({ env := [((1 : Nat), V.ptr (1000 : Nat) (0 : Nat) (0 : Nat) (0 : Nat)), ((2 : Nat), Bo false), ((3 : Nat), I (Int.ofNat i))], st := [((1000 : Nat), Obj.box [V.val (Value.int IntKind.u64 (Sp.hi s)), V.val (Value.int IntKind.u64 (Sp.lo s)), V.val (Value.int IntKind.u64 (Sp.id s)), V.val (Value.int IntKind.u64 (Sp.par s)), Sg (Sp.svc s), Sg (Sp.op s), I (Sp.start s), I (Sp.dur s), Bo (Sp.err s), V.sl (2 : Nat) (List.map At.row (Sp.attrs s))])], ids := [(1000 : Nat)] }) :=
  runP hmix [.reg 4 [(4, [], some false)]] ⟨[1, 2, 3], [(1000, 1000)], []⟩ [
      decide (Int.ofNat i < Int.ofNat (List.length (List.map At.row (Sp.attrs s)))) = false] (by kernel_rfl)
    (by
      simp only [allP]
      and_intros <;> first
        | (simp; omega))

theorem feE (s : Sp) (i : Nat) (h : s.attrs.length ≤ i)  : CodeC Try.prog 0 45 feB (feS s false i) (.exit 0) (feS s false i) := by
  exact CodeC.cast (by
    first
      | rfl) (feE_0 s i h )

theorem few1_0 (s : Sp) (i : Nat) (hl : LoopC Try.prog 0 45 feB (feS s false 0) .ret (feS s false i)) (tq0 : (decide (Int.ofNat (ByteArray.size (Sp.svc s)) > (100 : Int))) = true) : Contract Try.prog 18 [s.v] [] (Bo false) ([]) :=
  vcP hmix [.reg 1 [(4, [], some true)]] [] [
      decide (Int.ofNat (ByteArray.size (Sp.svc s)) > (100 : Int)) = true] (by kernel_rfl)
    (by
      have d0 := tq0
      try simp only [Int.ofNat_eq_natCast, List.length_map, Bool.not_eq_true', Bool.not_eq_false', decide_eq_true_eq, decide_eq_false_iff_not] at d0
      simp only [allP]
      and_intros <;> first
        | omega)

theorem few1_1 (s : Sp) (i : Nat) (hl : LoopC Try.prog 0 45 feB (feS s false 0) .ret (feS s false i)) (tq0 : (decide (Int.ofNat (ByteArray.size (Sp.svc s)) > (100 : Int))) = false) (tq1 : (decide (Int.ofNat (ByteArray.size (Sp.op s)) > (100 : Int))) = true) : Contract Try.prog 18 [s.v] [] (Bo false) ([]) :=
  vcP hmix [.reg 1 [(4, [], some false), (10, [], some true)]] [] [
      decide (Int.ofNat (ByteArray.size (Sp.svc s)) > (100 : Int)) = false,
      decide (Int.ofNat (ByteArray.size (Sp.op s)) > (100 : Int)) = true] (by kernel_rfl)
    (by
      have d0 := tq0
      have d1 := tq1
      try simp only [Int.ofNat_eq_natCast, List.length_map, Bool.not_eq_true', Bool.not_eq_false', decide_eq_true_eq, decide_eq_false_iff_not] at d0 d1
      simp only [allP]
      and_intros <;> first
        | omega)

theorem few1_2 (s : Sp) (i : Nat) (hl : LoopC Try.prog 0 45 feB (feS s false 0) .ret (feS s false i)) (tq0 : (decide (Int.ofNat (ByteArray.size (Sp.svc s)) > (100 : Int))) = false) (tq1 : (decide (Int.ofNat (ByteArray.size (Sp.op s)) > (100 : Int))) = false) (tq2 : (decide (Int.ofNat (List.length (List.map At.row (Sp.attrs s))) > (20 : Int))) = true) : Contract Try.prog 18 [s.v] [] (Bo false) ([]) :=
  vcP hmix [.reg 1 [(4, [], some false), (10, [], some false), (15, [], some true)]] [] [
      decide (Int.ofNat (ByteArray.size (Sp.svc s)) > (100 : Int)) = false,
      decide (Int.ofNat (ByteArray.size (Sp.op s)) > (100 : Int)) = false,
      decide (Int.ofNat (List.length (List.map At.row (Sp.attrs s))) > (20 : Int)) = true] (by kernel_rfl)
    (by
      have d0 := tq0
      have d1 := tq1
      have d2 := tq2
      try simp only [Int.ofNat_eq_natCast, List.length_map, Bool.not_eq_true', Bool.not_eq_false', decide_eq_true_eq, decide_eq_false_iff_not] at d0 d1 d2
      simp only [allP]
      and_intros <;> first
        | omega)

theorem few1_3 (s : Sp) (i : Nat) (hl : LoopC Try.prog 0 45 feB (feS s false 0) .ret (feS s false i)) (tq0 : (decide (Int.ofNat (ByteArray.size (Sp.svc s)) > (100 : Int))) = false) (tq1 : (decide (Int.ofNat (ByteArray.size (Sp.op s)) > (100 : Int))) = false) (tq2 : (decide (Int.ofNat (List.length (List.map At.row (Sp.attrs s))) > (20 : Int))) = false) : Contract Try.prog 18 [s.v] [] (Bo false) ([]) :=
  vcP hmix [.reg 1 [(4, [], some false), (10, [], some false), (15, [], some false)], .cut ⟨[1, 2, 3], [(1000, 1000)], []⟩ .ret (feS s false i)] [] [
      decide (Int.ofNat (ByteArray.size (Sp.svc s)) > (100 : Int)) = false,
      decide (Int.ofNat (ByteArray.size (Sp.op s)) > (100 : Int)) = false,
      decide (Int.ofNat (List.length (List.map At.row (Sp.attrs s))) > (20 : Int)) = false,
      LoopC Try.prog (0 : Nat) (45 : Nat) feB { env := [((1 : Nat), V.ptr (1000 : Nat) (0 : Nat) (0 : Nat) (0 : Nat)), ((2 : Nat), Bo false), ((3 : Nat), I (0 : Int))], st := [((1000 : Nat), Obj.box [V.val (Value.int IntKind.u64 (Sp.hi s)), V.val (Value.int IntKind.u64 (Sp.lo s)), V.val (Value.int IntKind.u64 (Sp.id s)), V.val (Value.int IntKind.u64 (Sp.par s)), Sg (Sp.svc s), Sg (Sp.op s), I (Sp.start s), I (Sp.dur s), Bo (Sp.err s), V.sl (2 : Nat) (List.map At.row (Sp.attrs s))])], ids := [(1000 : Nat)] } Ex.ret { env := [((1 : Nat), V.ptr (1000 : Nat) (0 : Nat) (0 : Nat) (0 : Nat)), ((2 : Nat), Bo false), ((3 : Nat), I (Int.ofNat i))], st := [((1000 : Nat), Obj.box (Sp.row s))], ids := [(1000 : Nat)] }] (by kernel_rfl)
    (by
      have d0 := tq0
      have d1 := tq1
      have d2 := tq2
      try simp only [Int.ofNat_eq_natCast, List.length_map, Bool.not_eq_true', Bool.not_eq_false', decide_eq_true_eq, decide_eq_false_iff_not] at d0 d1 d2
      simp only [allP]
      and_intros <;> first
        | omega
        | exact hl)

theorem few1 (s : Sp) (i : Nat) (hl : LoopC Try.prog 0 45 feB (feS s false 0) .ret (feS s false i)) : Contract Try.prog 18 [s.v] [] (Bo false) [] := by
  rcases tf (decide (Int.ofNat (ByteArray.size (Sp.svc s)) > (100 : Int))) with tq0 | tq0
  · exact Contract.cast (by
      first
        | rfl) (by
      first
        | rfl) (few1_0 s i hl tq0)
  · rcases tf (decide (Int.ofNat (ByteArray.size (Sp.op s)) > (100 : Int))) with tq1 | tq1
    · exact Contract.cast (by
        first
          | rfl) (by
        first
          | rfl) (few1_1 s i hl tq0 tq1)
    · rcases tf (decide (Int.ofNat (List.length (List.map At.row (Sp.attrs s))) > (20 : Int))) with tq2 | tq2
      · exact Contract.cast (by
          first
            | rfl) (by
          first
            | rfl) (few1_2 s i hl tq0 tq1 tq2)
      · exact Contract.cast (by
          first
            | rfl) (by
          first
            | rfl) (few1_3 s i hl tq0 tq1 tq2)

theorem few2_0 (s : Sp) (hl : LoopC Try.prog 0 45 feB (feS s false 0) (.exit 0) (feS s false s.attrs.length)) (tq0 : (decide (Int.ofNat (ByteArray.size (Sp.svc s)) > (100 : Int))) = true) : Contract Try.prog 18 [s.v] [] (Bo false) ([]) :=
  vcP hmix [.reg 1 [(4, [], some true)]] [] [
      decide (Int.ofNat (ByteArray.size (Sp.svc s)) > (100 : Int)) = true] (by kernel_rfl)
    (by
      have d0 := tq0
      try simp only [Int.ofNat_eq_natCast, List.length_map, Bool.not_eq_true', Bool.not_eq_false', decide_eq_true_eq, decide_eq_false_iff_not] at d0
      simp only [allP]
      and_intros <;> first
        | omega)

theorem few2_1 (s : Sp) (hl : LoopC Try.prog 0 45 feB (feS s false 0) (.exit 0) (feS s false s.attrs.length)) (tq0 : (decide (Int.ofNat (ByteArray.size (Sp.svc s)) > (100 : Int))) = false) (tq1 : (decide (Int.ofNat (ByteArray.size (Sp.op s)) > (100 : Int))) = true) : Contract Try.prog 18 [s.v] [] (Bo false) ([]) :=
  vcP hmix [.reg 1 [(4, [], some false), (10, [], some true)]] [] [
      decide (Int.ofNat (ByteArray.size (Sp.svc s)) > (100 : Int)) = false,
      decide (Int.ofNat (ByteArray.size (Sp.op s)) > (100 : Int)) = true] (by kernel_rfl)
    (by
      have d0 := tq0
      have d1 := tq1
      try simp only [Int.ofNat_eq_natCast, List.length_map, Bool.not_eq_true', Bool.not_eq_false', decide_eq_true_eq, decide_eq_false_iff_not] at d0 d1
      simp only [allP]
      and_intros <;> first
        | omega)

theorem few2_2 (s : Sp) (hl : LoopC Try.prog 0 45 feB (feS s false 0) (.exit 0) (feS s false s.attrs.length)) (tq0 : (decide (Int.ofNat (ByteArray.size (Sp.svc s)) > (100 : Int))) = false) (tq1 : (decide (Int.ofNat (ByteArray.size (Sp.op s)) > (100 : Int))) = false) (tq2 : (decide (Int.ofNat (List.length (List.map At.row (Sp.attrs s))) > (20 : Int))) = true) : Contract Try.prog 18 [s.v] [] (Bo false) ([]) :=
  vcP hmix [.reg 1 [(4, [], some false), (10, [], some false), (15, [], some true)]] [] [
      decide (Int.ofNat (ByteArray.size (Sp.svc s)) > (100 : Int)) = false,
      decide (Int.ofNat (ByteArray.size (Sp.op s)) > (100 : Int)) = false,
      decide (Int.ofNat (List.length (List.map At.row (Sp.attrs s))) > (20 : Int)) = true] (by kernel_rfl)
    (by
      have d0 := tq0
      have d1 := tq1
      have d2 := tq2
      try simp only [Int.ofNat_eq_natCast, List.length_map, Bool.not_eq_true', Bool.not_eq_false', decide_eq_true_eq, decide_eq_false_iff_not] at d0 d1 d2
      simp only [allP]
      and_intros <;> first
        | omega)

theorem few2_3 (s : Sp) (hl : LoopC Try.prog 0 45 feB (feS s false 0) (.exit 0) (feS s false s.attrs.length)) (tq0 : (decide (Int.ofNat (ByteArray.size (Sp.svc s)) > (100 : Int))) = false) (tq1 : (decide (Int.ofNat (ByteArray.size (Sp.op s)) > (100 : Int))) = false) (tq2 : (decide (Int.ofNat (List.length (List.map At.row (Sp.attrs s))) > (20 : Int))) = false) : Contract Try.prog 18 [s.v] [] (Bo true) ([]) :=
  vcP hmix [.reg 1 [(4, [], some false), (10, [], some false), (15, [], some false)], .cut ⟨[1, 2, 3], [(1000, 1000)], []⟩ (.exit 0) (feS s false s.attrs.length)] [] [
      decide (Int.ofNat (ByteArray.size (Sp.svc s)) > (100 : Int)) = false,
      decide (Int.ofNat (ByteArray.size (Sp.op s)) > (100 : Int)) = false,
      decide (Int.ofNat (List.length (List.map At.row (Sp.attrs s))) > (20 : Int)) = false,
      LoopC Try.prog (0 : Nat) (45 : Nat) feB { env := [((1 : Nat), V.ptr (1000 : Nat) (0 : Nat) (0 : Nat) (0 : Nat)), ((2 : Nat), Bo false), ((3 : Nat), I (0 : Int))], st := [((1000 : Nat), Obj.box [V.val (Value.int IntKind.u64 (Sp.hi s)), V.val (Value.int IntKind.u64 (Sp.lo s)), V.val (Value.int IntKind.u64 (Sp.id s)), V.val (Value.int IntKind.u64 (Sp.par s)), Sg (Sp.svc s), Sg (Sp.op s), I (Sp.start s), I (Sp.dur s), Bo (Sp.err s), V.sl (2 : Nat) (List.map At.row (Sp.attrs s))])], ids := [(1000 : Nat)] } (Ex.exit (0 : Nat)) { env := [((1 : Nat), V.ptr (1000 : Nat) (0 : Nat) (0 : Nat) (0 : Nat)), ((2 : Nat), Bo false), ((3 : Nat), I (Int.ofNat (List.length (Sp.attrs s))))], st := [((1000 : Nat), Obj.box (Sp.row s))], ids := [(1000 : Nat)] }] (by kernel_rfl)
    (by
      have d0 := tq0
      have d1 := tq1
      have d2 := tq2
      try simp only [Int.ofNat_eq_natCast, List.length_map, Bool.not_eq_true', Bool.not_eq_false', decide_eq_true_eq, decide_eq_false_iff_not] at d0 d1 d2
      simp only [allP]
      and_intros <;> first
        | omega
        | exact hl)

theorem few2 (s : Sp) (hl : LoopC Try.prog 0 45 feB (feS s false 0) (.exit 0) (feS s false s.attrs.length)) : Contract Try.prog 18 [s.v] [] (Bo (!decide ((s.svc.size : Int) > 100) && !decide ((s.op.size : Int) > 100) && !decide ((s.attrs.length : Int) > 20))) [] := by
  rcases tf (decide (Int.ofNat (ByteArray.size (Sp.svc s)) > (100 : Int))) with tq0 | tq0
  · exact Contract.cast (by
      first
        | ((try simp only [Int.ofNat_eq_natCast, List.length_map, Bool.not_eq_true', Bool.not_eq_false', decide_eq_true_eq, decide_eq_false_iff_not] at tq0); simp [tq0]; done)) (by
      first
        | rfl) (few2_0 s hl tq0)
  · rcases tf (decide (Int.ofNat (ByteArray.size (Sp.op s)) > (100 : Int))) with tq1 | tq1
    · exact Contract.cast (by
        first
          | ((try simp only [Int.ofNat_eq_natCast, List.length_map, Bool.not_eq_true', Bool.not_eq_false', decide_eq_true_eq, decide_eq_false_iff_not] at tq0 tq1); simp [tq0, tq1]; done)) (by
        first
          | rfl) (few2_1 s hl tq0 tq1)
    · rcases tf (decide (Int.ofNat (List.length (List.map At.row (Sp.attrs s))) > (20 : Int))) with tq2 | tq2
      · exact Contract.cast (by
          first
            | ((try simp only [Int.ofNat_eq_natCast, List.length_map, Bool.not_eq_true', Bool.not_eq_false', decide_eq_true_eq, decide_eq_false_iff_not] at tq0 tq1 tq2); simp [tq0, tq1, tq2]; done)) (by
          first
            | rfl) (few2_2 s hl tq0 tq1 tq2)
      · exact Contract.cast (by
          first
            | ((try simp only [Int.ofNat_eq_natCast, List.length_map, Bool.not_eq_true', Bool.not_eq_false', decide_eq_true_eq, decide_eq_false_iff_not] at tq0 tq1 tq2); simp [tq0, tq1, tq2]; done)) (by
          first
            | rfl) (few2_3 s hl tq0 tq1 tq2)

theorem few3_0 (s : Sp) (h : decide ((s.attrs.length : Int) > 20) = true) (tq0 : (decide (Int.ofNat (ByteArray.size (Sp.svc s)) > (100 : Int))) = true) : Contract Try.prog 18 [s.v] [] (Bo false) ([]) :=
  vcP hmix [.reg 1 [(4, [], some true), (14, [], some true)]] [] [
      decide (Int.ofNat (ByteArray.size (Sp.svc s)) > (100 : Int)) = true] (by kernel_rfl)
    (by
      have d0 := tq0
      try simp only [Int.ofNat_eq_natCast, List.length_map, Bool.not_eq_true', Bool.not_eq_false', decide_eq_true_eq, decide_eq_false_iff_not] at d0
      simp only [allP]
      and_intros <;> first
        | omega)

theorem few3_1 (s : Sp) (h : decide ((s.attrs.length : Int) > 20) = true) (tq0 : (decide (Int.ofNat (ByteArray.size (Sp.svc s)) > (100 : Int))) = false) (tq1 : (decide (Int.ofNat (ByteArray.size (Sp.op s)) > (100 : Int))) = true) : Contract Try.prog 18 [s.v] [] (Bo false) ([]) :=
  vcP hmix [.reg 1 [(4, [], some false), (10, [], some true), (14, [], some true)]] [] [
      decide (Int.ofNat (ByteArray.size (Sp.svc s)) > (100 : Int)) = false,
      decide (Int.ofNat (ByteArray.size (Sp.op s)) > (100 : Int)) = true] (by kernel_rfl)
    (by
      have d0 := tq0
      have d1 := tq1
      try simp only [Int.ofNat_eq_natCast, List.length_map, Bool.not_eq_true', Bool.not_eq_false', decide_eq_true_eq, decide_eq_false_iff_not] at d0 d1
      simp only [allP]
      and_intros <;> first
        | omega)

theorem few3_2 (s : Sp) (h : decide ((s.attrs.length : Int) > 20) = true) (tq0 : (decide (Int.ofNat (ByteArray.size (Sp.svc s)) > (100 : Int))) = false) (tq1 : (decide (Int.ofNat (ByteArray.size (Sp.op s)) > (100 : Int))) = false) : Contract Try.prog 18 [s.v] [] (Bo false) ([]) :=
  vcP hmix [.reg 1 [(4, [], some false), (10, [], some false), (14, [], some true)]] [] [
      decide (Int.ofNat (ByteArray.size (Sp.svc s)) > (100 : Int)) = false,
      decide (Int.ofNat (ByteArray.size (Sp.op s)) > (100 : Int)) = false,
      decide (Int.ofNat (List.length (List.map At.row (Sp.attrs s))) > (20 : Int)) = true] (by kernel_rfl)
    (by
      have d0 := tq0
      have d1 := tq1
      try simp only [Int.ofNat_eq_natCast, List.length_map, Bool.not_eq_true', Bool.not_eq_false', decide_eq_true_eq, decide_eq_false_iff_not] at d0 d1
      simp only [allP]
      and_intros <;> first
        | omega
        | (simp at h ⊢; omega))

theorem few3 (s : Sp) (h : decide ((s.attrs.length : Int) > 20) = true) : Contract Try.prog 18 [s.v] [] (Bo false) [] := by
  rcases tf (decide (Int.ofNat (ByteArray.size (Sp.svc s)) > (100 : Int))) with tq0 | tq0
  · exact Contract.cast (by
      first
        | rfl) (by
      first
        | rfl) (few3_0 s h tq0)
  · rcases tf (decide (Int.ofNat (ByteArray.size (Sp.op s)) > (100 : Int))) with tq1 | tq1
    · exact Contract.cast (by
        first
          | rfl) (by
        first
          | rfl) (few3_1 s h tq0 tq1)
    · exact Contract.cast (by
        first
          | rfl) (by
        first
          | rfl) (few3_2 s h tq0 tq1)

theorem cFew (s : Sp) : Contract Try.prog 18 [s.v] [] (Bo (fewS s)) [] := by
  unfold fewS
  rcases tf (decide ((s.attrs.length : Int) > 20)) with h3 | h3
  · rw [h3]; simp only [Bool.not_true, Bool.and_false, Bool.false_and]; exact few3 s h3
  · have hs : s.attrs.length ≤ 20 := by simp at h3; omega
    rcases LoopC.search (P := Try.prog) (k := 0) (n := 45) (c := feB) s.attrs (fun _ a => longA a) (fun i => feS s false i) (fun i => feS s false i) (e1 := .ret) (e2 := .exit 0) (by simp) (by simp)
      (fun i a hx hi hb => feGo s a i hi hx hs hb) (fun i a hx hi hb => feStop s a i hi hx hs hb) (feE s _ (Nat.le_refl _)) with ⟨i, a, k1, k2, _, k4⟩ | ⟨k1, k2⟩
    · rw [all_not k1 k2, Bool.and_false]; exact few1 s i k4
    · rw [all_of_idx k1, Bool.and_true]; exact few2 s k2
theorem fa_0 (l : List Sp) (x : Sp) (i : Nat) (h : i < l.length) (hx : l[i]? = some x) (hs : l.length ≤ 60) (tq0 : (!fewS x) = true) : CodeC Try.prog 0 19 faB (faS l false i) (Ex.ret) ({ env := [((0 : Nat), V.sl (10 : Nat) (List.map Sp.row l)), ((2 : Nat), Bo false), ((3 : Nat), I (Int.ofNat i))], st := [], ids := [] }) :=
  runP hmix [.reg 4 [(3, [], some true)], .reg 6 [(3, [.row (Sp.row x)], none), (4, [.call [] [] (Bo (fewS x)) []], none), (5, [], some true)]] ⟨[0, 2, 3], [], []⟩ [
      decide (Int.ofNat i < Int.ofNat (List.length (List.map Sp.row l))) = true,
      (0 : Int) ≤ Int.ofNat i,
      Int.ofNat i < Int.ofNat (List.length (List.map Sp.row l)),
      (List.map Sp.row l)[i]? = some (Sp.row x),
      Contract Try.prog (18 : Nat) [V.agg [V.val (Value.int IntKind.u64 (Sp.hi x)), V.val (Value.int IntKind.u64 (Sp.lo x)), V.val (Value.int IntKind.u64 (Sp.id x)), V.val (Value.int IntKind.u64 (Sp.par x)), Sg (Sp.svc x), Sg (Sp.op x), I (Sp.start x), I (Sp.dur x), Bo (Sp.err x), V.sl (2 : Nat) (List.map At.row (Sp.attrs x))]] [] (Bo (fewS x)) [],
      (!fewS x) = true] (by kernel_rfl)
    (by
      have d0 := tq0
      try simp only [Int.ofNat_eq_natCast, List.length_map, Bool.not_eq_true', Bool.not_eq_false', decide_eq_true_eq, decide_eq_false_iff_not] at d0
      simp only [allP]
      and_intros <;> first
        | omega
        | exact cFew x
        | (simp; omega)
        | (simp [hx]; done))

theorem fa_1 (l : List Sp) (x : Sp) (i : Nat) (h : i < l.length) (hx : l[i]? = some x) (hs : l.length ≤ 60) (tq0 : (!fewS x) = false) : CodeC Try.prog 0 19 faB (faS l false i) (Ex.normal) ({ env := [((0 : Nat), V.sl (10 : Nat) (List.map Sp.row l)), ((2 : Nat), Bo false), ((3 : Nat), I (Int.ofNat (i + (1 : Nat))))], st := [], ids := [] }) :=
  runP hmix [.reg 4 [(3, [], some true)], .reg 6 [(3, [.row (Sp.row x)], none), (4, [.call [] [] (Bo (fewS x)) []], none), (5, [], some false)], .reg 5 [(1, [.be (I ((i + 1 : Nat) : Int))], none)]] ⟨[0, 2, 3], [], []⟩ [
      decide (Int.ofNat i < Int.ofNat (List.length (List.map Sp.row l))) = true,
      (0 : Int) ≤ Int.ofNat i,
      Int.ofNat i < Int.ofNat (List.length (List.map Sp.row l)),
      (List.map Sp.row l)[i]? = some (Sp.row x),
      Contract Try.prog (18 : Nat) [V.agg [V.val (Value.int IntKind.u64 (Sp.hi x)), V.val (Value.int IntKind.u64 (Sp.lo x)), V.val (Value.int IntKind.u64 (Sp.id x)), V.val (Value.int IntKind.u64 (Sp.par x)), Sg (Sp.svc x), Sg (Sp.op x), I (Sp.start x), I (Sp.dur x), Bo (Sp.err x), V.sl (2 : Nat) (List.map At.row (Sp.attrs x))]] [] (Bo (fewS x)) [],
      (!fewS x) = false,
      IntKind.wrap IntKind.i64 (Int.ofNat (i + (1 : Nat))) = Int.ofNat (i + (1 : Nat))] (by kernel_rfl)
    (by
      have d0 := tq0
      try simp only [Int.ofNat_eq_natCast, List.length_map, Bool.not_eq_true', Bool.not_eq_false', decide_eq_true_eq, decide_eq_false_iff_not] at d0
      simp only [allP]
      and_intros <;> first
        | omega
        | exact cFew x
        | (simp; omega)
        | (simp [hx]; done)
        | exact i64_small (by simp; omega))

theorem faGo (l : List Sp) (x : Sp) (i : Nat) (h : i < l.length) (hx : l[i]? = some x) (hs : l.length ≤ 60) (hb : fewS x = true) : CodeC Try.prog 0 19 faB (faS l false i) .normal (faS l false (i + 1)) := by
  rcases tf (!fewS x) with tq0 | tq0
  · exact absurd hb (by
      first
        | ((try simp only [Int.ofNat_eq_natCast, List.length_map, Bool.not_eq_true', Bool.not_eq_false', decide_eq_true_eq, decide_eq_false_iff_not] at tq0); simp [tq0]; done))
  · exact CodeC.cast (by
      first
        | rfl) (fa_1 l x i h hx hs tq0)

theorem faStop (l : List Sp) (x : Sp) (i : Nat) (h : i < l.length) (hx : l[i]? = some x) (hs : l.length ≤ 60) (hb : fewS x = false) : CodeC Try.prog 0 19 faB (faS l false i) .ret (faS l false i) := by
  rcases tf (!fewS x) with tq0 | tq0
  · exact CodeC.cast (by
      first
        | rfl) (fa_0 l x i h hx hs tq0)
  · exact absurd hb (by
      first
        | ((try simp only [Int.ofNat_eq_natCast, List.length_map, Bool.not_eq_true', Bool.not_eq_false', decide_eq_true_eq, decide_eq_false_iff_not] at tq0); simp [tq0]; done))

theorem faE_0 (l : List Sp) (i : Nat) (h : l.length ≤ i) : CodeC Try.prog 0 19 faB (faS l false i) (Ex.exit (0 : Nat)) ({ env := [((0 : Nat), V.sl (10 : Nat) (List.map Sp.row l)), ((2 : Nat), Bo false), ((3 : Nat), I (Int.ofNat i))], st := [], ids := [] }) :=
  runP hmix [.reg 4 [(3, [], some false)]] ⟨[0, 2, 3], [], []⟩ [
      decide (Int.ofNat i < Int.ofNat (List.length (List.map Sp.row l))) = false] (by kernel_rfl)
    (by
      simp only [allP]
      and_intros <;> first
        | (simp; omega))

theorem faE (l : List Sp) (i : Nat) (h : l.length ≤ i)  : CodeC Try.prog 0 19 faB (faS l false i) (.exit 0) (faS l false i) := by
  exact CodeC.cast (by
    first
      | rfl) (faE_0 l i h )

theorem fewAll1_0 (l : List Sp) (i : Nat) (hl : LoopC Try.prog 0 19 faB (faS l false 0) .ret (faS l false i)) (tq0 : (decide (Int.ofNat (List.length (List.map Sp.row l)) > (60 : Int))) = true) : Contract Try.prog 9 [.sl 10 (l.map Sp.row)] [] (Bo false) ([]) :=
  vcP hmix [.reg 1 [(2, [], some true)]] [] [
      decide (Int.ofNat (List.length (List.map Sp.row l)) > (60 : Int)) = true] (by kernel_rfl)
    (by
      have d0 := tq0
      try simp only [Int.ofNat_eq_natCast, List.length_map, Bool.not_eq_true', Bool.not_eq_false', decide_eq_true_eq, decide_eq_false_iff_not] at d0
      simp only [allP]
      and_intros <;> first
        | omega)

theorem fewAll1_1 (l : List Sp) (i : Nat) (hl : LoopC Try.prog 0 19 faB (faS l false 0) .ret (faS l false i)) (tq0 : (decide (Int.ofNat (List.length (List.map Sp.row l)) > (60 : Int))) = false) : Contract Try.prog 9 [.sl 10 (l.map Sp.row)] [] (Bo false) ([]) :=
  vcP hmix [.reg 1 [(2, [], some false)], .cut ⟨[0, 2, 3], [], []⟩ .ret (faS l false i)] [] [
      decide (Int.ofNat (List.length (List.map Sp.row l)) > (60 : Int)) = false,
      LoopC Try.prog (0 : Nat) (19 : Nat) faB { env := [((0 : Nat), V.sl (10 : Nat) (List.map Sp.row l)), ((2 : Nat), Bo false), ((3 : Nat), I (0 : Int))], st := [], ids := [] } Ex.ret { env := [((0 : Nat), V.sl (10 : Nat) (List.map Sp.row l)), ((2 : Nat), Bo false), ((3 : Nat), I (Int.ofNat i))], st := [], ids := [] }] (by kernel_rfl)
    (by
      have d0 := tq0
      try simp only [Int.ofNat_eq_natCast, List.length_map, Bool.not_eq_true', Bool.not_eq_false', decide_eq_true_eq, decide_eq_false_iff_not] at d0
      simp only [allP]
      and_intros <;> first
        | omega
        | exact hl)

theorem fewAll1 (l : List Sp) (i : Nat) (hl : LoopC Try.prog 0 19 faB (faS l false 0) .ret (faS l false i)) : Contract Try.prog 9 [.sl 10 (l.map Sp.row)] [] (Bo false) [] := by
  rcases tf (decide (Int.ofNat (List.length (List.map Sp.row l)) > (60 : Int))) with tq0 | tq0
  · exact Contract.cast (by
      first
        | rfl) (by
      first
        | rfl) (fewAll1_0 l i hl tq0)
  · exact Contract.cast (by
      first
        | rfl) (by
      first
        | rfl) (fewAll1_1 l i hl tq0)

theorem fewAll2_0 (l : List Sp) (hl : LoopC Try.prog 0 19 faB (faS l false 0) (.exit 0) (faS l false l.length)) (tq0 : (decide (Int.ofNat (List.length (List.map Sp.row l)) > (60 : Int))) = true) : Contract Try.prog 9 [.sl 10 (l.map Sp.row)] [] (Bo false) ([]) :=
  vcP hmix [.reg 1 [(2, [], some true)]] [] [
      decide (Int.ofNat (List.length (List.map Sp.row l)) > (60 : Int)) = true] (by kernel_rfl)
    (by
      have d0 := tq0
      try simp only [Int.ofNat_eq_natCast, List.length_map, Bool.not_eq_true', Bool.not_eq_false', decide_eq_true_eq, decide_eq_false_iff_not] at d0
      simp only [allP]
      and_intros <;> first
        | omega)

theorem fewAll2_1 (l : List Sp) (hl : LoopC Try.prog 0 19 faB (faS l false 0) (.exit 0) (faS l false l.length)) (tq0 : (decide (Int.ofNat (List.length (List.map Sp.row l)) > (60 : Int))) = false) : Contract Try.prog 9 [.sl 10 (l.map Sp.row)] [] (Bo true) ([]) :=
  vcP hmix [.reg 1 [(2, [], some false)], .cut ⟨[0, 2, 3], [], []⟩ (.exit 0) (faS l false l.length)] [] [
      decide (Int.ofNat (List.length (List.map Sp.row l)) > (60 : Int)) = false,
      LoopC Try.prog (0 : Nat) (19 : Nat) faB { env := [((0 : Nat), V.sl (10 : Nat) (List.map Sp.row l)), ((2 : Nat), Bo false), ((3 : Nat), I (0 : Int))], st := [], ids := [] } (Ex.exit (0 : Nat)) { env := [((0 : Nat), V.sl (10 : Nat) (List.map Sp.row l)), ((2 : Nat), Bo false), ((3 : Nat), I (Int.ofNat (List.length l)))], st := [], ids := [] }] (by kernel_rfl)
    (by
      have d0 := tq0
      try simp only [Int.ofNat_eq_natCast, List.length_map, Bool.not_eq_true', Bool.not_eq_false', decide_eq_true_eq, decide_eq_false_iff_not] at d0
      simp only [allP]
      and_intros <;> first
        | omega
        | exact hl)

theorem fewAll2 (l : List Sp) (hl : LoopC Try.prog 0 19 faB (faS l false 0) (.exit 0) (faS l false l.length)) : Contract Try.prog 9 [.sl 10 (l.map Sp.row)] [] (Bo (!decide ((l.length : Int) > 60))) [] := by
  rcases tf (decide (Int.ofNat (List.length (List.map Sp.row l)) > (60 : Int))) with tq0 | tq0
  · exact Contract.cast (by
      first
        | ((try simp only [Int.ofNat_eq_natCast, List.length_map, Bool.not_eq_true', Bool.not_eq_false', decide_eq_true_eq, decide_eq_false_iff_not] at tq0); simp [tq0]; done)) (by
      first
        | rfl) (fewAll2_0 l hl tq0)
  · exact Contract.cast (by
      first
        | ((try simp only [Int.ofNat_eq_natCast, List.length_map, Bool.not_eq_true', Bool.not_eq_false', decide_eq_true_eq, decide_eq_false_iff_not] at tq0); simp [tq0]; done)) (by
      first
        | rfl) (fewAll2_1 l hl tq0)

theorem fewAll3_0 (l : List Sp) (h : decide ((l.length : Int) > 60) = true) : Contract Try.prog 9 [.sl 10 (l.map Sp.row)] [] (Bo false) ([]) :=
  vcP hmix [.reg 1 [(2, [], some true)]] [] [
      decide (Int.ofNat (List.length (List.map Sp.row l)) > (60 : Int)) = true] (by kernel_rfl)
    (by
      simp only [allP]
      and_intros <;> first
        | (simp at h ⊢; omega))

theorem fewAll3 (l : List Sp) (h : decide ((l.length : Int) > 60) = true) : Contract Try.prog 9 [.sl 10 (l.map Sp.row)] [] (Bo false) [] := by
  exact Contract.cast (by
    first
      | rfl) (by
    first
      | rfl) (fewAll3_0 l h )

theorem cFewAll (l : List Sp) : Contract Try.prog 9 [.sl 10 (l.map Sp.row)] [] (Bo (fewAll l)) [] := by
  unfold fewAll
  rcases tf (decide ((l.length : Int) > 60)) with h3 | h3
  · rw [h3]; simp only [Bool.not_true, Bool.false_and]; exact fewAll3 l h3
  · have hs : l.length ≤ 60 := by simp at h3; omega
    rcases LoopC.search (P := Try.prog) (k := 0) (n := 19) (c := faB) l (fun _ x => !fewS x) (fun i => faS l false i) (fun i => faS l false i) (e1 := .ret) (e2 := .exit 0) (by simp) (by simp)
      (fun i a hx hi hb => faGo l a i hi hx hs (by simpa using hb)) (fun i a hx hi hb => faStop l a i hi hx hs (by simpa using hb)) (faE l _ (Nat.le_refl _)) with ⟨i, a, k1, k2, _, k4⟩ | ⟨k1, k2⟩
    · have := all_not (p := fun x => !fewS x) k1 k2
      simp only [Bool.not_not] at this
      rw [show l.all fewS = false from this, Bool.and_false]; exact fewAll1 l i k4
    · have := all_of_idx (p := fun x => !fewS x) k1
      simp only [Bool.not_not] at this
      rw [show l.all fewS = true from this, Bool.and_true]; exact fewAll2 l k2
theorem few_of {x : Sp} (h : fewS x = true) : x.attrs.length ≤ 20 := by
  unfold fewS at h
  simp only [Bool.and_eq_true, Bool.not_eq_true', decide_eq_false_iff_not] at h
  omega
theorem fewAll_len {l : List Sp} (h : fewAll l = true) : l.length ≤ 60 ∧ ∀ x ∈ l, x.attrs.length ≤ 20 := by
  unfold fewAll at h
  simp only [Bool.and_eq_true, Bool.not_eq_true', decide_eq_false_iff_not, List.all_eq_true] at h
  exact ⟨by omega, fun x hx => few_of (h.2 x hx)⟩
end Go.Proofs.Ytigakemkanobaaa
