/- sorting gleaning/api.Episode: insertion, swapping, rotating. -/
import Derived.Test.YtfpdlamjlbpmkaaEpA
namespace Go.Proofs.Ytfpdlamjlbpmkaa
open E
set_option maxRecDepth 100000
set_option linter.unusedVariables false
set_option linter.unusedSimpArgs false

def soLt  (x y : Ep) : Bool := decide ((cmpE) x y < 0)
def soN (l : List Ep)  (a b i : Nat) : SL := ⟨[(0, .own 0), (1, I (a : Int)), (2, I (b : Int)), (3, .clo (.func 30) [] []), (8, I (i : Int))], [(0, .arr 6 (l.map Ep.row))], [0, 0]⟩
def soM (l : List Ep)  (a b i j : Nat) : SL := ⟨[(0, .own 0), (1, I (a : Int)), (2, I (b : Int)), (3, .clo (.func 30) [] []), (8, I (i : Int)), (9, I (j : Int))], [(0, .arr 6 (l.map Ep.row))], [0, 0]⟩
def soW (l : List Ep)  (a b n i : Nat) : SL := ⟨[(0, .own 0), (1, I (a : Int)), (2, I (b : Int)), (3, I (n : Int)), (10, I (i : Int))], [(0, .arr 6 (l.map Ep.row))], [0, 0]⟩
def soR (l : List Ep)  (m i j : Nat) : SL := ⟨[(0, .own 0), (2, I (m : Int)), (4, .clo (.func 30) [] []), (10, I (i : Int)), (11, I (j : Int))], [(0, .arr 6 (l.map Ep.row))], [0, 0]⟩
noncomputable def soNB : Code := codeAt Try.prog 41 [true, false, false]

noncomputable def soMB : Code := codeAt Try.prog 41 [true, false, false, true, false, false, true, false, false]

noncomputable def soWB : Code := codeAt Try.prog 47 [true, false, false]

noncomputable def soRB : Code := codeAt Try.prog 46 [true, true, false, false, false]

theorem soMgo_0 (A B : List Ep) (x y : Ep)  (a b i j : Nat) (hj : j = A.length + 1) (hl : A.length + B.length ≤ 1000000) (ha : a < j) (hb : soLt  x y = true) : CodeC Try.prog 1 53 soMB (soM (A ++ y :: x :: B)  a b i j) (Ex.normal) ({ env := [((0 : Nat), V.own (0 : Nat)), ((1 : Nat), I (Int.ofNat a)), ((2 : Nat), I (Int.ofNat b)), ((3 : Nat), V.clo (Fn.func (30 : Nat)) [] []), ((8 : Nat), I (Int.ofNat i)), ((9 : Nat), I (Int.ofNat (List.length A)))], st := [((0 : Nat), Obj.arr (6 : Nat) (List.map Ep.row (A ++ x :: y :: B)))], ids := [(0 : Nat), (0 : Nat)] }) :=
  runP hmix [.reg 4 [(3, [], some true), (8, [.row (Ep.row x)], none), (11, [.be (I ((A.length : Nat) : Int))], none), (13, [.row (Ep.row y)], none), (14, [.call [] [] (I ((cmpE) x y)) []], none), (15, [], some true)], .reg 6 [(4, [.be (I ((A.length : Nat) : Int))], none), (7, [.be (I ((A.length : Nat) : Int))], none), (9, [.row (Ep.row y)], none), (13, [.row (Ep.row x)], none), (15, [.row (Ep.row x), .beO ((A ++ y :: y :: B).map Ep.row)], none), (17, [.row (Ep.row y), .beO ((A ++ x :: y :: B).map Ep.row)], none)], .reg 5 [(1, [.be (I ((A.length : Nat) : Int))], none)]] ⟨[0, 1, 2, 3, 8, 9], [(0, 0)], []⟩ [
      decide (Int.ofNat j > Int.ofNat a) = true,
      (0 : Int) ≤ Int.ofNat j,
      Int.ofNat j < Int.ofNat (List.length (List.map Ep.row (A ++ y :: x :: B))),
      (List.map Ep.row (A ++ y :: x :: B))[j]? = some (Ep.row x),
      IntKind.wrap IntKind.i64 (Int.ofNat j + (-1 : Int)) = Int.ofNat (List.length A),
      (0 : Int) ≤ Int.ofNat (List.length A),
      Int.ofNat (List.length A) < Int.ofNat (List.length (List.map Ep.row (A ++ y :: x :: B))),
      (List.map Ep.row (A ++ y :: x :: B))[List.length A]? = some (Ep.row y),
      Contract Try.prog (30 : Nat) [V.agg [V.val (Value.int IntKind.u64 (Ep.hi x)), V.val (Value.int IntKind.u64 (Ep.lo x)), I (Ep.first x), I (Ep.last x), Bo (Ep.sure x), V.sl (10 : Nat) (List.map Sp.row (Ep.spans x))], V.agg [V.val (Value.int IntKind.u64 (Ep.hi y)), V.val (Value.int IntKind.u64 (Ep.lo y)), I (Ep.first y), I (Ep.last y), Bo (Ep.sure y), V.sl (10 : Nat) (List.map Sp.row (Ep.spans y))]] [] (I (cmpE x y)) [],
      decide (cmpE x y < (0 : Int)) = true,
      IntKind.wrap IntKind.i64 (Int.ofNat j + (-1 : Int)) = Int.ofNat (List.length A),
      IntKind.wrap IntKind.i64 (Int.ofNat j + (-1 : Int)) = Int.ofNat (List.length A),
      (0 : Int) ≤ Int.ofNat (List.length A),
      Int.ofNat (List.length A) < Int.ofNat (List.length (List.map Ep.row (A ++ y :: x :: B))),
      (List.map Ep.row (A ++ y :: x :: B))[List.length A]? = some (Ep.row y),
      (0 : Int) ≤ Int.ofNat j,
      Int.ofNat j < Int.ofNat (List.length (List.map Ep.row (A ++ y :: x :: B))),
      (List.map Ep.row (A ++ y :: x :: B))[j]? = some (Ep.row x),
      (0 : Int) ≤ Int.ofNat j,
      Int.ofNat j < Int.ofNat (List.length (List.map Ep.row (A ++ y :: x :: B))),
      (List.map Ep.row (A ++ y :: x :: B))[j]? = some (Ep.row x),
      List.set (List.map Ep.row (A ++ y :: x :: B)) j [V.val (Value.int IntKind.u64 (Ep.hi y)), V.val (Value.int IntKind.u64 (Ep.lo y)), I (Ep.first y), I (Ep.last y), Bo (Ep.sure y), V.sl (10 : Nat) (List.map Sp.row (Ep.spans y))] = List.map Ep.row (A ++ y :: y :: B),
      (0 : Int) ≤ Int.ofNat (List.length A),
      Int.ofNat (List.length A) < Int.ofNat (List.length (List.map Ep.row (A ++ y :: y :: B))),
      (List.map Ep.row (A ++ y :: y :: B))[List.length A]? = some (Ep.row y),
      List.set (List.map Ep.row (A ++ y :: y :: B)) (List.length A) [V.val (Value.int IntKind.u64 (Ep.hi x)), V.val (Value.int IntKind.u64 (Ep.lo x)), I (Ep.first x), I (Ep.last x), Bo (Ep.sure x), V.sl (10 : Nat) (List.map Sp.row (Ep.spans x))] = List.map Ep.row (A ++ x :: y :: B),
      IntKind.wrap IntKind.i64 (Int.ofNat j + (-1 : Int)) = Int.ofNat (List.length A)] (by kernel_rfl)
    (by
      simp only [allP]
      and_intros <;> first
        | exact cCompare x y
        | exact hb
        | (simp; omega)
        | (rw [i64_small (by simp; omega)]; simp; omega)
        | exact at2 (by omega)
        | exact at1 (by omega)
        | exact set2 (by omega)
        | exact set1 (by omega)
        | (subst hj; simp; done)
        | (simp; done))

theorem soMgo (A B : List Ep) (x y : Ep)  (a b i j : Nat) (hj : j = A.length + 1) (hl : A.length + B.length ≤ 1000000) (ha : a < j) (hb : soLt  x y = true)  : CodeC Try.prog 1 53 soMB (soM (A ++ y :: x :: B)  a b i j) .normal (soM (A ++ x :: y :: B)  a b i A.length) := by
  exact CodeC.cast (by
    first
      | rfl) (soMgo_0 A B x y a b i j hj hl ha hb )

theorem soMst_0 (A B : List Ep) (x y : Ep)  (a b i j : Nat) (hj : j = A.length + 1) (hl : A.length + B.length ≤ 1000000) (ha : a < j) (hb : soLt  x y = false) : CodeC Try.prog 1 53 soMB (soM (A ++ y :: x :: B)  a b i j) (Ex.exit (2 : Nat)) ({ env := [((0 : Nat), V.own (0 : Nat)), ((1 : Nat), I (Int.ofNat a)), ((2 : Nat), I (Int.ofNat b)), ((3 : Nat), V.clo (Fn.func (30 : Nat)) [] []), ((8 : Nat), I (Int.ofNat i)), ((9 : Nat), I (Int.ofNat j))], st := [((0 : Nat), Obj.arr (6 : Nat) (List.map Ep.row (A ++ y :: x :: B)))], ids := [(0 : Nat), (0 : Nat)] }) :=
  runP hmix [.reg 4 [(3, [], some true), (8, [.row (Ep.row x)], none), (11, [.be (I ((A.length : Nat) : Int))], none), (13, [.row (Ep.row y)], none), (14, [.call [] [] (I ((cmpE) x y)) []], none), (15, [], some false)]] ⟨[0, 1, 2, 3, 8, 9], [(0, 0)], []⟩ [
      decide (Int.ofNat j > Int.ofNat a) = true,
      (0 : Int) ≤ Int.ofNat j,
      Int.ofNat j < Int.ofNat (List.length (List.map Ep.row (A ++ y :: x :: B))),
      (List.map Ep.row (A ++ y :: x :: B))[j]? = some (Ep.row x),
      IntKind.wrap IntKind.i64 (Int.ofNat j + (-1 : Int)) = Int.ofNat (List.length A),
      (0 : Int) ≤ Int.ofNat (List.length A),
      Int.ofNat (List.length A) < Int.ofNat (List.length (List.map Ep.row (A ++ y :: x :: B))),
      (List.map Ep.row (A ++ y :: x :: B))[List.length A]? = some (Ep.row y),
      Contract Try.prog (30 : Nat) [V.agg [V.val (Value.int IntKind.u64 (Ep.hi x)), V.val (Value.int IntKind.u64 (Ep.lo x)), I (Ep.first x), I (Ep.last x), Bo (Ep.sure x), V.sl (10 : Nat) (List.map Sp.row (Ep.spans x))], V.agg [V.val (Value.int IntKind.u64 (Ep.hi y)), V.val (Value.int IntKind.u64 (Ep.lo y)), I (Ep.first y), I (Ep.last y), Bo (Ep.sure y), V.sl (10 : Nat) (List.map Sp.row (Ep.spans y))]] [] (I (cmpE x y)) [],
      decide (cmpE x y < (0 : Int)) = false] (by kernel_rfl)
    (by
      simp only [allP]
      and_intros <;> first
        | exact cCompare x y
        | exact hb
        | (simp; omega)
        | (rw [i64_small (by simp; omega)]; simp; omega)
        | exact at2 (by omega)
        | exact at1 (by omega)
        | (subst hj; simp; done)
        | (simp; done))

theorem soMst (A B : List Ep) (x y : Ep)  (a b i j : Nat) (hj : j = A.length + 1) (hl : A.length + B.length ≤ 1000000) (ha : a < j) (hb : soLt  x y = false)  : CodeC Try.prog 1 53 soMB (soM (A ++ y :: x :: B)  a b i j) (.exit 2) (soM (A ++ y :: x :: B)  a b i j) := by
  exact CodeC.cast (by
    first
      | rfl) (soMst_0 A B x y a b i j hj hl ha hb )

theorem soMz_0 (l : List Ep)  (a b i j : Nat) (ha : j ≤ a) : CodeC Try.prog 1 53 soMB (soM (l)  a b i j) (Ex.exit (2 : Nat)) ({ env := [((0 : Nat), V.own (0 : Nat)), ((1 : Nat), I (Int.ofNat a)), ((2 : Nat), I (Int.ofNat b)), ((3 : Nat), V.clo (Fn.func (30 : Nat)) [] []), ((8 : Nat), I (Int.ofNat i)), ((9 : Nat), I (Int.ofNat j))], st := [((0 : Nat), Obj.arr (6 : Nat) (List.map Ep.row l))], ids := [(0 : Nat), (0 : Nat)] }) :=
  runP hmix [.reg 4 [(3, [], some false)]] ⟨[0, 1, 2, 3, 8, 9], [(0, 0)], []⟩ [
      decide (Int.ofNat j > Int.ofNat a) = false] (by kernel_rfl)
    (by
      simp only [allP]
      and_intros <;> first
        | (simp; omega))

theorem soMz (l : List Ep)  (a b i j : Nat) (ha : j ≤ a)  : CodeC Try.prog 1 53 soMB (soM (l)  a b i j) (.exit 2) (soM (l)  a b i j) := by
  exact CodeC.cast (by
    first
      | rfl) (soMz_0 l a b i j ha )

theorem soMin  (ho : Swo (soLt )) (P : List Ep) (b i : Nat) (x : Ep) (S : List Ep) : Srt (soLt ) S → ∀ R : List Ep, P.length + S.length + R.length ≤ 1000000 →
    ∃ j', LoopC Try.prog 1 53 soMB (soM (P ++ S ++ x :: R)  P.length b i (P.length + S.length)) (.exit 2) (soM (P ++ mrg (soLt ) S [x] ++ R)  P.length b i j') := by
  refine snoc_ind (P := fun S => Srt (soLt ) S → ∀ R : List Ep, P.length + S.length + R.length ≤ 1000000 → ∃ j', LoopC Try.prog 1 53 soMB (soM (P ++ S ++ x :: R)  P.length b i (P.length + S.length)) (.exit 2) (soM (P ++ mrg (soLt ) S [x] ++ R)  P.length b i j')) ?_ ?_ S
  · intro _ R _
    refine ⟨P.length, ?_⟩
    rw [mrg_nil_l, List.append_nil, List.length_nil, Nat.add_zero]
    simp only [List.append_assoc, List.cons_append, List.nil_append]
    exact LoopC.last (soMz _  _ b i _ (Nat.le_refl _)) (by simp)
  · intro S y ih hs R hR
    have hs' := List.pairwise_append.1 hs
    simp only [List.length_append, List.length_cons, List.length_nil] at hR ⊢
    cases h : soLt  x y with
    | true =>
      obtain ⟨j', hj⟩ := ih hs'.1 (y :: R) (by simp; omega)
      have e : mrg (soLt ) (S ++ [y]) [x] = mrg (soLt ) S [x] ++ [y] := by
        have := mrg_append ho S [x] [y] [] (by simp) (fun z hz w hw => by simp at hz hw; subst hz hw; exact h)
        rwa [mrg_nil_r, List.append_nil] at this
      refine ⟨j', ?_⟩
      rw [e]
      have hr := soMgo (P ++ S) R x y  P.length b i (P.length + (S.length + 1)) (by simp; omega) (by simp; omega) (by omega) h
      rw [show (P ++ S).length = P.length + S.length by simp] at hr
      simp only [List.append_assoc, List.cons_append, List.nil_append] at hr hj ⊢
      exact LoopC.next hr hj
    | false =>
      have e : mrg (soLt ) (S ++ [y]) [x] = S ++ [y, x] := by
        have := mrg_one ho (S ++ [y]) x [] (fun z hz => by
          rcases List.mem_append.1 hz with hz | hz
          · exact ho.trans (hs'.2.2 z hz y (by simp)) h
          · simp at hz; subst hz; exact h) (by simp)
        simpa using this
      refine ⟨P.length + (S.length + 1), ?_⟩
      rw [e]
      have hr := soMst (P ++ S) R x y  P.length b i (P.length + (S.length + 1)) (by simp; omega) (by simp; omega) (by omega) h
      simp only [List.append_assoc, List.cons_append, List.nil_append] at hr ⊢
      exact LoopC.last hr (by simp)

theorem soNgo_0 (l l' : List Ep)  (a b i j : Nat) (hi : i < b) (hb : b ≤ 1000000) (hl : LoopC Try.prog 1 53 soMB (soM (l)  a b i i) (.exit 2) (soM (l')  a b i j)) : CodeC Try.prog 1 53 soNB (soN (l)  a b i) (Ex.normal) ({ env := [((0 : Nat), V.own (0 : Nat)), ((1 : Nat), I (Int.ofNat a)), ((2 : Nat), I (Int.ofNat b)), ((3 : Nat), V.clo (Fn.func (30 : Nat)) [] []), ((8 : Nat), I (Int.ofNat (i + (1 : Nat))))], st := [((0 : Nat), Obj.arr (6 : Nat) (List.map Ep.row l'))], ids := [(0 : Nat), (0 : Nat)] }) :=
  runP hmix [.reg 1 [(2, [], some true)], .cut ⟨[0, 1, 2, 3, 8, 9], [(0, 0)], []⟩ (.exit 2) (soM (l')  a b i j), .reg 2 [(1, [.be (I ((i + 1 : Nat) : Int))], none)]] ⟨[0, 1, 2, 3, 8], [(0, 0)], []⟩ [
      decide (Int.ofNat i < Int.ofNat b) = true,
      LoopC Try.prog (1 : Nat) (53 : Nat) soMB { env := [((0 : Nat), V.own (0 : Nat)), ((1 : Nat), I (Int.ofNat a)), ((2 : Nat), I (Int.ofNat b)), ((3 : Nat), V.clo (Fn.func (30 : Nat)) [] []), ((8 : Nat), I (Int.ofNat i)), ((9 : Nat), I (Int.ofNat i))], st := [((0 : Nat), Obj.arr (6 : Nat) (List.map Ep.row l))], ids := [(0 : Nat), (0 : Nat)] } (Ex.exit (2 : Nat)) { env := [((0 : Nat), V.own (0 : Nat)), ((1 : Nat), I (Int.ofNat a)), ((2 : Nat), I (Int.ofNat b)), ((3 : Nat), V.clo (Fn.func (30 : Nat)) [] []), ((8 : Nat), I (Int.ofNat i)), ((9 : Nat), I (Int.ofNat j))], st := [((0 : Nat), Obj.arr (6 : Nat) (List.map Ep.row l'))], ids := [(0 : Nat), (0 : Nat)] },
      IntKind.wrap IntKind.i64 (Int.ofNat (i + (1 : Nat))) = Int.ofNat (i + (1 : Nat))] (by kernel_rfl)
    (by
      simp only [allP]
      and_intros <;> first
        | (simp; omega)
        | exact hl
        | exact i64_small (by simp; omega))

theorem soNgo (l l' : List Ep)  (a b i j : Nat) (hi : i < b) (hb : b ≤ 1000000) (hl : LoopC Try.prog 1 53 soMB (soM (l)  a b i i) (.exit 2) (soM (l')  a b i j))  : CodeC Try.prog 1 53 soNB (soN (l)  a b i) .normal (soN (l')  a b (i + 1)) := by
  exact CodeC.cast (by
    first
      | rfl) (soNgo_0 l l' a b i j hi hb hl )

theorem soNz_0 (l : List Ep)  (a b i : Nat) (hi : b ≤ i) : CodeC Try.prog 1 53 soNB (soN (l)  a b i) (Ex.exit (0 : Nat)) ({ env := [((0 : Nat), V.own (0 : Nat)), ((1 : Nat), I (Int.ofNat a)), ((2 : Nat), I (Int.ofNat b)), ((3 : Nat), V.clo (Fn.func (30 : Nat)) [] []), ((8 : Nat), I (Int.ofNat i))], st := [((0 : Nat), Obj.arr (6 : Nat) (List.map Ep.row l))], ids := [(0 : Nat), (0 : Nat)] }) :=
  runP hmix [.reg 1 [(2, [], some false)]] ⟨[0, 1, 2, 3, 8], [(0, 0)], []⟩ [
      decide (Int.ofNat i < Int.ofNat b) = false] (by kernel_rfl)
    (by
      simp only [allP]
      and_intros <;> first
        | (simp; omega))

theorem soNz (l : List Ep)  (a b i : Nat) (hi : b ≤ i)  : CodeC Try.prog 1 53 soNB (soN (l)  a b i) (.exit 0) (soN (l)  a b i) := by
  exact CodeC.cast (by
    first
      | rfl) (soNz_0 l a b i hi )

theorem soI0_0 (l l' : List Ep)  (a b i : Nat) (ha : a ≤ 1000000) (hl : LoopC Try.prog 1 53 soNB (soN (l)  a b (a + 1)) (.exit 0) (soN (l')  a b i)) : Contract Try.prog 41 [.own 0, I (a : Int), I (b : Int), .clo (.func 30) [] []] [.arr 6 (l.map Ep.row)] (V.tup []) ([some (Obj.arr (6 : Nat) (List.map Ep.row l'))]) :=
  vcP hmix [.reg 0 [(1, [.be (I ((a + 1 : Nat) : Int))], none)], .cut ⟨[0, 1, 2, 3, 8], [(0, 0)], []⟩ (.exit 0) (soN (l')  a b i)] [] [
      IntKind.wrap IntKind.i64 (Int.ofNat (a + (1 : Nat))) = Int.ofNat (a + (1 : Nat)),
      LoopC Try.prog (1 : Nat) (53 : Nat) soNB { env := [((0 : Nat), V.own (0 : Nat)), ((1 : Nat), I (Int.ofNat a)), ((2 : Nat), I (Int.ofNat b)), ((3 : Nat), V.clo (Fn.func (30 : Nat)) [] []), ((8 : Nat), I (Int.ofNat (a + (1 : Nat))))], st := [((0 : Nat), Obj.arr (6 : Nat) (List.map Ep.row l))], ids := [(0 : Nat), (0 : Nat)] } (Ex.exit (0 : Nat)) { env := [((0 : Nat), V.own (0 : Nat)), ((1 : Nat), I (Int.ofNat a)), ((2 : Nat), I (Int.ofNat b)), ((3 : Nat), V.clo (Fn.func (30 : Nat)) [] []), ((8 : Nat), I (Int.ofNat i))], st := [((0 : Nat), Obj.arr (6 : Nat) (List.map Ep.row l'))], ids := [(0 : Nat), (0 : Nat)] }] (by kernel_rfl)
    (by
      simp only [allP]
      and_intros <;> first
        | exact hl
        | exact i64_small (by simp; omega))

theorem soI0 (l l' : List Ep)  (a b i : Nat) (ha : a ≤ 1000000) (hl : LoopC Try.prog 1 53 soNB (soN (l)  a b (a + 1)) (.exit 0) (soN (l')  a b i)) : Contract Try.prog 41 [.own 0, I (a : Int), I (b : Int), .clo (.func 30) [] []] [.arr 6 (l.map Ep.row)] (.tup []) [some (.arr 6 ((l').map Ep.row))] := by
  exact Contract.cast (by
    first
      | rfl) (by
    first
      | rfl) (soI0_0 l l' a b i ha hl )

theorem soNin  (ho : Swo (soLt )) (P : List Ep) (b : Nat) : ∀ (n : Nat) (S T R : List Ep), T.length = n → b = P.length + S.length + T.length → P.length + S.length + T.length + R.length ≤ 1000000 →
    LoopC Try.prog 1 53 soNB (soN (P ++ srt (soLt ) S ++ (T ++ R))  P.length b (P.length + S.length)) (.exit 0) (soN (P ++ srt (soLt ) (S ++ T) ++ R)  P.length b b)
  | 0, S, T, R, hn, hb, hs => by
    have : T = [] := List.eq_nil_of_length_eq_zero hn
    subst this
    simp only [List.length_nil, Nat.add_zero] at hb
    subst hb
    rw [List.append_nil, List.nil_append]
    exact LoopC.last (soNz _  _ _ _ (Nat.le_refl _)) (by simp)
  | n + 1, S, [], R, hn, hb, hs => by simp at hn
  | n + 1, S, x :: T, R, hn, hb, hs => by
    simp only [List.length_cons] at hn hb hs
    obtain ⟨j, hj⟩ := soMin  ho P b (P.length + S.length) x (srt (soLt ) S) (srt_srt ho S) (T ++ R) (by rw [srt_len]; simp; omega)
    rw [srt_len] at hj
    have hr := soNgo _ _  P.length b (P.length + S.length) j (by omega) (by omega) hj
    rw [← srt_snoc] at hr
    have ih := soNin  ho P b n (S ++ [x]) T R (by omega) (by simp; omega) (by simp; omega)
    rw [show P.length + (S ++ [x]).length = P.length + S.length + 1 by simp; omega] at ih
    simp only [List.append_assoc, List.cons_append, List.nil_append] at hr ih ⊢
    exact LoopC.next hr ih
/-- Insertion sorts a part. -/
theorem soIns  (ho : Swo (soLt )) (P S R : List Ep) (a b : Nat) (ha : a = P.length) (hb : b = P.length + S.length) (hs : P.length + S.length + R.length ≤ 1000000) :
    Contract Try.prog 41 [.own 0, I (a : Int), I (b : Int), .clo (.func 30) [] []] [.arr 6 ((P ++ S ++ R).map Ep.row)] (.tup []) [some (.arr 6 ((P ++ srt (soLt ) S ++ R).map Ep.row))] := by
  subst ha
  cases S with
  | nil =>
    refine soI0 _ _  _ _ (P.length + 1) (by omega) ?_
    exact LoopC.last (soNz _  _ _ _ (by simp at hb; omega)) (by simp)
  | cons x S =>
    refine soI0 _ _  _ _ b (by omega) ?_
    have h := soNin  ho P b S.length [x] S R rfl (by simp at hb ⊢; omega) (by simp at hs ⊢; omega)
    have e : srt (soLt ) [x] = [x] := mrg_nil_l _
    rw [e] at h
    simp only [List.append_assoc, List.cons_append, List.nil_append, List.length_cons, List.length_nil] at h ⊢
    exact h

theorem soWgo_0 (A M' B : List Ep) (x y : Ep)  (a b n i : Nat) (hi : i < n) (ha : a + i = A.length) (hb : b + i = A.length + 1 + M'.length) (hs : A.length + M'.length + B.length ≤ 1000000) : CodeC Try.prog 1 38 soWB (soW (A ++ x :: (M' ++ y :: B))  a b n i) (Ex.normal) ({ env := [((0 : Nat), V.own (0 : Nat)), ((1 : Nat), I (Int.ofNat a)), ((2 : Nat), I (Int.ofNat b)), ((3 : Nat), I (Int.ofNat n)), ((10 : Nat), I (Int.ofNat (i + (1 : Nat))))], st := [((0 : Nat), Obj.arr (6 : Nat) (List.map Ep.row (A ++ y :: (M' ++ x :: B))))], ids := [(0 : Nat), (0 : Nat)] }) :=
  runP hmix [.reg 1 [(2, [], some true)], .reg 3 [(3, [.be (I ((A.length : Nat) : Int))], none), (7, [.be (I ((A.length + 1 + M'.length : Nat) : Int))], none), (11, [.be (I ((A.length + 1 + M'.length : Nat) : Int))], none), (13, [.row (Ep.row y)], none), (17, [.be (I ((A.length : Nat) : Int))], none), (19, [.row (Ep.row x)], none), (21, [.row (Ep.row x), .beO ((A ++ y :: (M' ++ y :: B)).map Ep.row)], none), (23, [.row (Ep.row y), .beO ((A ++ y :: (M' ++ x :: B)).map Ep.row)], none)], .reg 2 [(1, [.be (I ((i + 1 : Nat) : Int))], none)]] ⟨[0, 1, 2, 3, 10], [(0, 0)], []⟩ [
      decide (Int.ofNat i < Int.ofNat n) = true,
      IntKind.wrap IntKind.i64 (Int.ofNat (a + i)) = Int.ofNat (List.length A),
      IntKind.wrap IntKind.i64 (Int.ofNat (b + i)) = Int.ofNat (List.length A + (1 : Nat) + List.length M'),
      IntKind.wrap IntKind.i64 (Int.ofNat (b + i)) = Int.ofNat (List.length A + (1 : Nat) + List.length M'),
      (0 : Int) ≤ Int.ofNat (List.length A + (1 : Nat) + List.length M'),
      Int.ofNat (List.length A + (1 : Nat) + List.length M') < Int.ofNat (List.length (List.map Ep.row (A ++ x :: (M' ++ y :: B)))),
      (List.map Ep.row (A ++ x :: (M' ++ y :: B)))[List.length A + (1 : Nat) + List.length M']? = some (Ep.row y),
      IntKind.wrap IntKind.i64 (Int.ofNat (a + i)) = Int.ofNat (List.length A),
      (0 : Int) ≤ Int.ofNat (List.length A),
      Int.ofNat (List.length A) < Int.ofNat (List.length (List.map Ep.row (A ++ x :: (M' ++ y :: B)))),
      (List.map Ep.row (A ++ x :: (M' ++ y :: B)))[List.length A]? = some (Ep.row x),
      (0 : Int) ≤ Int.ofNat (List.length A),
      Int.ofNat (List.length A) < Int.ofNat (List.length (List.map Ep.row (A ++ x :: (M' ++ y :: B)))),
      (List.map Ep.row (A ++ x :: (M' ++ y :: B)))[List.length A]? = some (Ep.row x),
      List.set (List.map Ep.row (A ++ x :: (M' ++ y :: B))) (List.length A) [V.val (Value.int IntKind.u64 (Ep.hi y)), V.val (Value.int IntKind.u64 (Ep.lo y)), I (Ep.first y), I (Ep.last y), Bo (Ep.sure y), V.sl (10 : Nat) (List.map Sp.row (Ep.spans y))] = List.map Ep.row (A ++ y :: (M' ++ y :: B)),
      (0 : Int) ≤ Int.ofNat (List.length A + (1 : Nat) + List.length M'),
      Int.ofNat (List.length A + (1 : Nat) + List.length M') < Int.ofNat (List.length (List.map Ep.row (A ++ y :: (M' ++ y :: B)))),
      (List.map Ep.row (A ++ y :: (M' ++ y :: B)))[List.length A + (1 : Nat) + List.length M']? = some (Ep.row y),
      List.set (List.map Ep.row (A ++ y :: (M' ++ y :: B))) (List.length A + (1 : Nat) + List.length M') [V.val (Value.int IntKind.u64 (Ep.hi x)), V.val (Value.int IntKind.u64 (Ep.lo x)), I (Ep.first x), I (Ep.last x), Bo (Ep.sure x), V.sl (10 : Nat) (List.map Sp.row (Ep.spans x))] = List.map Ep.row (A ++ y :: (M' ++ x :: B)),
      IntKind.wrap IntKind.i64 (Int.ofNat (i + (1 : Nat))) = Int.ofNat (i + (1 : Nat))] (by kernel_rfl)
    (by
      simp only [allP]
      and_intros <;> first
        | (simp; omega)
        | exact i64_small (by simp; omega)
        | (rw [i64_small (by simp; omega)]; simp; omega)
        | exact at3 (by omega)
        | exact at1 (by omega)
        | exact set3 (by omega)
        | exact set1 (by omega)
        | (simp; done))

theorem soWgo (A M' B : List Ep) (x y : Ep)  (a b n i : Nat) (hi : i < n) (ha : a + i = A.length) (hb : b + i = A.length + 1 + M'.length) (hs : A.length + M'.length + B.length ≤ 1000000)  : CodeC Try.prog 1 38 soWB (soW (A ++ x :: (M' ++ y :: B))  a b n i) .normal (soW (A ++ y :: (M' ++ x :: B))  a b n (i + 1)) := by
  exact CodeC.cast (by
    first
      | rfl) (soWgo_0 A M' B x y a b n i hi ha hb hs )

theorem soWz_0 (l : List Ep)  (a b n i : Nat) (hi : n ≤ i) : CodeC Try.prog 1 38 soWB (soW (l)  a b n i) (Ex.exit (0 : Nat)) ({ env := [((0 : Nat), V.own (0 : Nat)), ((1 : Nat), I (Int.ofNat a)), ((2 : Nat), I (Int.ofNat b)), ((3 : Nat), I (Int.ofNat n)), ((10 : Nat), I (Int.ofNat i))], st := [((0 : Nat), Obj.arr (6 : Nat) (List.map Ep.row l))], ids := [(0 : Nat), (0 : Nat)] }) :=
  runP hmix [.reg 1 [(2, [], some false)]] ⟨[0, 1, 2, 3, 10], [(0, 0)], []⟩ [
      decide (Int.ofNat i < Int.ofNat n) = false] (by kernel_rfl)
    (by
      simp only [allP]
      and_intros <;> first
        | (simp; omega))

theorem soWz (l : List Ep)  (a b n i : Nat) (hi : n ≤ i)  : CodeC Try.prog 1 38 soWB (soW (l)  a b n i) (.exit 0) (soW (l)  a b n i) := by
  exact CodeC.cast (by
    first
      | rfl) (soWz_0 l a b n i hi )

theorem soW0_0 (l l' : List Ep)  (a b n i : Nat) (hl : LoopC Try.prog 1 38 soWB (soW (l)  a b n 0) (.exit 0) (soW (l')  a b n i)) : Contract Try.prog 47 [.own 0, I (a : Int), I (b : Int), I (n : Int), .clo (.func 30) [] []] [.arr 6 (l.map Ep.row)] (V.tup []) ([some (Obj.arr (6 : Nat) (List.map Ep.row l'))]) :=
  vcP hmix [.cut ⟨[0, 1, 2, 3, 10], [(0, 0)], []⟩ (.exit 0) (soW (l')  a b n i)] [] [
      LoopC Try.prog (1 : Nat) (38 : Nat) soWB { env := [((0 : Nat), V.own (0 : Nat)), ((1 : Nat), I (Int.ofNat a)), ((2 : Nat), I (Int.ofNat b)), ((3 : Nat), I (Int.ofNat n)), ((10 : Nat), I (0 : Int))], st := [((0 : Nat), Obj.arr (6 : Nat) (List.map Ep.row l))], ids := [(0 : Nat), (0 : Nat)] } (Ex.exit (0 : Nat)) { env := [((0 : Nat), V.own (0 : Nat)), ((1 : Nat), I (Int.ofNat a)), ((2 : Nat), I (Int.ofNat b)), ((3 : Nat), I (Int.ofNat n)), ((10 : Nat), I (Int.ofNat i))], st := [((0 : Nat), Obj.arr (6 : Nat) (List.map Ep.row l'))], ids := [(0 : Nat), (0 : Nat)] }] (by kernel_rfl)
    (by
      simp only [allP]
      and_intros <;> first
        | exact hl)

theorem soW0 (l l' : List Ep)  (a b n i : Nat) (hl : LoopC Try.prog 1 38 soWB (soW (l)  a b n 0) (.exit 0) (soW (l')  a b n i)) : Contract Try.prog 47 [.own 0, I (a : Int), I (b : Int), I (n : Int), .clo (.func 30) [] []] [.arr 6 (l.map Ep.row)] (.tup []) [some (.arr 6 ((l').map Ep.row))] := by
  exact Contract.cast (by
    first
      | rfl) (by
    first
      | rfl) (soW0_0 l l' a b n i hl )

theorem soWin  (P M' Q : List Ep) (a b n : Nat) : ∀ (U V U' V' : List Ep), U.length = V.length → U'.length = V'.length → U'.length + U.length = n → a = P.length → b = P.length + n + M'.length → P.length + M'.length + Q.length + 2 * n ≤ 1000000 →
    LoopC Try.prog 1 38 soWB (soW (P ++ V' ++ U ++ M' ++ U' ++ V ++ Q)  a b n U'.length) (.exit 0) (soW (P ++ (V' ++ V) ++ M' ++ (U' ++ U) ++ Q)  a b n n)
  | [], [], U', V', h1, h2, h3, ha, hb, hs => by
    simp only [List.length_nil, Nat.add_zero] at h3
    subst h3
    simp only [List.append_nil]
    exact LoopC.last (soWz _  _ _ _ _ (Nat.le_refl _)) (by simp)
  | [], _ :: _, _, _, h1, _, _, _, _, _ => by simp at h1
  | _ :: _, [], _, _, h1, _, _, _, _, _ => by simp at h1
  | x :: U, y :: V, U', V', h1, h2, h3, ha, hb, hs => by
    simp only [List.length_cons] at h1 h3
    have hr := soWgo (P ++ V') (U ++ M' ++ U') (V ++ Q) x y  a b n U'.length (by omega) (by simp; omega) (by simp; omega) (by simp; omega)
    have ih := soWin  P M' Q a b n U V (U' ++ [x]) (V' ++ [y]) (by omega) (by simp; omega) (by simp; omega) ha hb hs
    rw [show (U' ++ [x]).length = U'.length + 1 by simp] at ih
    simp only [List.append_assoc, List.cons_append, List.nil_append] at hr ih ⊢
    exact LoopC.next hr ih
theorem soSwap  (P U M' V Q : List Ep) (a b n : Nat) (h1 : U.length = n) (h2 : V.length = n) (ha : a = P.length) (hb : b = P.length + n + M'.length) (hs : P.length + M'.length + Q.length + 2 * n ≤ 1000000) :
    Contract Try.prog 47 [.own 0, I (a : Int), I (b : Int), I (n : Int), .clo (.func 30) [] []] [.arr 6 ((P ++ U ++ M' ++ V ++ Q).map Ep.row)] (.tup []) [some (.arr 6 ((P ++ V ++ M' ++ U ++ Q).map Ep.row))] := by
  refine soW0 _ _  _ _ _ n ?_
  have h := soWin  P M' Q a b n U V [] [] (by omega) rfl (by simpa using h1) ha hb hs
  simpa using h

theorem soRgt_0 (l l' : List Ep)  (m i j : Nat) (hij : j < i) (hm : i ≤ m) (hs : m + j ≤ 1000000) (hc : Contract Try.prog 47 [.own 0, I ((m - i : Nat) : Int), I ((m : Nat) : Int), I ((j : Nat) : Int), .clo (.func 30) [] []] [.arr 6 (l.map Ep.row)] (.tup []) [some (.arr 6 ((l').map Ep.row))]) : CodeC Try.prog 1 58 soRB (soR (l)  m i j) (Ex.normal) ({ env := [((0 : Nat), V.own (0 : Nat)), ((2 : Nat), I (Int.ofNat m)), ((4 : Nat), V.clo (Fn.func (30 : Nat)) [] []), ((10 : Nat), I (Int.ofNat (i - j))), ((11 : Nat), I (Int.ofNat j))], st := [((0 : Nat), Obj.arr (6 : Nat) (List.map Ep.row l'))], ids := [(0 : Nat), (0 : Nat)] }) :=
  runP hmix [.reg 2 [(2, [], some true)], .reg 3 [(2, [], some true)], .reg 4 [(3, [.be (I ((m - i : Nat) : Int))], none), (7, [.call [0] [] (.tup []) [some (.arr 6 ((l').map Ep.row))]], none)], .reg 5 [(2, [.be (I ((i - j : Nat) : Int))], none)]] ⟨[0, 2, 4, 10, 11], [(0, 0)], []⟩ [
      (Int.ofNat i != Int.ofNat j) = true,
      decide (Int.ofNat i > Int.ofNat j) = true,
      IntKind.wrap IntKind.i64 (Int.ofNat m + -Int.ofNat i) = Int.ofNat (m - i),
      Contract Try.prog (47 : Nat) [V.own (0 : Nat), I (Int.ofNat (m - i)), I (Int.ofNat m), I (Int.ofNat j), V.clo (Fn.func (30 : Nat)) [] []] [Obj.arr (6 : Nat) (List.map Ep.row l)] (V.tup []) [some (Obj.arr (6 : Nat) (List.map Ep.row l'))],
      IntKind.wrap IntKind.i64 (Int.ofNat i + -Int.ofNat j) = Int.ofNat (i - j)] (by kernel_rfl)
    (by
      simp only [allP]
      and_intros <;> first
        | omega
        | (simp; omega)
        | (rw [i64_small (by simp; omega)]; simp; omega))

theorem soRgt (l l' : List Ep)  (m i j : Nat) (hij : j < i) (hm : i ≤ m) (hs : m + j ≤ 1000000) (hc : Contract Try.prog 47 [.own 0, I ((m - i : Nat) : Int), I ((m : Nat) : Int), I ((j : Nat) : Int), .clo (.func 30) [] []] [.arr 6 (l.map Ep.row)] (.tup []) [some (.arr 6 ((l').map Ep.row))])  : CodeC Try.prog 1 58 soRB (soR (l)  m i j) .normal (soR (l')  m (i - j) j) := by
  exact CodeC.cast (by
    first
      | rfl) (soRgt_0 l l' m i j hij hm hs hc )

theorem soRlt_0 (l l' : List Ep)  (m i j : Nat) (hij : i < j) (hm : i ≤ m) (hs : m + j ≤ 1000000) (hc : Contract Try.prog 47 [.own 0, I ((m - i : Nat) : Int), I ((m + j - i : Nat) : Int), I ((i : Nat) : Int), .clo (.func 30) [] []] [.arr 6 (l.map Ep.row)] (.tup []) [some (.arr 6 ((l').map Ep.row))]) : CodeC Try.prog 1 58 soRB (soR (l)  m i j) (Ex.normal) ({ env := [((0 : Nat), V.own (0 : Nat)), ((2 : Nat), I (Int.ofNat m)), ((4 : Nat), V.clo (Fn.func (30 : Nat)) [] []), ((10 : Nat), I (Int.ofNat i)), ((11 : Nat), I (Int.ofNat (j - i)))], st := [((0 : Nat), Obj.arr (6 : Nat) (List.map Ep.row l'))], ids := [(0 : Nat), (0 : Nat)] }) :=
  runP hmix [.reg 2 [(2, [], some true)], .reg 3 [(2, [], some false)], .reg 6 [(3, [.be (I ((m - i : Nat) : Int))], none), (6, [.be (I ((m + j : Nat) : Int))], none), (8, [.be (I ((m + j - i : Nat) : Int))], none), (11, [.call [0] [] (.tup []) [some (.arr 6 ((l').map Ep.row))]], none)], .reg 7 [(2, [.be (I ((j - i : Nat) : Int))], none)]] ⟨[0, 2, 4, 10, 11], [(0, 0)], []⟩ [
      (Int.ofNat i != Int.ofNat j) = true,
      decide (Int.ofNat i > Int.ofNat j) = false,
      IntKind.wrap IntKind.i64 (Int.ofNat m + -Int.ofNat i) = Int.ofNat (m - i),
      IntKind.wrap IntKind.i64 (Int.ofNat (m + j)) = Int.ofNat (m + j),
      IntKind.wrap IntKind.i64 (Int.ofNat (m + j) + -Int.ofNat i) = Int.ofNat (m + j - i),
      Contract Try.prog (47 : Nat) [V.own (0 : Nat), I (Int.ofNat (m - i)), I (Int.ofNat (m + j - i)), I (Int.ofNat i), V.clo (Fn.func (30 : Nat)) [] []] [Obj.arr (6 : Nat) (List.map Ep.row l)] (V.tup []) [some (Obj.arr (6 : Nat) (List.map Ep.row l'))],
      IntKind.wrap IntKind.i64 (Int.ofNat j + -Int.ofNat i) = Int.ofNat (j - i)] (by kernel_rfl)
    (by
      simp only [allP]
      and_intros <;> first
        | omega
        | (simp; omega)
        | exact i64_small (by simp; omega)
        | (rw [i64_small (by simp; omega)]; simp; omega))

theorem soRlt (l l' : List Ep)  (m i j : Nat) (hij : i < j) (hm : i ≤ m) (hs : m + j ≤ 1000000) (hc : Contract Try.prog 47 [.own 0, I ((m - i : Nat) : Int), I ((m + j - i : Nat) : Int), I ((i : Nat) : Int), .clo (.func 30) [] []] [.arr 6 (l.map Ep.row)] (.tup []) [some (.arr 6 ((l').map Ep.row))])  : CodeC Try.prog 1 58 soRB (soR (l)  m i j) .normal (soR (l')  m i (j - i)) := by
  exact CodeC.cast (by
    first
      | rfl) (soRlt_0 l l' m i j hij hm hs hc )

theorem soReq_0 (l : List Ep)  (m i : Nat)  : CodeC Try.prog 1 58 soRB (soR (l)  m i i) (Ex.exit (0 : Nat)) ({ env := [((0 : Nat), V.own (0 : Nat)), ((2 : Nat), I (Int.ofNat m)), ((4 : Nat), V.clo (Fn.func (30 : Nat)) [] []), ((10 : Nat), I (Int.ofNat i)), ((11 : Nat), I (Int.ofNat i))], st := [((0 : Nat), Obj.arr (6 : Nat) (List.map Ep.row l))], ids := [(0 : Nat), (0 : Nat)] }) :=
  runP hmix [.reg 2 [(2, [], some false)]] ⟨[0, 2, 4, 10, 11], [(0, 0)], []⟩ [
      (Int.ofNat i != Int.ofNat i) = false] (by kernel_rfl)
    (by
      simp only [allP]
      and_intros <;> first
        | (simp; done))

theorem soReq (l : List Ep)  (m i : Nat)   : CodeC Try.prog 1 58 soRB (soR (l)  m i i) (.exit 0) (soR (l)  m i i) := by
  exact CodeC.cast (by
    first
      | rfl) (soReq_0 l m i  )

theorem soR0_0 (l l1 l' : List Ep)  (a m b i : Nat) (ham : a ≤ m) (hmb : m ≤ b) (hs : b ≤ 1000000) (hi : i ≤ m) (hl : LoopC Try.prog 1 58 soRB (soR (l)  m (m - a) (b - m)) (.exit 0) (soR (l1)  m i i)) (hc : Contract Try.prog 47 [.own 0, I ((m - i : Nat) : Int), I (m : Int), I (i : Int), .clo (.func 30) [] []] [.arr 6 ((l1).map Ep.row)] (.tup []) [some (.arr 6 ((l').map Ep.row))]) : Contract Try.prog 46 [.own 0, I (a : Int), I (m : Int), I (b : Int), .clo (.func 30) [] []] [.arr 6 (l.map Ep.row)] (V.tup []) ([some (Obj.arr (6 : Nat) (List.map Ep.row l'))]) :=
  vcP hmix [.reg 0 [(2, [.be (I ((m - a : Nat) : Int))], none)], .reg 1 [(2, [.be (I ((b - m : Nat) : Int))], none)], .cut ⟨[0, 2, 4, 10, 11], [(0, 0)], []⟩ (.exit 0) (soR (l1)  m i i), .reg 8 [(3, [.be (I ((m - i : Nat) : Int))], none), (7, [.call [0] [] (.tup []) [some (.arr 6 ((l').map Ep.row))]], none)]] [] [
      IntKind.wrap IntKind.i64 (Int.ofNat m + -Int.ofNat a) = Int.ofNat (m - a),
      IntKind.wrap IntKind.i64 (Int.ofNat b + -Int.ofNat m) = Int.ofNat (b - m),
      LoopC Try.prog (1 : Nat) (58 : Nat) soRB { env := [((0 : Nat), V.own (0 : Nat)), ((2 : Nat), I (Int.ofNat m)), ((4 : Nat), V.clo (Fn.func (30 : Nat)) [] []), ((10 : Nat), I (Int.ofNat (m - a))), ((11 : Nat), I (Int.ofNat (b - m)))], st := [((0 : Nat), Obj.arr (6 : Nat) (List.map Ep.row l))], ids := [(0 : Nat), (0 : Nat)] } (Ex.exit (0 : Nat)) { env := [((0 : Nat), V.own (0 : Nat)), ((2 : Nat), I (Int.ofNat m)), ((4 : Nat), V.clo (Fn.func (30 : Nat)) [] []), ((10 : Nat), I (Int.ofNat i)), ((11 : Nat), I (Int.ofNat i))], st := [((0 : Nat), Obj.arr (6 : Nat) (List.map Ep.row l1))], ids := [(0 : Nat), (0 : Nat)] },
      IntKind.wrap IntKind.i64 (Int.ofNat m + -Int.ofNat i) = Int.ofNat (m - i),
      Contract Try.prog (47 : Nat) [V.own (0 : Nat), I (Int.ofNat (m - i)), I (Int.ofNat m), I (Int.ofNat i), V.clo (Fn.func (30 : Nat)) [] []] [Obj.arr (6 : Nat) (List.map Ep.row l1)] (V.tup []) [some (Obj.arr (6 : Nat) (List.map Ep.row l'))]] (by kernel_rfl)
    (by
      simp only [allP]
      and_intros <;> first
        | omega
        | exact hl
        | (rw [i64_small (by simp; omega)]; simp; omega))

theorem soR0 (l l1 l' : List Ep)  (a m b i : Nat) (ham : a ≤ m) (hmb : m ≤ b) (hs : b ≤ 1000000) (hi : i ≤ m) (hl : LoopC Try.prog 1 58 soRB (soR (l)  m (m - a) (b - m)) (.exit 0) (soR (l1)  m i i)) (hc : Contract Try.prog 47 [.own 0, I ((m - i : Nat) : Int), I (m : Int), I (i : Int), .clo (.func 30) [] []] [.arr 6 ((l1).map Ep.row)] (.tup []) [some (.arr 6 ((l').map Ep.row))]) : Contract Try.prog 46 [.own 0, I (a : Int), I (m : Int), I (b : Int), .clo (.func 30) [] []] [.arr 6 (l.map Ep.row)] (.tup []) [some (.arr 6 ((l').map Ep.row))] := by
  exact Contract.cast (by
    first
      | rfl) (by
    first
      | rfl) (soR0_0 l l1 l' a m b i ham hmb hs hi hl hc )

theorem soRin  (m : Nat) : ∀ (n : Nat) (P X Y Q : List Ep), X.length + Y.length ≤ n → 0 < X.length → 0 < Y.length → m = P.length + X.length → P.length + X.length + Y.length + Q.length ≤ 1000000 →
    ∃ (i : Nat) (P' U V Q' : List Ep), U.length = i ∧ V.length = i ∧ m = P'.length + i ∧ P'.length + Q'.length + 2 * i ≤ 1000000 ∧ P' ++ V ++ U ++ Q' = P ++ Y ++ X ++ Q ∧
      LoopC Try.prog 1 58 soRB (soR (P ++ X ++ Y ++ Q)  m X.length Y.length) (.exit 0) (soR (P' ++ U ++ V ++ Q')  m i i)
  | 0, P, X, Y, Q, hn, h1, h2, hm, hs => by omega
  | n + 1, P, X, Y, Q, hn, h1, h2, hm, hs => by
    rcases Nat.lt_trichotomy X.length Y.length with h | h | h
    · -- the second one is longer: its end goes ahead
      have hY : Y.take (Y.length - X.length) ++ Y.drop (Y.length - X.length) = Y := List.take_append_drop _ _
      generalize hU : Y.take (Y.length - X.length) = U at hY
      generalize hV : Y.drop (Y.length - X.length) = V at hY
      have lU : U.length = Y.length - X.length := by rw [← hU]; simp
      have lV : V.length = X.length := by rw [← hV]; simp; omega
      have hc := soSwap  P X U V Q (m - X.length) (m + Y.length - X.length) X.length rfl lV (by omega) (by omega) (by omega)
      obtain ⟨i, P', U', V', Q', q1, q2, q3, q4, q5, q6⟩ := soRin  m n P V U (X ++ Q) (by omega) (by omega) (by omega) (by omega) (by simp; omega)
      refine ⟨i, P', U', V', Q', q1, q2, q3, q4, ?_, ?_⟩
      · rw [q5, ← hY]; simp
      · have hr := soRlt (P ++ X ++ U ++ V ++ Q) (P ++ V ++ U ++ X ++ Q)  m X.length Y.length h (by omega) (by omega) hc
        rw [lV, lU] at q6
        rw [← hY] at hr ⊢
        simp only [List.append_assoc, List.length_append] at hr q6 ⊢
        rw [show U.length + V.length - X.length = U.length by omega] at hr
        rw [show U.length + V.length = Y.length by omega] at hr ⊢
        rw [show Y.length - X.length = U.length by omega] at q6
        exact LoopC.next hr q6
    · -- both are as long
      refine ⟨X.length, P, X, Y, Q, rfl, by omega, hm, by omega, rfl, ?_⟩
      rw [← h]
      exact LoopC.last (soReq _  m _) (by simp)
    · -- the first one is longer: its beginning goes behind
      have hX : X.take Y.length ++ X.drop Y.length = X := List.take_append_drop _ _
      generalize hU : X.take Y.length = U at hX
      generalize hV : X.drop Y.length = V at hX
      have lU : U.length = Y.length := by rw [← hU]; simp; omega
      have lV : V.length = X.length - Y.length := by rw [← hV]; simp
      have hc := soSwap  P U V Y Q (m - X.length) m Y.length lU rfl (by omega) (by omega) (by omega)
      obtain ⟨i, P', U', V', Q', q1, q2, q3, q4, q5, q6⟩ := soRin  m n (P ++ Y) V U Q (by omega) (by omega) (by omega) (by simp; omega) (by simp; omega)
      refine ⟨i, P', U', V', Q', q1, q2, q3, q4, ?_, ?_⟩
      · rw [q5, ← hX]; simp
      · have hr := soRgt (P ++ U ++ V ++ Y ++ Q) (P ++ Y ++ V ++ U ++ Q)  m X.length Y.length h (by omega) (by omega) hc
        rw [lV, lU] at q6
        rw [← hX] at hr ⊢
        simp only [List.append_assoc, List.length_append] at hr q6 ⊢
        rw [show U.length + V.length - Y.length = V.length by omega] at hr
        rw [show X.length - Y.length = V.length by omega] at q6
        exact LoopC.next hr q6
/-- Two parts change places. -/
theorem soRot  (P X Y Q : List Ep) (a m b : Nat) (h1 : 0 < X.length) (h2 : 0 < Y.length) (ha : a = P.length) (hm : m = P.length + X.length) (hb : b = P.length + X.length + Y.length) (hs : P.length + X.length + Y.length + Q.length ≤ 1000000) :
    Contract Try.prog 46 [.own 0, I (a : Int), I (m : Int), I (b : Int), .clo (.func 30) [] []] [.arr 6 ((P ++ X ++ Y ++ Q).map Ep.row)] (.tup []) [some (.arr 6 ((P ++ Y ++ X ++ Q).map Ep.row))] := by
  obtain ⟨i, P', U', V', Q', q1, q2, q3, q4, q5, q6⟩ := soRin  m (X.length + Y.length) P X Y Q (Nat.le_refl _) h1 h2 hm hs
  have hc := soSwap  P' U' [] V' Q' (m - i) m i q1 q2 (by omega) (by simp; omega) (by simp; omega)
  simp only [List.append_nil] at hc
  rw [q5] at hc
  refine soR0 _ _ _  a m b i (by omega) (by omega) (by omega) (by omega) ?_ hc
  rw [show m - a = X.length by omega, show b - m = Y.length by omega]
  exact q6

end Go.Proofs.Ytfpdlamjlbpmkaa
