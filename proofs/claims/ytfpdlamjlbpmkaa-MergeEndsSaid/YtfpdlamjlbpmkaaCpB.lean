/- copies of episodes; blocks. -/
import Derived.Test.YtfpdlamjlbpmkaaCpA
import Derived.Test.YtfpdlamjlbpmkaaSoE
import Derived.Test.YtfpdlamjlbpmkaaMgB
namespace Go.Proofs.Ytfpdlamjlbpmkaa
open E
set_option maxRecDepth 100000
set_option linter.unusedVariables false
set_option linter.unusedSimpArgs false

theorem spC0_0 (l : List Sp) (hs : l.length ≤ 1000000) (hl : LoopC Try.prog 0 23 scB (scS l 0) (.exit 0) (scS l l.length)) : Contract Try.prog 40 [.sl 10 (l.map Sp.row)] [] (V.sl (10 : Nat) (List.map Sp.row l)) ([]) :=
  vcP hmix [.reg 1 [(1, [.call [] [] (.own 0) [some (.arr 10 (l.map Sp.row))]], none)], .reg 2 [(1, [.be (I (l.length : Int))], none)], .cut ⟨[0, 7, 8], [(202001, 0)], []⟩ (.exit 0) (scS l l.length), .reg 7 [(0, [.idx 1], none)]] [] [
      Contract Try.prog (44 : Nat) [V.sl (10 : Nat) (List.map Sp.row l)] [] (V.own (0 : Nat)) [some (Obj.arr (10 : Nat) (List.map Sp.row l))],
      Int.ofNat (List.length (List.map Sp.row l)) = Int.ofNat (List.length l),
      LoopC Try.prog (0 : Nat) (23 : Nat) scB { env := [((0 : Nat), V.own (0 : Nat)), ((7 : Nat), I (Int.ofNat (List.length l))), ((8 : Nat), I (0 : Int))], st := [((0 : Nat), Obj.arr (10 : Nat) (List.map Sp.row l))], ids := [(0 : Nat)] } (Ex.exit (0 : Nat)) { env := [((0 : Nat), V.own (0 : Nat)), ((7 : Nat), I (Int.ofNat (List.length l))), ((8 : Nat), I (Int.ofNat (List.length l)))], st := [((0 : Nat), Obj.arr (10 : Nat) (List.map Sp.row l))], ids := [(0 : Nat)] }] (by kernel_rfl)
    (by
      simp only [allP]
      and_intros <;> first
        | exact clnS _ (by simp; omega)
        | exact hl
        | (simp; done))

theorem spC0 (l : List Sp) (hs : l.length ≤ 1000000) (hl : LoopC Try.prog 0 23 scB (scS l 0) (.exit 0) (scS l l.length)) : Contract Try.prog 40 [.sl 10 (l.map Sp.row)] [] (.sl 10 (l.map Sp.row)) [] := by
  exact Contract.cast (by
    first
      | rfl) (by
    first
      | rfl) (spC0_0 l hs hl )

theorem scAll (l : List Sp) (hs : l.length ≤ 1000000) (hm : ∀ s ∈ l, smS s) : ∀ n i : Nat, i + n = l.length → LoopC Try.prog 0 23 scB (scS l i) (.exit 0) (scS l l.length)
  | 0, i, h => by
    have : i = l.length := by omega
    subst this
    exact LoopC.last (scE l _ (Nat.le_refl _)) (by simp)
  | n + 1, i, h => LoopC.next (sc l l[i] i (List.getElem?_eq_getElem (by omega)) hs (hm _ (List.getElem_mem (by omega)))) (scAll l hs hm n (i + 1) (by omega))
theorem cSpC (l : List Sp) (hs : l.length ≤ 1000000) (hm : ∀ s ∈ l, smS s) : Contract Try.prog 40 [.sl 10 (l.map Sp.row)] [] (.sl 10 (l.map Sp.row)) [] :=
  spC0 l hs (scAll l hs hm l.length 0 (by omega))

theorem cEpC_0 (e : Ep) (hm : smE e) : Contract Try.prog 35 [e.v] [] (V.agg [V.val (Value.int IntKind.u64 (Ep.hi e)), V.val (Value.int IntKind.u64 (Ep.lo e)), I (Ep.first e), I (Ep.last e), Bo (Ep.sure e), V.sl (10 : Nat) (List.map Sp.row (Ep.spans e))]) ([]) :=
  vcP hmix [.reg 1 [(2, [.call [] [] (.sl 10 (e.spans.map Sp.row)) []], none)]] [] [
      Contract Try.prog (40 : Nat) [V.sl (10 : Nat) (List.map Sp.row (Ep.spans e))] [] (V.sl (10 : Nat) (List.map Sp.row (Ep.spans e))) []] (by kernel_rfl)
    (by
      simp only [allP]
      and_intros <;> first
        | exact cSpC _ hm.1 hm.2)

theorem cEpC (e : Ep) (hm : smE e) : Contract Try.prog 35 [e.v] [] e.v [] := by
  exact Contract.cast (by
    first
      | rfl) (by
    first
      | rfl) (cEpC_0 e hm )

theorem ec_0 (l R : List Ep) (x : Ep) (i : Nat) (hx : l[i]? = some x) (hs : l.length ≤ 1000000) (hR : R.length ≤ 1000000) (hm : smE x) : CodeC Try.prog 0 19 ecB (ecS l R i) (Ex.normal) ({ env := [((3 : Nat), V.own (0 : Nat)), ((6 : Nat), V.sl (6 : Nat) (List.map Ep.row l)), ((7 : Nat), I (Int.ofNat (List.length l))), ((8 : Nat), I (Int.ofNat (i + (1 : Nat))))], st := [((0 : Nat), Obj.arr (6 : Nat) (List.map Ep.row (R ++ [x])))], ids := [(0 : Nat)] }) :=
  runP hmix [.reg 3 [(0, [], some true)], .reg 4 [(1, [.row (Ep.row x)], none)], .reg 5 [(2, [.call [] [] (Ep.v x) []], none), (4, [.beO ((R ++ [x]).map Ep.row)], none)], .reg 6 [(0, [.be (I ((i + 1 : Nat) : Int))], none)]] ⟨[3, 6, 7, 8], [(1005000, 0)], []⟩ [
      decide (Int.ofNat i < Int.ofNat (List.length l)) = true,
      (0 : Int) ≤ Int.ofNat i,
      Int.ofNat i < Int.ofNat (List.length (List.map Ep.row l)),
      (List.map Ep.row l)[i]? = some (Ep.row x),
      Contract Try.prog (35 : Nat) [V.agg [V.val (Value.int IntKind.u64 (Ep.hi x)), V.val (Value.int IntKind.u64 (Ep.lo x)), I (Ep.first x), I (Ep.last x), Bo (Ep.sure x), V.sl (10 : Nat) (List.map Sp.row (Ep.spans x))]] [] (V.agg (Ep.row x)) [],
      (List.length (List.map Ep.row R) + (1 : Nat)) * (64 : Nat) ≤ (140737488355328 : Nat),
      List.map Ep.row R ++ [[V.val (Value.int IntKind.u64 (Ep.hi x)), V.val (Value.int IntKind.u64 (Ep.lo x)), I (Ep.first x), I (Ep.last x), Bo (Ep.sure x), V.sl (10 : Nat) (List.map Sp.row (Ep.spans x))]] = List.map Ep.row (R ++ [x]),
      IntKind.wrap IntKind.i64 (Int.ofNat (i + (1 : Nat))) = Int.ofNat (i + (1 : Nat))] (by kernel_rfl)
    (by
      simp only [allP]
      and_intros <;> first
        | (have q := (List.getElem?_eq_some_iff.1 hx).1; simp; omega)
        | (simp [hx]; done)
        | (have q := (List.getElem?_eq_some_iff.1 hx).1; exact i64_small (by simp; omega))
        | exact cEpC _ hm
        | (rw [List.map_append]; rfl))

theorem ec (l R : List Ep) (x : Ep) (i : Nat) (hx : l[i]? = some x) (hs : l.length ≤ 1000000) (hR : R.length ≤ 1000000) (hm : smE x)  : CodeC Try.prog 0 19 ecB (ecS l R i) .normal (ecS l (R ++ [x]) (i + 1)) := by
  exact CodeC.cast (by
    first
      | rfl) (ec_0 l R x i hx hs hR hm )

theorem ecE_0 (l R : List Ep) (i : Nat) (h : l.length ≤ i) : CodeC Try.prog 0 19 ecB (ecS l R i) (Ex.exit (0 : Nat)) ({ env := [((3 : Nat), V.own (0 : Nat)), ((6 : Nat), V.sl (6 : Nat) (List.map Ep.row l)), ((7 : Nat), I (Int.ofNat (List.length l))), ((8 : Nat), I (Int.ofNat i))], st := [((0 : Nat), Obj.arr (6 : Nat) (List.map Ep.row R))], ids := [(0 : Nat)] }) :=
  runP hmix [.reg 3 [(0, [], some false)]] ⟨[3, 6, 7, 8], [(0, 0)], []⟩ [
      decide (Int.ofNat i < Int.ofNat (List.length l)) = false] (by kernel_rfl)
    (by
      simp only [allP]
      and_intros <;> first
        | (simp; omega))

theorem ecE (l R : List Ep) (i : Nat) (h : l.length ≤ i)  : CodeC Try.prog 0 19 ecB (ecS l R i) (.exit 0) (ecS l R i) := by
  exact CodeC.cast (by
    first
      | rfl) (ecE_0 l R i h )

theorem epS0_0 (l : List Ep) (hl : LoopC Try.prog 0 19 ecB (ecS l [] 0) (.exit 0) (ecS l l l.length)) : Contract Try.prog 28 [.sl 6 (l.map Ep.row)] [] (V.own (0 : Nat)) ([some (Obj.arr (6 : Nat) (List.map Ep.row l))]) :=
  vcP hmix [.reg 1 [(0, [.idx 6], none)], .reg 2 [(1, [.be (I (l.length : Int))], none)], .cut ⟨[3, 6, 7, 8], [(201000, 0)], []⟩ (.exit 0) (ecS l l l.length)] [0] [
      Int.ofNat (List.length (List.map Ep.row l)) = Int.ofNat (List.length l),
      LoopC Try.prog (0 : Nat) (19 : Nat) ecB { env := [((3 : Nat), V.own (0 : Nat)), ((6 : Nat), V.sl (6 : Nat) (List.map Ep.row l)), ((7 : Nat), I (Int.ofNat (List.length l))), ((8 : Nat), I (0 : Int))], st := [((0 : Nat), Obj.arr (6 : Nat) [])], ids := [(0 : Nat)] } (Ex.exit (0 : Nat)) { env := [((3 : Nat), V.own (0 : Nat)), ((6 : Nat), V.sl (6 : Nat) (List.map Ep.row l)), ((7 : Nat), I (Int.ofNat (List.length l))), ((8 : Nat), I (Int.ofNat (List.length l)))], st := [((0 : Nat), Obj.arr (6 : Nat) (List.map Ep.row l))], ids := [(0 : Nat)] }] (by kernel_rfl)
    (by
      simp only [allP]
      and_intros <;> first
        | exact hl
        | (simp; done))

theorem epS0 (l : List Ep) (hl : LoopC Try.prog 0 19 ecB (ecS l [] 0) (.exit 0) (ecS l l l.length)) : Contract Try.prog 28 [.sl 6 (l.map Ep.row)] [] (.own 0) [some (.arr 6 (l.map Ep.row))] := by
  exact Contract.cast (by
    first
      | rfl) (by
    first
      | rfl) (epS0_0 l hl )

theorem ecAll (l : List Ep) (hs : l.length ≤ 1000000) (hm : ∀ e ∈ l, smE e) : ∀ n i : Nat, i + n = l.length → LoopC Try.prog 0 19 ecB (ecS l (l.take i) i) (.exit 0) (ecS l l l.length)
  | 0, i, h => by
    have : i = l.length := by omega
    subst this
    rw [List.take_length]
    exact LoopC.last (ecE l l _ (Nat.le_refl _)) (by simp)
  | n + 1, i, h => by
    have hx : l[i]? = some l[i] := List.getElem?_eq_getElem (by omega)
    have hr := ec l (l.take i) l[i] i hx hs (by rw [List.length_take]; omega) (hm _ (List.getElem_mem (by omega)))
    rw [← List.take_succ_eq_append_getElem (by omega)] at hr
    exact LoopC.next hr (ecAll l hs hm n (i + 1) (by omega))
theorem cEpS (l : List Ep) (hs : l.length ≤ 1000000) (hm : ∀ e ∈ l, smE e) : Contract Try.prog 28 [.sl 6 (l.map Ep.row)] [] (.own 0) [some (.arr 6 (l.map Ep.row))] :=
  epS0 l (ecAll l hs hm l.length 0 (by omega))
theorem soLt_eq (a b : Ep) : soLt a b = (decide (a.hi < b.hi) || (a.hi == b.hi && decide (a.lo < b.lo))) := by
  unfold soLt cmpE or2 cmpI
  by_cases h1 : a.hi < b.hi <;> by_cases h2 : b.hi < a.hi <;> by_cases h3 : a.lo < b.lo <;> by_cases h4 : b.lo < a.lo <;> simp [h1, h2, h3, h4] <;> omega
theorem soOrd : Swo soLt := by
  constructor
  · intro a b h
    rw [soLt_eq] at h ⊢
    simp at h ⊢
    omega
  · intro a b c h1 h2
    rw [soLt_eq] at h1 h2 ⊢
    simp at h1 h2 ⊢
    omega

theorem mk0_0 (n b t : Int) (l : List Ep) (hs : l.length ≤ 500000) (hm : ∀ e ∈ l, smE e) : Contract Try.prog 20 [I n, I b, I t, .sl 6 (l.map Ep.row)] [] (V.agg [I n, I b, I t, V.sl (6 : Nat) (List.map Ep.row (srt soLt l))]) ([]) :=
  vcP hmix [.reg 1 [(1, [.call [] [] (.own 0) [some (.arr 6 (l.map Ep.row))]], none)], .reg 2 [(1, [.call [202001] [] (.tup []) [some (.arr 6 ((srt soLt l).map Ep.row))]], none)], .reg 3 [(3, [.idx 1], none)]] [] [
      Contract Try.prog (28 : Nat) [V.sl (6 : Nat) (List.map Ep.row l)] [] (V.own (0 : Nat)) [some (Obj.arr (6 : Nat) (List.map Ep.row l))],
      Contract Try.prog (29 : Nat) [V.own (0 : Nat), V.clo (Fn.func (30 : Nat)) [] []] [Obj.arr (6 : Nat) (List.map Ep.row l)] (V.tup []) [some (Obj.arr (6 : Nat) (List.map Ep.row (srt soLt l)))]] (by kernel_rfl)
    (by
      simp only [allP]
      and_intros <;> first
        | exact cEpS l (by omega) hm
        | exact soSort soOrd l hs)

theorem mk0 (n b t : Int) (l : List Ep) (hs : l.length ≤ 500000) (hm : ∀ e ∈ l, smE e) : Contract Try.prog 20 [I n, I b, I t, .sl 6 (l.map Ep.row)] [] (Bk.v ⟨n, b, t, srt soLt l⟩) [] := by
  exact Contract.cast (by
    first
      | rfl) (by
    first
      | rfl) (mk0_0 n b t l hs hm )

end Go.Proofs.Ytfpdlamjlbpmkaa
