/- rollup: spans in another order. -/
import Derived.Test.YtigakemkanobaaaRwF
import Derived.Test.YtigakemkanobaaaLibP
namespace Go.Proofs.Ytigakemkanobaaa
open E
set_option maxRecDepth 100000
set_option linter.unusedVariables false
set_option linter.unusedSimpArgs false


def low10 (x : Int) : Nat := (x % 18446744073709551616).toNat &&& (1023 : Nat)
def bRow (b : Bool) : List V := [Bo b]
def iRow (n : Int) : List V := [I n]
def raS (l : List Sp) (o : List Int) (m : Int) (mm : List Sp) (hh : List Bool) (i : Nat) : SL := ⟨[(0, .sl 10 (l.map Sp.row)), (1, .sl 1 (o.map iRow)), (2, I m), (8, .own 900), (9, .own 901), (10, I (i : Int))], [(901, .arr 1 (hh.map bRow)), (900, .arr 10 (mm.map Sp.row))], [901, 900]⟩
def rkS2 (l : List Sp) (o : List Int) (m : Int) (mm : List Sp) (hh : List Bool) (i k : Nat) : SL := ⟨[(0, .sl 10 (l.map Sp.row)), (1, .sl 1 (o.map iRow)), (2, I m), (8, .own 900), (9, .own 901), (10, I (i : Int)), (11, I (k : Int))], [(901, .arr 1 (hh.map bRow)), (900, .arr 10 (mm.map Sp.row))], [901, 900]⟩
def FAlive2 : List V → Option V := fun _ => some (Bo true)
noncomputable def raB : Code := codeAt Try.prog 3 [true, true, true, true, true, false, true, false, false]

noncomputable def rk2B : Code := codeAt Try.prog 3 [true, true, true, true, true, false, true, false, false, true, false, false, true, false, false, false]


theorem low10_lt (x : Int) : low10 x ≤ 1023 := Nat.and_le_right
theorem rkG_0 (l : List Sp) (o : List Int) (m : Int) (mm : List Sp) (hh : List Bool) (i k n : Nat) (hn : l.length = n) (h0 : 0 < n) (hs : n ≤ 60) (hk : k < n) (hh1 : hh.length = n) (hx : hh[k]? = some true) : CodeC Try.prog 0 77 rk2B (rkS2 l o m mm hh i k) (Ex.normal) ({ env := [((0 : Nat), V.sl (10 : Nat) (List.map Sp.row l)), ((1 : Nat), V.sl (1 : Nat) (List.map (fun n0 => [I n0]) o)), ((2 : Nat), I m), ((8 : Nat), V.own (900 : Nat)), ((9 : Nat), V.own (901 : Nat)), ((10 : Nat), I (Int.ofNat i)), ((11 : Nat), I (Int.ofNat ((k + (1 : Nat)) % n)))], st := [((901 : Nat), Obj.arr (1 : Nat) (List.map (fun b0 => [Bo b0]) hh)), ((900 : Nat), Obj.arr (10 : Nat) (List.map Sp.row mm))], ids := [(901 : Nat), (900 : Nat)] }) :=
  runP hmix [.reg 10 [(3, [.row (bRow true)], none)], .reg 11 [(4, [.idx 0, .be (I (((k + 1) % n : Nat) : Int))], none)]] ⟨[0, 1, 2, 8, 9, 10, 11], [(901, 901), (900, 900)], []⟩ [
      (0 : Int) ≤ Int.ofNat k,
      Int.ofNat k < Int.ofNat (List.length (List.map (fun b0 => [Bo b0]) hh)),
      (List.map (fun b0 => [Bo b0]) hh)[k]? = some [Bo true],
      Int.ofNat (List.length (List.map Sp.row l)) ≠ (0 : Int),
      Int.tmod (IntKind.wrap IntKind.i64 (Int.ofNat (k + (1 : Nat)))) (Int.ofNat (List.length (List.map Sp.row l))) = Int.ofNat ((k + (1 : Nat)) % n)] (by kernel_rfl)
    (by
      simp only [allP]
      and_intros <;> first
        | omega
        | with_reducible assumption
        | (rw [List.length_map, hn]; have h00 : 0 < n := (by omega); simp only [Int.ofNat_eq_natCast]; omega)
        | (show IntKind.i64.wrap (Int.ofNat (low10 x)) = _; exact i64_small (by have := low10_lt x; simp; omega))
        | (rw [List.length_map, hn]; done)
        | (simp [Sp.row, U]; done)
        | (simp; omega)
        | (simp [bRow, hx]; done)
        | (rw [i64_small (by simp; omega), List.length_map, hn]; exact (Int.ofNat_tmod _ _).symm)
        | (simp; done)
        | decide)

theorem rkG (l : List Sp) (o : List Int) (m : Int) (mm : List Sp) (hh : List Bool) (i k n : Nat) (hn : l.length = n) (h0 : 0 < n) (hs : n ≤ 60) (hk : k < n) (hh1 : hh.length = n) (hx : hh[k]? = some true)  : CodeC Try.prog 0 77 rk2B (rkS2 l o m mm hh i k) .normal (rkS2 l o m mm hh i ((k + 1) % n)) := by
  exact CodeC.cast (by first | rfl | (simp only [cond_true, cond_false]; done) | (simp []; done) | (first | (simp []; done) | (refine congrArg _ ?_; simp []; done) | (refine congrArg _ ?_; simp []; omega) | (simp only [Bool.cond_eq_ite, Bool.and_eq_true, Bool.or_eq_true, Bool.not_eq_true', decide_eq_true_eq, beq_iff_eq, beq_eq_false_iff_ne, ne_eq]; (repeat' split) <;> first | rfl | (exfalso; omega) | omega | (simp_all; done) | (exfalso; simp_all; omega)))) (rkG_0 l o m mm hh i k n hn h0 hs hk hh1 hx )

theorem rkZ_0 (l : List Sp) (o : List Int) (m : Int) (mm : List Sp) (hh : List Bool) (i k n : Nat) (hk : k < n) (hh1 : hh.length = n) (hx : hh[k]? = some false) : CodeC Try.prog 0 77 rk2B (rkS2 l o m mm hh i k) (Ex.exit (2 : Nat)) ({ env := [((0 : Nat), V.sl (10 : Nat) (List.map Sp.row l)), ((1 : Nat), V.sl (1 : Nat) (List.map (fun n0 => [I n0]) o)), ((2 : Nat), I m), ((8 : Nat), V.own (900 : Nat)), ((9 : Nat), V.own (901 : Nat)), ((10 : Nat), I (Int.ofNat i)), ((11 : Nat), I (Int.ofNat k))], st := [((901 : Nat), Obj.arr (1 : Nat) (List.map (fun b0 => [Bo b0]) hh)), ((900 : Nat), Obj.arr (10 : Nat) (List.map Sp.row mm))], ids := [(901 : Nat), (900 : Nat)] }) :=
  runP hmix [.reg 10 [(3, [.row (bRow false)], none)]] ⟨[0, 1, 2, 8, 9, 10, 11], [(901, 901), (900, 900)], []⟩ [
      (0 : Int) ≤ Int.ofNat k,
      Int.ofNat k < Int.ofNat (List.length (List.map (fun b0 => [Bo b0]) hh)),
      (List.map (fun b0 => [Bo b0]) hh)[k]? = some [Bo false]] (by kernel_rfl)
    (by
      simp only [allP]
      and_intros <;> first
        | omega
        | with_reducible assumption
        | (simp; omega)
        | (simp [bRow, hx]; done)
        | (simp; done)
        | decide)

theorem rkZ (l : List Sp) (o : List Int) (m : Int) (mm : List Sp) (hh : List Bool) (i k n : Nat) (hk : k < n) (hh1 : hh.length = n) (hx : hh[k]? = some false)  : CodeC Try.prog 0 77 rk2B (rkS2 l o m mm hh i k) (.exit 2) (rkS2 l o m mm hh i k) := by
  exact CodeC.cast (by first | rfl | (simp only [cond_true, cond_false]; done) | (simp []; done) | (first | (simp []; done) | (refine congrArg _ ?_; simp []; done) | (refine congrArg _ ?_; simp []; omega) | (simp only [Bool.cond_eq_ite, Bool.and_eq_true, Bool.or_eq_true, Bool.not_eq_true', decide_eq_true_eq, beq_iff_eq, beq_eq_false_iff_ne, ne_eq]; (repeat' split) <;> first | rfl | (exfalso; omega) | omega | (simp_all; done) | (exfalso; simp_all; omega)))) (rkZ_0 l o m mm hh i k n hk hh1 hx )

/-- Probed till there is a free place. -/
theorem rkLoop (l : List Sp) (o : List Int) (m : Int) (mm : List Sp) (hh : List Bool) (i n : Nat) (hn : l.length = n) (h0 : 0 < n) (hs : n ≤ 60) (hh1 : hh.length = n) : ∀ (q k : Nat), k < n → hh[(k + q) % n]? = some false → (∀ p, p < q → hh[(k + p) % n]? = some true) → LoopC Try.prog 0 77 rk2B (rkS2 l o m mm hh i k) (.exit 2) (rkS2 l o m mm hh i ((k + q) % n))
  | 0, k, hk, hf, _ => by
    rw [Nat.add_zero, Nat.mod_eq_of_lt hk] at hf ⊢
    exact LoopC.last (rkZ l o m mm hh i k n hk hh1 hf) (by simp)
  | q + 1, k, hk, hf, ht => by
    have h1 := ht 0 (by omega)
    rw [Nat.add_zero, Nat.mod_eq_of_lt hk] at h1
    have e : ∀ p, ((k + 1) % n + p) % n = (k + (p + 1)) % n := fun p => by rw [Nat.mod_add_mod]; congr 1; omega
    have ih := rkLoop l o m mm hh i n hn h0 hs hh1 q ((k + 1) % n) (Nat.mod_lt _ h0) (by rw [e]; exact hf) (fun p hp => by rw [e]; exact ht (p + 1) (by omega))
    rw [e] at ih
    exact LoopC.next (rkG l o m mm hh i k n hn h0 hs hk hh1 h1) ih

theorem raG_0 (l : List Sp) (o : List Int) (m : Int) (mm : List Sp) (hh : List Bool) (i k n : Nat) (x : Int) (s : Sp) (hn : l.length = n) (h : i < n) (hs : n ≤ 60) (ho : n ≤ o.length) (hx : o[i]? = some x) (hk : k < n) (hh1 : hh.length = n) (hz : hh[k]? = some false) (hy : l[k]? = some s) (hm : mm.length ≤ 1000) (hl : LoopC Try.prog 0 77 rk2B (rkS2 l o m mm hh i (low10 x % n)) (.exit 2) (rkS2 l o m mm hh i k)) : CodeC Try.prog 0 77 raB (raS l o m mm hh i) (Ex.normal) ({ env := [((0 : Nat), V.sl (10 : Nat) (List.map Sp.row l)), ((1 : Nat), V.sl (1 : Nat) (List.map (fun n0 => [I n0]) o)), ((2 : Nat), I m), ((8 : Nat), V.own (900 : Nat)), ((9 : Nat), V.own (901 : Nat)), ((10 : Nat), I (Int.ofNat (i + (1 : Nat))))], st := [((901 : Nat), Obj.arr (1 : Nat) (List.map (fun b0 => [Bo b0]) (List.set hh k true))), ((900 : Nat), Obj.arr (10 : Nat) (List.map Sp.row (mm ++ [s])))], ids := [(901 : Nat), (900 : Nat)] }) :=
  runP hmix [.reg 7 [(3, [], some true)], .reg 9 [(3, [.row (iRow x)], none), (4, [.be (I (low10 x : Int))], none), (7, [.idx 0, .be (I ((low10 x % n : Nat) : Int))], none)], .cut ⟨[0, 1, 2, 8, 9, 10, 11], [(901, 901), (900, 900)], []⟩ (.exit 2) (rkS2 l o m mm hh i k), .reg 12 [(3, [.row (bRow false), .beO ((hh.set k true).map bRow)], none)], .reg 13 [(4, [.row (Sp.row s)], none), (6, [.beO ((mm ++ [s]).map Sp.row)], none)], .reg 8 [(1, [.be (I ((i + 1 : Nat) : Int))], none)]] ⟨[0, 1, 2, 8, 9, 10], [(901, 901), (2607000, 900)], []⟩ [
      decide (Int.ofNat i < Int.ofNat (List.length (List.map Sp.row l))) = true,
      (0 : Int) ≤ Int.ofNat i,
      Int.ofNat i < Int.ofNat (List.length (List.map (fun n0 => [I n0]) o)),
      (List.map (fun n0 => [I n0]) o)[i]? = some [I x],
      IntKind.wrap IntKind.i64 (Int.ofNat (((Int.toNat (x % (18446744073709551616 : Int))) &&& (1023 : Nat)))) = Int.ofNat (low10 x),
      Int.ofNat (List.length (List.map Sp.row l)) ≠ (0 : Int),
      Int.ofNat (low10 x % List.length (List.map Sp.row l)) = Int.ofNat (low10 x % n),
      LoopC Try.prog (0 : Nat) (77 : Nat) rk2B { env := [((0 : Nat), V.sl (10 : Nat) (List.map Sp.row l)), ((1 : Nat), V.sl (1 : Nat) (List.map (fun n0 => [I n0]) o)), ((2 : Nat), I m), ((8 : Nat), V.own (900 : Nat)), ((9 : Nat), V.own (901 : Nat)), ((10 : Nat), I (Int.ofNat i)), ((11 : Nat), I (Int.ofNat (low10 x % n)))], st := [((901 : Nat), Obj.arr (1 : Nat) (List.map (fun b0 => [Bo b0]) hh)), ((900 : Nat), Obj.arr (10 : Nat) (List.map Sp.row mm))], ids := [(901 : Nat), (900 : Nat)] } (Ex.exit (2 : Nat)) { env := [((0 : Nat), V.sl (10 : Nat) (List.map Sp.row l)), ((1 : Nat), V.sl (1 : Nat) (List.map (fun n0 => [I n0]) o)), ((2 : Nat), I m), ((8 : Nat), V.own (900 : Nat)), ((9 : Nat), V.own (901 : Nat)), ((10 : Nat), I (Int.ofNat i)), ((11 : Nat), I (Int.ofNat k))], st := [((901 : Nat), Obj.arr (1 : Nat) (List.map (fun b0 => [Bo b0]) hh)), ((900 : Nat), Obj.arr (10 : Nat) (List.map Sp.row mm))], ids := [(901 : Nat), (900 : Nat)] },
      (0 : Int) ≤ Int.ofNat k,
      Int.ofNat k < Int.ofNat (List.length (List.map (fun b0 => [Bo b0]) hh)),
      (List.map (fun b0 => [Bo b0]) hh)[k]? = some [Bo false],
      List.set (List.map (fun b0 => [Bo b0]) hh) k [Bo true] = List.map (fun b0 => [Bo b0]) (List.set hh k true),
      (0 : Int) ≤ Int.ofNat k,
      Int.ofNat k < Int.ofNat (List.length (List.map Sp.row l)),
      (List.map Sp.row l)[k]? = some (Sp.row s),
      (List.length (List.map Sp.row mm) + (1 : Nat)) * (112 : Nat) ≤ (140737488355328 : Nat),
      List.map Sp.row mm ++ [[V.val (Value.int IntKind.u64 (Sp.hi s)), V.val (Value.int IntKind.u64 (Sp.lo s)), V.val (Value.int IntKind.u64 (Sp.id s)), V.val (Value.int IntKind.u64 (Sp.par s)), Sg (Sp.svc s), Sg (Sp.op s), I (Sp.start s), I (Sp.dur s), Bo (Sp.err s), V.sl (2 : Nat) (List.map At.row (Sp.attrs s))]] = List.map Sp.row (mm ++ [s]),
      IntKind.wrap IntKind.i64 (Int.ofNat (i + (1 : Nat))) = Int.ofNat (i + (1 : Nat))] (by kernel_rfl)
    (by
      simp only [allP]
      and_intros <;> first
        | omega
        | with_reducible assumption
        | (rw [List.length_map, hn]; have h00 : 0 < n := (by omega); simp only [Int.ofNat_eq_natCast]; omega)
        | (show IntKind.i64.wrap (Int.ofNat (low10 x)) = _; exact i64_small (by have := low10_lt x; simp; omega))
        | (rw [List.length_map, hn]; done)
        | (simp [Sp.row, U]; done)
        | (simp; omega)
        | (simp [iRow, hx]; done)
        | (simp [bRow, hz]; done)
        | (simp [hy]; done)
        | exact i64_small (by have := low10_lt x; simp; omega)
        | (rw [List.length_map, hn]; exact (Int.ofNat_tmod _ _).symm)
        | (simp [bRow, List.map_set]; done)
        | exact hl
        | (simp [Sp.row]; done)
        | exact i64_small (by simp; omega)
        | (simp; done)
        | decide)

theorem raG (l : List Sp) (o : List Int) (m : Int) (mm : List Sp) (hh : List Bool) (i k n : Nat) (x : Int) (s : Sp) (hn : l.length = n) (h : i < n) (hs : n ≤ 60) (ho : n ≤ o.length) (hx : o[i]? = some x) (hk : k < n) (hh1 : hh.length = n) (hz : hh[k]? = some false) (hy : l[k]? = some s) (hm : mm.length ≤ 1000) (hl : LoopC Try.prog 0 77 rk2B (rkS2 l o m mm hh i (low10 x % n)) (.exit 2) (rkS2 l o m mm hh i k))  : CodeC Try.prog 0 77 raB (raS l o m mm hh i) .normal (raS l o m (mm ++ [s]) (hh.set k true) (i + 1)) := by
  exact CodeC.cast (by first | rfl | (simp only [cond_true, cond_false]; done) | (simp []; done) | (first | (simp []; done) | (refine congrArg _ ?_; simp []; done) | (refine congrArg _ ?_; simp []; omega) | (simp only [Bool.cond_eq_ite, Bool.and_eq_true, Bool.or_eq_true, Bool.not_eq_true', decide_eq_true_eq, beq_iff_eq, beq_eq_false_iff_ne, ne_eq]; (repeat' split) <;> first | rfl | (exfalso; omega) | omega | (simp_all; done) | (exfalso; simp_all; omega)))) (raG_0 l o m mm hh i k n x s hn h hs ho hx hk hh1 hz hy hm hl )

theorem raE_0 (l : List Sp) (o : List Int) (m : Int) (mm : List Sp) (hh : List Bool) (i n : Nat) (hn : l.length = n) (h : n ≤ i) : CodeC Try.prog 0 77 raB (raS l o m mm hh i) (Ex.exit (0 : Nat)) ({ env := [((0 : Nat), V.sl (10 : Nat) (List.map Sp.row l)), ((1 : Nat), V.sl (1 : Nat) (List.map (fun n0 => [I n0]) o)), ((2 : Nat), I m), ((8 : Nat), V.own (900 : Nat)), ((9 : Nat), V.own (901 : Nat)), ((10 : Nat), I (Int.ofNat i))], st := [((901 : Nat), Obj.arr (1 : Nat) (List.map (fun b0 => [Bo b0]) hh)), ((900 : Nat), Obj.arr (10 : Nat) (List.map Sp.row mm))], ids := [(901 : Nat), (900 : Nat)] }) :=
  runP hmix [.reg 7 [(3, [], some false)]] ⟨[0, 1, 2, 8, 9, 10], [(901, 901), (900, 900)], []⟩ [
      decide (Int.ofNat i < Int.ofNat (List.length (List.map Sp.row l))) = false] (by kernel_rfl)
    (by
      simp only [allP]
      and_intros <;> first
        | omega
        | with_reducible assumption
        | (simp; omega)
        | (simp; done)
        | decide)

theorem raE (l : List Sp) (o : List Int) (m : Int) (mm : List Sp) (hh : List Bool) (i n : Nat) (hn : l.length = n) (h : n ≤ i)  : CodeC Try.prog 0 77 raB (raS l o m mm hh i) (.exit 0) (raS l o m mm hh i) := by
  exact CodeC.cast (by first | rfl | (simp only [cond_true, cond_false]; done) | (simp []; done) | (first | (simp []; done) | (refine congrArg _ ?_; simp []; done) | (refine congrArg _ ?_; simp []; omega) | (simp only [Bool.cond_eq_ite, Bool.and_eq_true, Bool.or_eq_true, Bool.not_eq_true', decide_eq_true_eq, beq_iff_eq, beq_eq_false_iff_ne, ne_eq]; (repeat' split) <;> first | rfl | (exfalso; omega) | omega | (simp_all; done) | (exfalso; simp_all; omega)))) (raE_0 l o m mm hh i n hn h )

/-- All spans come, in another order. -/
theorem raLoop (l : List Sp) (o : List Int) (m : Int) (hs : l.length ≤ 60) (ho : l.length ≤ o.length) : ∀ (q i : Nat) (ks : List Nat) (hh : List Bool), i + q = l.length → ks.length = i → Came l.length ks hh →
    ∃ ks' hh', Came l.length ks' hh' ∧ ks'.length = l.length ∧ LoopC Try.prog 0 77 raB (raS l o m (atAll l ks) hh i) (.exit 0) (raS l o m (atAll l ks') hh' l.length)
  | 0, i, ks, hh, hi, hk, hc => by
    have : i = l.length := by omega
    subst this
    exact ⟨ks, hh, hc, hk, LoopC.last (raE l o m _ hh _ l.length rfl (Nat.le_refl _)) (by simp)⟩
  | q + 1, i, ks, hh, hi, hk, hc => by
    have h : i < l.length := by omega
    have hx : o[i]? = some o[i] := List.getElem?_eq_getElem (by omega)
    have h0 : 0 < l.length := by omega
    obtain ⟨p, hp, hf, ht⟩ := free_in hc.len (hc.free (by omega)) (Nat.mod_lt (low10 o[i]) h0)
    have hkl : (low10 o[i] % l.length + p) % l.length < l.length := Nat.mod_lt _ h0
    have hy : l[(low10 o[i] % l.length + p) % l.length]? = some l[(low10 o[i] % l.length + p) % l.length] := List.getElem?_eq_getElem hkl
    have hlp := rkLoop l o m (atAll l ks) hh i l.length rfl h0 hs hc.len p (low10 o[i] % l.length) (Nat.mod_lt _ h0) hf ht
    have hr := raG l o m (atAll l ks) hh i _ l.length o[i] _ rfl h hs ho hx hkl hc.len hf hy (by rw [atAll_len hc.lt]; omega) hlp
    rw [← atAll_snoc hy] at hr
    obtain ⟨ks', hh', c1, c2, c3⟩ := raLoop l o m hs ho q (i + 1) _ _ (by omega) (by simp; omega) (hc.next hkl hf)
    exact ⟨ks', hh', c1, c2, LoopC.next hr c3⟩

theorem anyA_0 (l : List Sp) (o : List Int) (m : Int) (h1 : fewAll l = false) : Contract Try.prog 3 [.sl 10 (l.map Sp.row), .sl 1 (o.map iRow), I m] [] (Bo true) ([]) :=
  vcP hmix [.reg 2 [(4, [.call [] [] (Bo (fewAll l)) []], none), (7, [], some true)], .tab [(8, FAlive2)]] [] [
      Contract Try.prog (8 : Nat) [] [] (Bo true) [],
      Contract Try.prog (9 : Nat) [V.sl (10 : Nat) (List.map Sp.row l)] [] (Bo (fewAll l)) [],
      (!fewAll l) = true] (by kernel_rfl)
    (by
      simp only [allP]
      and_intros <;> first
        | omega
        | with_reducible assumption
        | exact cAlive
        | exact cFewAll _
        | (simp [h1]; done)
        | (simp; done)
        | decide)

theorem anyA (l : List Sp) (o : List Int) (m : Int) (h1 : fewAll l = false) : Contract Try.prog 3 [.sl 10 (l.map Sp.row), .sl 1 (o.map iRow), I m] [] (Bo true) [] := by
  exact Contract.cast (by first | rfl | (simp only [cond_true, cond_false]; done) | (simp []; done) | (first | (simp []; done) | (refine congrArg _ ?_; simp []; done) | (refine congrArg _ ?_; simp []; omega) | (simp only [Bool.cond_eq_ite, Bool.and_eq_true, Bool.or_eq_true, Bool.not_eq_true', decide_eq_true_eq, beq_iff_eq, beq_eq_false_iff_ne, ne_eq]; (repeat' split) <;> first | rfl | (exfalso; omega) | omega | (simp_all; done) | (exfalso; simp_all; omega)))) (by first | rfl | (simp only [cond_true, cond_false]; done) | (simp []; done) | (first | (simp []; done) | (refine congrArg _ ?_; simp []; done) | (refine congrArg _ ?_; simp []; omega) | (simp only [Bool.cond_eq_ite, Bool.and_eq_true, Bool.or_eq_true, Bool.not_eq_true', decide_eq_true_eq, beq_iff_eq, beq_eq_false_iff_ne, ne_eq]; (repeat' split) <;> first | rfl | (exfalso; omega) | omega | (simp_all; done) | (exfalso; simp_all; omega)))) (anyA_0 l o m h1 )

theorem anyB_0 (l : List Sp) (o : List Int) (m : Int) (h1 : fewAll l = true) (h2 : o.length < l.length) : Contract Try.prog 3 [.sl 10 (l.map Sp.row), .sl 1 (o.map iRow), I m] [] (Bo true) ([]) :=
  vcP hmix [.reg 2 [(4, [.call [] [] (Bo (fewAll l)) []], none), (7, [], some false), (13, [], some true)], .tab [(8, FAlive2)]] [] [
      Contract Try.prog (8 : Nat) [] [] (Bo true) [],
      Contract Try.prog (9 : Nat) [V.sl (10 : Nat) (List.map Sp.row l)] [] (Bo (fewAll l)) [],
      (!fewAll l) = false,
      decide (Int.ofNat (List.length (List.map (fun n0 => [I n0]) o)) < Int.ofNat (List.length (List.map Sp.row l))) = true] (by kernel_rfl)
    (by
      simp only [allP]
      and_intros <;> first
        | omega
        | with_reducible assumption
        | exact cAlive
        | exact cFewAll _
        | (simp [h1]; done)
        | (simp; omega)
        | (simp; done)
        | decide)

theorem anyB (l : List Sp) (o : List Int) (m : Int) (h1 : fewAll l = true) (h2 : o.length < l.length) : Contract Try.prog 3 [.sl 10 (l.map Sp.row), .sl 1 (o.map iRow), I m] [] (Bo true) [] := by
  exact Contract.cast (by first | rfl | (simp only [cond_true, cond_false]; done) | (simp []; done) | (first | (simp []; done) | (refine congrArg _ ?_; simp []; done) | (refine congrArg _ ?_; simp []; omega) | (simp only [Bool.cond_eq_ite, Bool.and_eq_true, Bool.or_eq_true, Bool.not_eq_true', decide_eq_true_eq, beq_iff_eq, beq_eq_false_iff_ne, ne_eq]; (repeat' split) <;> first | rfl | (exfalso; omega) | omega | (simp_all; done) | (exfalso; simp_all; omega)))) (by first | rfl | (simp only [cond_true, cond_false]; done) | (simp []; done) | (first | (simp []; done) | (refine congrArg _ ?_; simp []; done) | (refine congrArg _ ?_; simp []; omega) | (simp only [Bool.cond_eq_ite, Bool.and_eq_true, Bool.or_eq_true, Bool.not_eq_true', decide_eq_true_eq, beq_iff_eq, beq_eq_false_iff_ne, ne_eq]; (repeat' split) <;> first | rfl | (exfalso; omega) | omega | (simp_all; done) | (exfalso; simp_all; omega)))) (anyB_0 l o m h1 h2 )

theorem anyC_0 (l : List Sp) (o : List Int) (m : Int) (mm : List Sp) (hh : List Bool) (h1 : fewAll l = true) (h2 : l.length ≤ o.length) (hs : l.length ≤ 60) (hp : rowsR mm m = rowsR l m) (hml : mm.length ≤ 60) (ha : ∀ x ∈ l, x.attrs.length ≤ 1000000000) (hb : ∀ x ∈ mm, x.attrs.length ≤ 1000000000) (hr : (rowsR l m).length ≤ 1000) (hl : LoopC Try.prog 0 77 raB (raS l o m [] (List.replicate l.length false) 0) (.exit 0) (raS l o m mm hh l.length)) : Contract Try.prog 3 [.sl 10 (l.map Sp.row), .sl 1 (o.map iRow), I m] [] (Bo true) ([]) :=
  vcP hmix [.reg 2 [(4, [.call [] [] (Bo (fewAll l)) []], none), (7, [], some false), (13, [], some false)], .reg 5 [(2, [.beO ((List.replicate l.length false).map bRow)], none)], .cut ⟨[0, 1, 2, 8, 9, 10], [(1003000, 901)], [.slot 8 900 10]⟩ (.exit 0) (raS l o m mm hh l.length), .reg 14 [(2, [.call [] [] (.own 0) [some (.arr 14 ((rowsR l m).map Rw.row))]], none), (3, [.idx 1], none)], .reg 15 [(3, [.call [] [] (.own 0) [some (.arr 14 ((rowsR l m).map Rw.row))]], none), (4, [.call [] [] (Bo true) []], none), (7, [.call [] [] (Bo true) []], none)], .tab [(8, FAlive2)]] [] [
      Contract Try.prog (8 : Nat) [] [] (Bo true) [],
      Contract Try.prog (9 : Nat) [V.sl (10 : Nat) (List.map Sp.row l)] [] (Bo (fewAll l)) [],
      (!fewAll l) = false,
      decide (Int.ofNat (List.length (List.map (fun n0 => [I n0]) o)) < Int.ofNat (List.length (List.map Sp.row l))) = false,
      Int.ofNat (List.length (List.map Sp.row l)) = Int.ofNat (List.length (List.map Sp.row l)),
      (0 : Int) ≤ Int.ofNat (List.length (List.map Sp.row l)),
      List.length (List.map Sp.row l) * (1 : Nat) ≤ (140737488355328 : Nat),
      List.replicate (List.length (List.map Sp.row l)) [Bo false] = List.map (fun b0 => [Bo b0]) (List.replicate (List.length l) false),
      LoopC Try.prog (0 : Nat) (77 : Nat) raB { env := [((0 : Nat), V.sl (10 : Nat) (List.map Sp.row l)), ((1 : Nat), V.sl (1 : Nat) (List.map (fun n0 => [I n0]) o)), ((2 : Nat), I m), ((8 : Nat), V.own (900 : Nat)), ((9 : Nat), V.own (901 : Nat)), ((10 : Nat), I (0 : Int))], st := [((901 : Nat), Obj.arr (1 : Nat) (List.map (fun b0 => [Bo b0]) (List.replicate (List.length l) false))), ((900 : Nat), Obj.arr (10 : Nat) [])], ids := [(901 : Nat), (900 : Nat)] } (Ex.exit (0 : Nat)) { env := [((0 : Nat), V.sl (10 : Nat) (List.map Sp.row l)), ((1 : Nat), V.sl (1 : Nat) (List.map (fun n0 => [I n0]) o)), ((2 : Nat), I m), ((8 : Nat), V.own (900 : Nat)), ((9 : Nat), V.own (901 : Nat)), ((10 : Nat), I (Int.ofNat (List.length l)))], st := [((901 : Nat), Obj.arr (1 : Nat) (List.map (fun b0 => [Bo b0]) hh)), ((900 : Nat), Obj.arr (10 : Nat) (List.map Sp.row mm))], ids := [(901 : Nat), (900 : Nat)] },
      Contract Try.prog (10 : Nat) [V.sl (10 : Nat) (List.map Sp.row l), I m] [] (V.own (0 : Nat)) [some (Obj.arr (14 : Nat) (List.map Rw.row (rowsR l m)))],
      Contract Try.prog (10 : Nat) [V.sl (10 : Nat) (List.map Sp.row mm), I m] [] (V.own (0 : Nat)) [some (Obj.arr (14 : Nat) (List.map Rw.row (rowsR l m)))],
      true = true,
      FlatRows (List.map Rw.row (rowsR l m)),
      Contract Try.prog (11 : Nat) [V.sl (14 : Nat) (List.map Rw.row (rowsR l m)), V.sl (14 : Nat) (List.map Rw.row (rowsR l m))] [] (Bo true) [],
      true = true,
      Contract Try.prog (12 : Nat) [V.sl (14 : Nat) (List.map Rw.row (rowsR l m))] [] (Bo true) []] (by kernel_rfl)
    (by
      simp only [allP]
      and_intros <;> first
        | omega
        | with_reducible assumption
        | exact cAlive
        | exact cFewAll _
        | (simp [h1]; done)
        | (simp; omega)
        | (simp [bRow]; done)
        | exact hl
        | exact cRows l m (by omega) ha
        | (rw [← hp]; exact cRows mm m (by omega) hb)
        | exact flatRw _
        | exact cSame _ (by omega)
        | (have := cOrdered (rowsR l m) (by omega); rw [sorted_ord (sorted_rows l m)] at this; exact this)
        | (simp; done)
        | decide)

theorem anyC (l : List Sp) (o : List Int) (m : Int) (mm : List Sp) (hh : List Bool) (h1 : fewAll l = true) (h2 : l.length ≤ o.length) (hs : l.length ≤ 60) (hp : rowsR mm m = rowsR l m) (hml : mm.length ≤ 60) (ha : ∀ x ∈ l, x.attrs.length ≤ 1000000000) (hb : ∀ x ∈ mm, x.attrs.length ≤ 1000000000) (hr : (rowsR l m).length ≤ 1000) (hl : LoopC Try.prog 0 77 raB (raS l o m [] (List.replicate l.length false) 0) (.exit 0) (raS l o m mm hh l.length)) : Contract Try.prog 3 [.sl 10 (l.map Sp.row), .sl 1 (o.map iRow), I m] [] (Bo true) [] := by
  exact Contract.cast (by first | rfl | (simp only [cond_true, cond_false]; done) | (simp []; done) | (first | (simp []; done) | (refine congrArg _ ?_; simp []; done) | (refine congrArg _ ?_; simp []; omega) | (simp only [Bool.cond_eq_ite, Bool.and_eq_true, Bool.or_eq_true, Bool.not_eq_true', decide_eq_true_eq, beq_iff_eq, beq_eq_false_iff_ne, ne_eq]; (repeat' split) <;> first | rfl | (exfalso; omega) | omega | (simp_all; done) | (exfalso; simp_all; omega)))) (by first | rfl | (simp only [cond_true, cond_false]; done) | (simp []; done) | (first | (simp []; done) | (refine congrArg _ ?_; simp []; done) | (refine congrArg _ ?_; simp []; omega) | (simp only [Bool.cond_eq_ite, Bool.and_eq_true, Bool.or_eq_true, Bool.not_eq_true', decide_eq_true_eq, beq_iff_eq, beq_eq_false_iff_ne, ne_eq]; (repeat' split) <;> first | rfl | (exfalso; omega) | omega | (simp_all; done) | (exfalso; simp_all; omega)))) (anyC_0 l o m mm hh h1 h2 hs hp hml ha hb hr hl )

theorem cAny (l : List Sp) (o : List Int) (m : Int) (hm : inI m) : Contract Try.prog 3 [.sl 10 (l.map Sp.row), .sl 1 (o.map iRow), I m] [] (Bo true) [] := by
  cases h1 : fewAll l with
  | false => exact anyA l o m h1
  | true =>
    by_cases h2 : l.length ≤ o.length
    · obtain ⟨hs, ha⟩ := fewAll_len h1
      obtain ⟨ks, hh, c1, c2, c3⟩ := raLoop l o m hs h2 l.length 0 [] (List.replicate l.length false) (by omega) rfl (Came.nil _)
      have hp := atAll_perm c1 c2
      have hr := rowsR_len l m
      exact anyC l o m (atAll l ks) hh h1 h2 hs (rows_perm hm hp) (by rw [hp.length_eq]; exact hs) (fun x hx => by have := ha x hx; omega) (fun x hx => by have := ha x (hp.mem_iff.1 hx); omega) (by omega) c3
    · exact anyB l o m h1 (by omega)
end Go.Proofs.Ytigakemkanobaaa
