/- edges: batches of unlike traces. -/
import Derived.Test.YtieffigehkjifaaEdAny
namespace Go.Proofs.Ytieffigehkjifaa
open E
set_option maxRecDepth 100000
set_option linter.unusedVariables false
set_option linter.unusedSimpArgs false


def sameT (x y : Sp) : Bool := decide (x.hi = y.hi) && (decide (x.lo = y.lo) && true)
def toS (a b : List Sp) (hi lo m : Int) (r : Bool) (i : Nat) : SL := ⟨[(0, .sl 10 (a.map Sp.row)), (1, .sl 10 (b.map Sp.row)), (3, I m), (6, .ptr 1000 0 0 0), (8, Bo r), (10, I (i : Int))], [(1000, .box [U hi, U lo])], [1000]⟩
def tiS (a b : List Sp) (hi lo m : Int) (r : Bool) (i k : Nat) : SL := ⟨[(0, .sl 10 (a.map Sp.row)), (1, .sl 10 (b.map Sp.row)), (3, I m), (6, .ptr 1000 0 0 0), (8, Bo r), (10, I (i : Int)), (11, I (k : Int))], [(1000, .box [U hi, U lo])], [1000]⟩
def spP (hi lo : Int) : Sp := ⟨hi, lo, 1, 0, ⟨#[120]⟩, ⟨#[111]⟩, 0, 0, false, []⟩
def spQ (hi lo : Int) : Sp := ⟨hi, lo, 2, 1, ⟨#[121]⟩, ⟨#[111]⟩, 0, 0, false, []⟩
def edXY : Ed := Ed.mk ⟨#[120]⟩ ⟨#[121]⟩ 1 0
noncomputable def toB : Code := codeAt Try.prog 5 [true, true, true, false, true, false, false]

noncomputable def tiB : Code := codeAt Try.prog 5 [true, true, true, false, true, false, false, true, false, false, true, false, false]

theorem tiGo (a b : List Sp) (hi lo m : Int) (x y : Sp) (i k : Nat) (h : k < b.length) (hi1 : i < a.length) (hx : a[i]? = some x) (hy : b[k]? = some y) (hs : a.length ≤ 60) (ht : b.length ≤ 60) (h1 : sameT x y = false) : CodeC Try.prog 0 109 tiB (tiS a b hi lo m false i k) .normal (tiS a b hi lo m false i (k + 1)) :=
  runP hmix [.reg 8 [(2, [.be (I (b.length : Int))], none), (3, [], some true)], .reg 10 [(4, [.row (Sp.row x)], none), (9, [.row (Sp.row y)], none), (10, [], some false)], .reg 9 [(1, [.be (I ((k + 1 : Nat) : Int))], none)]] ⟨[0, 1, 3, 6, 8, 10, 11], [(1000, 1000)], []⟩ [
      Int.ofNat (List.length (List.map Sp.row b)) = Int.ofNat (List.length b),
      decide (Int.ofNat k < Int.ofNat (List.length b)) = true,
      (0 : Int) ≤ Int.ofNat i,
      Int.ofNat i < Int.ofNat (List.length (List.map Sp.row a)),
      (List.map Sp.row a)[i]? = some (Sp.row x),
      (0 : Int) ≤ Int.ofNat k,
      Int.ofNat k < Int.ofNat (List.length (List.map Sp.row b)),
      (List.map Sp.row b)[k]? = some (Sp.row y),
      (decide (Sp.hi x = Sp.hi y) && (decide (Sp.lo x = Sp.lo y) && true)) = false,
      IntKind.wrap IntKind.i64 (Int.ofNat (k + (1 : Nat))) = Int.ofNat (k + (1 : Nat))] (by kernel_rfl)
    (by
      simp only [allP]
      and_intros <;> first
        | omega
        | with_reducible assumption
        | (simp; omega)
        | (simp [hx]; done)
        | (simp [hy]; done)
        | exact i64_small (by simp; omega)
        | exact h1
        | (simp; done)
        | decide)

theorem tiStop (a b : List Sp) (hi lo m : Int) (x y : Sp) (i k : Nat) (h : k < b.length) (hi1 : i < a.length) (hx : a[i]? = some x) (hy : b[k]? = some y) (hs : a.length ≤ 60) (ht : b.length ≤ 60) (h1 : sameT x y = true) : CodeC Try.prog 0 109 tiB (tiS a b hi lo m false i k) .ret (tiS a b hi lo m true i k) :=
  runP hmix [.reg 8 [(2, [.be (I (b.length : Int))], none), (3, [], some true)], .reg 10 [(4, [.row (Sp.row x)], none), (9, [.row (Sp.row y)], none), (10, [], some true)]] ⟨[0, 1, 3, 6, 8, 10, 11], [(1000, 1000)], []⟩ [
      Int.ofNat (List.length (List.map Sp.row b)) = Int.ofNat (List.length b),
      decide (Int.ofNat k < Int.ofNat (List.length b)) = true,
      (0 : Int) ≤ Int.ofNat i,
      Int.ofNat i < Int.ofNat (List.length (List.map Sp.row a)),
      (List.map Sp.row a)[i]? = some (Sp.row x),
      (0 : Int) ≤ Int.ofNat k,
      Int.ofNat k < Int.ofNat (List.length (List.map Sp.row b)),
      (List.map Sp.row b)[k]? = some (Sp.row y),
      (decide (Sp.hi x = Sp.hi y) && (decide (Sp.lo x = Sp.lo y) && true)) = true] (by kernel_rfl)
    (by
      simp only [allP]
      and_intros <;> first
        | omega
        | with_reducible assumption
        | (simp; omega)
        | (simp [hx]; done)
        | (simp [hy]; done)
        | exact i64_small (by simp; omega)
        | exact h1
        | (simp; done)
        | decide)

theorem tiEnd (a b : List Sp) (hi lo m : Int) (i k : Nat) (h : b.length ≤ k) : CodeC Try.prog 0 109 tiB (tiS a b hi lo m false i k) (.exit 2) (tiS a b hi lo m false i k) :=
  runP hmix [.reg 8 [(2, [.be (I (b.length : Int))], none), (3, [], some false)]] ⟨[0, 1, 3, 6, 8, 10, 11], [(1000, 1000)], []⟩ [
      Int.ofNat (List.length (List.map Sp.row b)) = Int.ofNat (List.length b),
      decide (Int.ofNat k < Int.ofNat (List.length b)) = false] (by kernel_rfl)
    (by
      simp only [allP]
      and_intros <;> first
        | omega
        | with_reducible assumption
        | (simp; omega)
        | (simp; done)
        | decide)

theorem toEnd (a b : List Sp) (hi lo m : Int) (i k : Nat) (h : a.length ≤ i) : CodeC Try.prog 0 109 toB (toS a b hi lo m false i) (.exit 0) (toS a b hi lo m false i) :=
  runP hmix [.reg 5 [(2, [.be (I (a.length : Int))], none), (3, [], some false)]] ⟨[0, 1, 3, 6, 8, 10], [(1000, 1000)], []⟩ [
      Int.ofNat (List.length (List.map Sp.row a)) = Int.ofNat (List.length a),
      decide (Int.ofNat i < Int.ofNat (List.length a)) = false] (by kernel_rfl)
    (by
      simp only [allP]
      and_intros <;> first
        | omega
        | with_reducible assumption
        | (simp; omega)
        | exact i64_small (by simp; omega)
        | exact hl
        | (simp; done)
        | decide)

theorem toStop (a b : List Sp) (hi lo m : Int) (i k : Nat) (h : i < a.length) (hs : a.length ≤ 60) (hl : LoopC Try.prog 0 109 tiB (tiS a b hi lo m false i 0) .ret (tiS a b hi lo m true i k)) : CodeC Try.prog 0 109 toB (toS a b hi lo m false i) .ret (toS a b hi lo m true i) :=
  runP hmix [.reg 5 [(2, [.be (I (a.length : Int))], none), (3, [], some true)], .cut ⟨[0, 1, 3, 6, 8, 10, 11], [(1000, 1000)], []⟩ .ret (tiS a b hi lo m true i k)] ⟨[0, 1, 3, 6, 8, 10], [(1000, 1000)], []⟩ [
      Int.ofNat (List.length (List.map Sp.row a)) = Int.ofNat (List.length a),
      decide (Int.ofNat i < Int.ofNat (List.length a)) = true,
      LoopC Try.prog (0 : Nat) (109 : Nat) tiB { env := [((0 : Nat), V.sl (10 : Nat) (List.map Sp.row a)), ((1 : Nat), V.sl (10 : Nat) (List.map Sp.row b)), ((3 : Nat), I m), ((6 : Nat), V.ptr (1000 : Nat) (0 : Nat) (0 : Nat) (0 : Nat)), ((8 : Nat), Bo false), ((10 : Nat), I (Int.ofNat i)), ((11 : Nat), I (0 : Int))], st := [((1000 : Nat), Obj.box [V.val (Value.int IntKind.u64 hi), V.val (Value.int IntKind.u64 lo)])], ids := [(1000 : Nat)] } Ex.ret { env := [((0 : Nat), V.sl (10 : Nat) (List.map Sp.row a)), ((1 : Nat), V.sl (10 : Nat) (List.map Sp.row b)), ((3 : Nat), I m), ((6 : Nat), V.ptr (1000 : Nat) (0 : Nat) (0 : Nat) (0 : Nat)), ((8 : Nat), Bo true), ((10 : Nat), I (Int.ofNat i)), ((11 : Nat), I (Int.ofNat k))], st := [((1000 : Nat), Obj.box [V.val (Value.int IntKind.u64 hi), V.val (Value.int IntKind.u64 lo)])], ids := [(1000 : Nat)] }] (by kernel_rfl)
    (by
      simp only [allP]
      and_intros <;> first
        | omega
        | with_reducible assumption
        | (simp; omega)
        | exact i64_small (by simp; omega)
        | exact hl
        | (simp; done)
        | decide)

theorem toGo (a b : List Sp) (hi lo m : Int) (i k : Nat) (h : i < a.length) (hs : a.length ≤ 60) (hl : LoopC Try.prog 0 109 tiB (tiS a b hi lo m false i 0) (.exit 2) (tiS a b hi lo m false i k)) : CodeC Try.prog 0 109 toB (toS a b hi lo m false i) .normal (toS a b hi lo m false (i + 1)) :=
  runP hmix [.reg 5 [(2, [.be (I (a.length : Int))], none), (3, [], some true)], .cut ⟨[0, 1, 3, 6, 8, 10, 11], [(1000, 1000)], []⟩ (.exit 2) (tiS a b hi lo m false i k), .reg 6 [(1, [.be (I ((i + 1 : Nat) : Int))], none)]] ⟨[0, 1, 3, 6, 8, 10], [(1000, 1000)], []⟩ [
      Int.ofNat (List.length (List.map Sp.row a)) = Int.ofNat (List.length a),
      decide (Int.ofNat i < Int.ofNat (List.length a)) = true,
      LoopC Try.prog (0 : Nat) (109 : Nat) tiB { env := [((0 : Nat), V.sl (10 : Nat) (List.map Sp.row a)), ((1 : Nat), V.sl (10 : Nat) (List.map Sp.row b)), ((3 : Nat), I m), ((6 : Nat), V.ptr (1000 : Nat) (0 : Nat) (0 : Nat) (0 : Nat)), ((8 : Nat), Bo false), ((10 : Nat), I (Int.ofNat i)), ((11 : Nat), I (0 : Int))], st := [((1000 : Nat), Obj.box [V.val (Value.int IntKind.u64 hi), V.val (Value.int IntKind.u64 lo)])], ids := [(1000 : Nat)] } (Ex.exit (2 : Nat)) { env := [((0 : Nat), V.sl (10 : Nat) (List.map Sp.row a)), ((1 : Nat), V.sl (10 : Nat) (List.map Sp.row b)), ((3 : Nat), I m), ((6 : Nat), V.ptr (1000 : Nat) (0 : Nat) (0 : Nat) (0 : Nat)), ((8 : Nat), Bo false), ((10 : Nat), I (Int.ofNat i)), ((11 : Nat), I (Int.ofNat k))], st := [((1000 : Nat), Obj.box [V.val (Value.int IntKind.u64 hi), V.val (Value.int IntKind.u64 lo)])], ids := [(1000 : Nat)] },
      IntKind.wrap IntKind.i64 (Int.ofNat (i + (1 : Nat))) = Int.ofNat (i + (1 : Nat))] (by kernel_rfl)
    (by
      simp only [allP]
      and_intros <;> first
        | omega
        | with_reducible assumption
        | (simp; omega)
        | exact i64_small (by simp; omega)
        | exact hl
        | (simp; done)
        | decide)

theorem toLoop (a b : List Sp) (hi lo m : Int) (hs : a.length ≤ 60) (ht : b.length ≤ 60) :
    (∃ i, LoopC Try.prog 0 109 toB (toS a b hi lo m false 0) .ret (toS a b hi lo m true i)) ∨ ((∀ x ∈ a, ∀ y ∈ b, sameT x y = false) ∧ LoopC Try.prog 0 109 toB (toS a b hi lo m false 0) (.exit 0) (toS a b hi lo m false a.length)) := by
  have inner : ∀ (i : Nat) (x : Sp), a[i]? = some x → i < a.length →
      (∃ k y, b[k]? = some y ∧ sameT x y = true ∧ LoopC Try.prog 0 109 tiB (tiS a b hi lo m false i 0) .ret (tiS a b hi lo m true i k)) ∨ ((∀ y ∈ b, sameT x y = false) ∧ LoopC Try.prog 0 109 tiB (tiS a b hi lo m false i 0) (.exit 2) (tiS a b hi lo m false i b.length)) := by
    intro i x hx hi1
    rcases LoopC.search (P := Try.prog) (k := 0) (n := 109) (c := tiB) b (fun _ y => sameT x y) (fun k => tiS a b hi lo m false i k) (fun k => tiS a b hi lo m true i k) (e1 := .ret) (e2 := .exit 2) (by simp) (by simp)
      (fun k y hy hk hb => tiGo a b hi lo m x y i k hk hi1 hx hy hs ht hb)
      (fun k y hy hk hb => tiStop a b hi lo m x y i k hk hi1 hx hy hs ht hb)
      (tiEnd a b hi lo m i _ (Nat.le_refl _)) with ⟨k, y, k1, k2, _, k4⟩ | ⟨k1, k2⟩
    · exact .inl ⟨k, y, k1, k2, k4⟩
    · refine .inr ⟨fun y hy => ?_, k2⟩
      obtain ⟨j, hj⟩ := List.mem_iff_getElem?.1 hy
      exact k1 j y hj
  rcases LoopC.search (P := Try.prog) (k := 0) (n := 109) (c := toB) a (fun _ x => b.any (sameT x)) (fun i => toS a b hi lo m false i) (fun i => toS a b hi lo m true i) (e1 := .ret) (e2 := .exit 0) (by simp) (by simp)
    (fun i x hx hi1 hb => by
      rcases inner i x hx hi1 with ⟨k, y, k1, k2, _⟩ | ⟨_, k2⟩
      · exact absurd (List.any_eq_true.2 ⟨y, List.mem_of_getElem? k1, k2⟩) (by simp only [hb]; simp)
      · exact toGo a b hi lo m i _ hi1 hs k2)
    (fun i x hx hi1 hb => by
      rcases inner i x hx hi1 with ⟨k, y, _, _, k4⟩ | ⟨k1, _⟩
      · exact toStop a b hi lo m i k hi1 hs k4
      · obtain ⟨y, hy, e⟩ := List.any_eq_true.1 hb
        rw [k1 y hy] at e; cases e)
    (toEnd a b hi lo m _ 0 (Nat.le_refl _)) with ⟨i, x, _, _, _, k4⟩ | ⟨k1, k2⟩
  · exact .inl ⟨i, k4⟩
  · refine .inr ⟨fun x hx y hy => ?_, k2⟩
    obtain ⟨j, hj⟩ := List.mem_iff_getElem?.1 hx
    have := k1 j x hj
    rw [List.any_eq_false] at this
    simpa using this y hy

theorem callM_far {s x : Sp} (h : sameT x s = false) : callM s x = false := by
  unfold callM
  unfold sameT at h
  rw [h]; rfl
theorem callM_far' {s x : Sp} (h : sameT s x = false) : callM s x = false := by
  apply callM_far
  unfold sameT at h ⊢
  rw [show decide (x.hi = s.hi) = decide (s.hi = x.hi) by simp [eq_comm], show decide (x.lo = s.lo) = decide (s.lo = x.lo) by simp [eq_comm]]
  exact h
theorem filterMap_cg {α β : Type} {f g : α → Option β} : ∀ {l : List α}, (∀ x ∈ l, f x = g x) → l.filterMap f = l.filterMap g
  | [], _ => rfl
  | x :: l, h => by
    rw [List.filterMap_cons, List.filterMap_cons, h x (by simp), filterMap_cg fun y hy => h y (by simp [hy])]
theorem edges_together (a b : List Sp) (m : Int) (h : ∀ x ∈ a, ∀ y ∈ b, sameT x y = false) : addE [] (a ++ b) m = addE (addE [] a m) b m := by
  rw [addE_eq (sorted_addE sorted_nil a m), addE_eq sorted_nil, addE_eq sorted_nil, ← List.foldl_append]
  congr 1
  have ha : ∀ s ∈ a, callerS (a ++ b) s = callerS a s := by
    intro s hs
    unfold callerS
    rw [List.find?_append]
    have : b.find? (callM s) = none := List.find?_eq_none.2 fun y hy => by rw [callM_far' (h s hs y hy)]; simp
    rw [this, Option.or_none]
  have hb : ∀ s ∈ b, callerS (a ++ b) s = callerS b s := by
    intro s hs
    unfold callerS
    rw [List.find?_append]
    have : a.find? (callM s) = none := List.find?_eq_none.2 fun y hy => by rw [callM_far (h y hy s hs)]; simp
    rw [this, Option.none_or]
  unfold evs
  rw [List.filterMap_append]
  congr 1
  · apply filterMap_cg
    intro s hs
    unfold evK
    rw [ha s hs]
  · apply filterMap_cg
    intro s hs
    unfold evK
    rw [hb s hs]

theorem rP (hi lo : Int) : rightS (spP hi lo) = true := by kernel_rfl
theorem rQ (hi lo : Int) : rightS (spQ hi lo) = true := by kernel_rfl
theorem sT (hi lo : Int) : (decide (hi = hi) && (decide (lo = lo) && true)) = true := by simp
theorem cMs (s x : Sp) (h1 : x.hi = s.hi) (h2 : x.lo = s.lo) : callM s x = (bif x.id == s.par then rightS x else false) := by
  unfold callM
  rw [h1, h2, sT]
  rfl
theorem kPP (hi lo : Int) : callerS [spP hi lo] (spP hi lo) = (ByteArray.empty, false) := by
  unfold callerS
  rw [List.find?_cons, cMs _ _ rfl rfl]; rfl
theorem kQQ (hi lo : Int) : callerS [spQ hi lo] (spQ hi lo) = (ByteArray.empty, false) := by
  unfold callerS
  rw [List.find?_cons, cMs _ _ rfl rfl]; rfl
theorem kPQP (hi lo : Int) : callerS [spP hi lo, spQ hi lo] (spP hi lo) = (ByteArray.empty, false) := by
  unfold callerS
  rw [List.find?_cons, cMs (spP hi lo) (spP hi lo) rfl rfl, List.find?_cons, cMs (spP hi lo) (spQ hi lo) rfl rfl]; rfl
theorem kPQQ (hi lo : Int) : callerS [spP hi lo, spQ hi lo] (spQ hi lo) = (⟨#[120]⟩, true) := by
  unfold callerS
  rw [List.find?_cons, cMs (spQ hi lo) (spP hi lo) rfl rfl, rP]
  kernel_rfl
theorem addP (hi lo : Int) : addE [] [spP hi lo] 9 = [] := by
  unfold addE
  simp only [List.foldl_cons, List.foldl_nil, stepE, rP, kPP, cond_true, cond_false]
theorem addQ (hi lo : Int) : addE [] [spQ hi lo] 9 = [] := by
  unfold addE
  simp only [List.foldl_cons, List.foldl_nil, stepE, rQ, kQQ, cond_true, cond_false]
theorem addPQ (hi lo : Int) : addE [] [spP hi lo, spQ hi lo] 9 = [edXY] := by
  unfold addE
  simp only [List.foldl_cons, List.foldl_nil, stepE, rP, rQ, kPQP, kPQQ, cond_true, cond_false]
  kernel_rfl

theorem togA (a b : List Sp) (hi lo m : Int) (h1 : fewAll a = false) : Contract Try.prog 5 [.sl 10 (a.map Sp.row), .sl 10 (b.map Sp.row), .agg [U hi, U lo], I m] [] (Bo true) [] :=
  vcP hmix [.reg 2 [(4, [.call [] [] (Bo (fewAll a)) []], some false)], .tab [(6, FAlive)]] [] [
      Contract Try.prog (6 : Nat) [] [] (Bo true) [],
      Contract Try.prog (7 : Nat) [V.sl (10 : Nat) (List.map Sp.row a)] [] (Bo (fewAll a)) [],
      fewAll a = false] (by kernel_rfl)
    (by
      simp only [allP]
      and_intros <;> first
        | omega
        | with_reducible assumption
        | exact cAlive
        | exact cFewAll _
        | exact i64_small (by simp; omega)
        | (simp; omega)
        | exact hl
        | (simp; done)
        | decide)

theorem togB (a b : List Sp) (hi lo m : Int) (h1 : fewAll a = true) (h2 : fewAll b = false) : Contract Try.prog 5 [.sl 10 (a.map Sp.row), .sl 10 (b.map Sp.row), .agg [U hi, U lo], I m] [] (Bo true) [] :=
  vcP hmix [.reg 2 [(4, [.call [] [] (Bo (fewAll a)) []], some true), (9, [.call [] [] (Bo (fewAll b)) []], some false)], .tab [(6, FAlive)]] [] [
      Contract Try.prog (6 : Nat) [] [] (Bo true) [],
      Contract Try.prog (7 : Nat) [V.sl (10 : Nat) (List.map Sp.row a)] [] (Bo (fewAll a)) [],
      fewAll a = true,
      Contract Try.prog (7 : Nat) [V.sl (10 : Nat) (List.map Sp.row b)] [] (Bo (fewAll b)) [],
      fewAll b = false] (by kernel_rfl)
    (by
      simp only [allP]
      and_intros <;> first
        | omega
        | with_reducible assumption
        | exact cAlive
        | exact cFewAll _
        | exact i64_small (by simp; omega)
        | (simp; omega)
        | exact hl
        | (simp; done)
        | decide)

theorem togC (a b : List Sp) (hi lo m : Int) (h1 : fewAll a = true) (h2 : fewAll b = true) (la : a.length ≤ 60) (lb : b.length ≤ 60) (h3 : 60 < a.length + b.length) : Contract Try.prog 5 [.sl 10 (a.map Sp.row), .sl 10 (b.map Sp.row), .agg [U hi, U lo], I m] [] (Bo true) [] :=
  vcP hmix [.reg 2 [(4, [.call [] [] (Bo (fewAll a)) []], some true), (9, [.call [] [] (Bo (fewAll b)) []], some true), (14, [.be (I (a.length : Int))], none), (16, [.be (I (b.length : Int))], none), (17, [.be (I ((a.length + b.length : Nat) : Int))], none), (18, [], some true)], .tab [(6, FAlive)]] [] [
      Contract Try.prog (6 : Nat) [] [] (Bo true) [],
      Contract Try.prog (7 : Nat) [V.sl (10 : Nat) (List.map Sp.row a)] [] (Bo (fewAll a)) [],
      fewAll a = true,
      Contract Try.prog (7 : Nat) [V.sl (10 : Nat) (List.map Sp.row b)] [] (Bo (fewAll b)) [],
      fewAll b = true,
      Int.ofNat (List.length (List.map Sp.row a)) = Int.ofNat (List.length a),
      Int.ofNat (List.length (List.map Sp.row b)) = Int.ofNat (List.length b),
      IntKind.wrap IntKind.i64 (Int.ofNat (List.length a + List.length b)) = Int.ofNat (List.length a + List.length b),
      decide (Int.ofNat (List.length a + List.length b) > (60 : Int)) = true] (by kernel_rfl)
    (by
      simp only [allP]
      and_intros <;> first
        | omega
        | with_reducible assumption
        | exact cAlive
        | exact cFewAll _
        | exact i64_small (by simp; omega)
        | (simp; omega)
        | exact hl
        | (simp; done)
        | decide)

theorem togD (a b : List Sp) (hi lo m : Int) (i : Nat) (h1 : fewAll a = true) (h2 : fewAll b = true) (la : a.length ≤ 60) (lb : b.length ≤ 60) (h3 : a.length + b.length ≤ 60) (hl : LoopC Try.prog 0 109 toB (toS a b hi lo m false 0) .ret (toS a b hi lo m true i)) : Contract Try.prog 5 [.sl 10 (a.map Sp.row), .sl 10 (b.map Sp.row), .agg [U hi, U lo], I m] [] (Bo true) [] :=
  vcP hmix [.reg 2 [(4, [.call [] [] (Bo (fewAll a)) []], some true), (9, [.call [] [] (Bo (fewAll b)) []], some true), (14, [.be (I (a.length : Int))], none), (16, [.be (I (b.length : Int))], none), (17, [.be (I ((a.length + b.length : Nat) : Int))], none), (18, [], some false)], .cut ⟨[0, 1, 3, 6, 8, 10], [(1000, 1000)], []⟩ .ret (toS a b hi lo m true i), .tab [(6, FAlive)]] [] [
      Contract Try.prog (6 : Nat) [] [] (Bo true) [],
      Contract Try.prog (7 : Nat) [V.sl (10 : Nat) (List.map Sp.row a)] [] (Bo (fewAll a)) [],
      fewAll a = true,
      Contract Try.prog (7 : Nat) [V.sl (10 : Nat) (List.map Sp.row b)] [] (Bo (fewAll b)) [],
      fewAll b = true,
      Int.ofNat (List.length (List.map Sp.row a)) = Int.ofNat (List.length a),
      Int.ofNat (List.length (List.map Sp.row b)) = Int.ofNat (List.length b),
      IntKind.wrap IntKind.i64 (Int.ofNat (List.length a + List.length b)) = Int.ofNat (List.length a + List.length b),
      decide (Int.ofNat (List.length a + List.length b) > (60 : Int)) = false,
      LoopC Try.prog (0 : Nat) (109 : Nat) toB { env := [((0 : Nat), V.sl (10 : Nat) (List.map Sp.row a)), ((1 : Nat), V.sl (10 : Nat) (List.map Sp.row b)), ((3 : Nat), I m), ((6 : Nat), V.ptr (1000 : Nat) (0 : Nat) (0 : Nat) (0 : Nat)), ((8 : Nat), Bo false), ((10 : Nat), I (0 : Int))], st := [((1000 : Nat), Obj.box [V.val (Value.int IntKind.u64 hi), V.val (Value.int IntKind.u64 lo)])], ids := [(1000 : Nat)] } Ex.ret { env := [((0 : Nat), V.sl (10 : Nat) (List.map Sp.row a)), ((1 : Nat), V.sl (10 : Nat) (List.map Sp.row b)), ((3 : Nat), I m), ((6 : Nat), V.ptr (1000 : Nat) (0 : Nat) (0 : Nat) (0 : Nat)), ((8 : Nat), Bo true), ((10 : Nat), I (Int.ofNat i))], st := [((1000 : Nat), Obj.box [V.val (Value.int IntKind.u64 hi), V.val (Value.int IntKind.u64 lo)])], ids := [(1000 : Nat)] }] (by kernel_rfl)
    (by
      simp only [allP]
      and_intros <;> first
        | omega
        | with_reducible assumption
        | exact cAlive
        | exact cFewAll _
        | exact i64_small (by simp; omega)
        | (simp; omega)
        | exact hl
        | (simp; done)
        | decide)

theorem togGo (a b : List Sp) (hi lo m : Int) (h1 : fewAll a = true) (h2 : fewAll b = true) (la : a.length ≤ 60) (lb : b.length ≤ 60) (h3 : a.length + b.length ≤ 60) (hl : LoopC Try.prog 0 109 toB (toS a b hi lo m false 0) (.exit 0) (toS a b hi lo m false a.length)) (hE : addE [] (a ++ b) m = addE (addE [] a m) b m) (aa : ∀ x ∈ a, x.attrs.length ≤ 20) (ab : ∀ x ∈ b, x.attrs.length ≤ 20) (aab : ∀ x ∈ a ++ b, x.attrs.length ≤ 20) (k1 : (addE [] a m).length ≤ 60) (k2 : (addE [] (a ++ b) m).length ≤ 120) : Contract Try.prog 5 [.sl 10 (a.map Sp.row), .sl 10 (b.map Sp.row), .agg [U hi, U lo], I m] [] (Bo true) [] :=
  vcP hmix [.reg 2 [(4, [.call [] [] (Bo (fewAll a)) []], some true), (9, [.call [] [] (Bo (fewAll b)) []], some true), (14, [.be (I (a.length : Int))], none), (16, [.be (I (b.length : Int))], none), (17, [.be (I ((a.length + b.length : Nat) : Int))], none), (18, [], some false)], .cut ⟨[0, 1, 3, 6, 8, 10], [(1000, 1000)], []⟩ (.exit 0) (toS a b hi lo m false a.length), .reg 12 [(3, [.beO ((a ++ b).map Sp.row)], none), (5, [.call [] [] (.own 0) [some (.arr 4 (((addE [] (a ++ b) m).map Ed.row)))]], none), (6, [.idx 1], none)], .reg 13 [(2, [.call [] [] (.own 0) [some (.arr 4 (((addE [] a m).map Ed.row)))]], none), (5, [.call [] [] (.own 0) [some (.arr 4 (((addE [] (a ++ b) m).map Ed.row)))]], none), (6, [.idx 1], none)], .reg 16 [(1, [.call [] [] (.own 0) [some (.arr 4 ([]))]], none), (3, [.call [] [] (.own 0) [some (.arr 4 ([]))]], none), (4, [.idx 1], none)], .reg 17 [(3, [.call [] [] (.own 0) [some (.arr 4 ([Ed.row edXY]))]], none), (4, [.idx 1], none)], .reg 18 [(2, [.call [] [] (Bo true) []], none), (17, [.row (Ed.row edXY)], none)], .tab [(6, FAlive)]] [] [
      Contract Try.prog (6 : Nat) [] [] (Bo true) [],
      Contract Try.prog (7 : Nat) [V.sl (10 : Nat) (List.map Sp.row a)] [] (Bo (fewAll a)) [],
      fewAll a = true,
      Contract Try.prog (7 : Nat) [V.sl (10 : Nat) (List.map Sp.row b)] [] (Bo (fewAll b)) [],
      fewAll b = true,
      Int.ofNat (List.length (List.map Sp.row a)) = Int.ofNat (List.length a),
      Int.ofNat (List.length (List.map Sp.row b)) = Int.ofNat (List.length b),
      IntKind.wrap IntKind.i64 (Int.ofNat (List.length a + List.length b)) = Int.ofNat (List.length a + List.length b),
      decide (Int.ofNat (List.length a + List.length b) > (60 : Int)) = false,
      LoopC Try.prog (0 : Nat) (109 : Nat) toB { env := [((0 : Nat), V.sl (10 : Nat) (List.map Sp.row a)), ((1 : Nat), V.sl (10 : Nat) (List.map Sp.row b)), ((3 : Nat), I m), ((6 : Nat), V.ptr (1000 : Nat) (0 : Nat) (0 : Nat) (0 : Nat)), ((8 : Nat), Bo false), ((10 : Nat), I (0 : Int))], st := [((1000 : Nat), Obj.box [V.val (Value.int IntKind.u64 hi), V.val (Value.int IntKind.u64 lo)])], ids := [(1000 : Nat)] } (Ex.exit (0 : Nat)) { env := [((0 : Nat), V.sl (10 : Nat) (List.map Sp.row a)), ((1 : Nat), V.sl (10 : Nat) (List.map Sp.row b)), ((3 : Nat), I m), ((6 : Nat), V.ptr (1000 : Nat) (0 : Nat) (0 : Nat) (0 : Nat)), ((8 : Nat), Bo false), ((10 : Nat), I (Int.ofNat (List.length a)))], st := [((1000 : Nat), Obj.box [V.val (Value.int IntKind.u64 hi), V.val (Value.int IntKind.u64 lo)])], ids := [(1000 : Nat)] },
      List.length (List.map Sp.row a) * (112 : Nat) ≤ (140737488355328 : Nat),
      (List.length (List.map Sp.row a) + List.length (List.map Sp.row b)) * (112 : Nat) ≤ (140737488355328 : Nat),
      List.map Sp.row a ++ List.map Sp.row b = List.map Sp.row (a ++ b),
      Contract Try.prog (8 : Nat) [V.sl (4 : Nat) [], V.sl (10 : Nat) (List.map Sp.row (a ++ b)), I m] [] (V.own (0 : Nat)) [some (Obj.arr (4 : Nat) (List.map Ed.row (addE [] (a ++ b) m)))],
      true = true,
      FlatRows (List.map Ed.row (addE [] (a ++ b) m)),
      Contract Try.prog (8 : Nat) [V.sl (4 : Nat) [], V.sl (10 : Nat) (List.map Sp.row a), I m] [] (V.own (0 : Nat)) [some (Obj.arr (4 : Nat) (List.map Ed.row (addE [] a m)))],
      Contract Try.prog (8 : Nat) [V.sl (4 : Nat) (List.map Ed.row (addE [] a m)), V.sl (10 : Nat) (List.map Sp.row b), I m] [] (V.own (0 : Nat)) [some (Obj.arr (4 : Nat) (List.map Ed.row (addE [] (a ++ b) m)))],
      true = true,
      FlatRows (List.map Ed.row (addE [] (a ++ b) m)),
      Contract Try.prog (8 : Nat) [V.sl (4 : Nat) [], V.sl (10 : Nat) [[V.val (Value.int IntKind.u64 hi), V.val (Value.int IntKind.u64 lo), V.val (Value.int IntKind.u64 (1 : Int)), V.val (Value.int IntKind.u64 (0 : Int)), Sg { data := { toList := [(120 : UInt8)] } }, Sg { data := { toList := [(111 : UInt8)] } }, I (0 : Int), I (0 : Int), Bo false, V.sl (2 : Nat) []]], I (9 : Int)] [] (V.own (0 : Nat)) [some (Obj.arr (4 : Nat) [])],
      true = true,
      FlatRows [],
      Contract Try.prog (8 : Nat) [V.sl (4 : Nat) [], V.sl (10 : Nat) [[V.val (Value.int IntKind.u64 hi), V.val (Value.int IntKind.u64 lo), V.val (Value.int IntKind.u64 (2 : Int)), V.val (Value.int IntKind.u64 (1 : Int)), Sg { data := { toList := [(121 : UInt8)] } }, Sg { data := { toList := [(111 : UInt8)] } }, I (0 : Int), I (0 : Int), Bo false, V.sl (2 : Nat) []]], I (9 : Int)] [] (V.own (0 : Nat)) [some (Obj.arr (4 : Nat) [])],
      true = true,
      FlatRows [],
      (224 : Nat) ≤ (140737488355328 : Nat),
      Contract Try.prog (8 : Nat) [V.sl (4 : Nat) [], V.sl (10 : Nat) [[V.val (Value.int IntKind.u64 hi), V.val (Value.int IntKind.u64 lo), V.val (Value.int IntKind.u64 (1 : Int)), V.val (Value.int IntKind.u64 (0 : Int)), Sg { data := { toList := [(120 : UInt8)] } }, Sg { data := { toList := [(111 : UInt8)] } }, I (0 : Int), I (0 : Int), Bo false, V.sl (2 : Nat) []], [V.val (Value.int IntKind.u64 hi), V.val (Value.int IntKind.u64 lo), V.val (Value.int IntKind.u64 (2 : Int)), V.val (Value.int IntKind.u64 (1 : Int)), Sg { data := { toList := [(121 : UInt8)] } }, Sg { data := { toList := [(111 : UInt8)] } }, I (0 : Int), I (0 : Int), Bo false, V.sl (2 : Nat) []]], I (9 : Int)] [] (V.own (0 : Nat)) [some (Obj.arr (4 : Nat) [Ed.row { fr := { data := { toList := [(120 : UInt8)] } }, to := { data := { toList := [(121 : UInt8)] } }, cnt := (1 : Int), errs := (0 : Int) }])],
      true = true,
      FlatRows [Ed.row { fr := { data := { toList := [(120 : UInt8)] } }, to := { data := { toList := [(121 : UInt8)] } }, cnt := (1 : Int), errs := (0 : Int) }],
      Contract Try.prog (9 : Nat) [V.sl (4 : Nat) (List.map Ed.row (addE [] (a ++ b) m)), V.sl (4 : Nat) (List.map Ed.row (addE [] (a ++ b) m))] [] (Bo true) [],
      (0 : Int) ≤ (0 : Int),
      (0 : Int) < (1 : Int),
      some (Ed.row { fr := { data := { toList := [(120 : UInt8)] } }, to := { data := { toList := [(121 : UInt8)] } }, cnt := (1 : Int), errs := (0 : Int) }) = some (Ed.row { fr := { data := { toList := [(120 : UInt8)] } }, to := { data := { toList := [(121 : UInt8)] } }, cnt := (1 : Int), errs := (0 : Int) })] (by kernel_rfl)
    (by
      simp only [allP]
      and_intros <;> first
        | omega
        | with_reducible assumption
        | exact cAlive
        | exact cFewAll _
        | exact i64_small (by simp; omega)
        | (simp; omega)
        | exact hl
        | exact cAdd [] (a ++ b) m (by simp; omega) (fun x hx => Nat.le_trans (aab x hx) (by omega))
        | exact cAdd [] a m (by simp; omega) (fun x hx => Nat.le_trans (aa x hx) (by omega))
        | (rw [hE]; exact cAdd _ b m (by omega) (fun x hx => Nat.le_trans (ab x hx) (by omega)))
        | exact flatEd _
        | exact flatEd []
        | exact flatEd [edXY]
        | exact cSame _ (by omega)
        | (have h := cAdd [] [spP hi lo] 9 (by simp) (by simp [spP]); rw [addP] at h; exact h)
        | (have h := cAdd [] [spQ hi lo] 9 (by simp) (by simp [spQ]); rw [addQ] at h; exact h)
        | (have h := cAdd [] [spP hi lo, spQ hi lo] 9 (by simp) (by simp [spP, spQ]); rw [addPQ] at h; exact h)
        | (simp; done)
        | decide)

theorem cTog (a b : List Sp) (hi lo m : Int) : Contract Try.prog 5 [.sl 10 (a.map Sp.row), .sl 10 (b.map Sp.row), .agg [U hi, U lo], I m] [] (Bo true) [] := by
  cases h1 : fewAll a with
  | false => exact togA a b hi lo m h1
  | true =>
    cases h2 : fewAll b with
    | false => exact togB a b hi lo m h1 h2
    | true =>
      obtain ⟨la, aa⟩ := fewAll_len h1
      obtain ⟨lb, ab⟩ := fewAll_len h2
      by_cases h3 : a.length + b.length ≤ 60
      · rcases toLoop a b hi lo m la lb with ⟨i, hl⟩ | ⟨hd, hl⟩
        · exact togD a b hi lo m i h1 h2 la lb h3 hl
        · have k1 := addE_len [] a m
          have k2 := addE_len [] (a ++ b) m
          simp only [List.length_nil, List.length_append] at k1 k2
          exact togGo a b hi lo m h1 h2 la lb h3 hl (edges_together a b m hd) aa ab (fun x hx => (List.mem_append.1 hx).elim (aa x) (ab x)) (by omega) (by omega)
      · exact togC a b hi lo m h1 h2 la lb (by omega)

open Go.ChangeShapes Go.WideShapes Go.ChangeAt Go.RowKit
theorem edgesTogether_lifted (os : Os) (started : os.Started) (H : Type) (enc : TypeId × Value → H) :
    ReturnsInHanded {} Try.checked os 5 .any (Rows.edgesTogetherSpec.pre6 enc Try.prog Try.f5 Rows.edgesTogetherRow.domain false) (Rows.edgesTogetherSpec.post enc Try.prog Try.f5 false true false false) := by
  refine returnsInHanded_of_change (C := Try.checked) own started (by kernel_rfl) Try.func5
    (ChangeSpec.witness6 (enc := enc) (C := Try.checked) false ⟨#[], #[.slice none 0 0, .slice none 0 0, .agg #[.int .u64 0, .int .u64 0], .int .i64 0], []⟩ 8 (by kernel_rfl) (by kernel_rfl) (by kernel_rfl) (by kernel_rfl)) ?_
  intro W base args ds gs before hval hW _ _
  refine row_of (P := Try.prog) (tb := 4) laidOut rfl (by kernel_rfl) (by kernel_rfl) (by kernel_rfl) Try.underlying4 (fun ds h => ?_) (fun us h => ?_) W base args ds gs before hval hW
  · match ds, h with
    | [_, _, _, _], _ => rfl
  · obtain ⟨u0, _, rfl, h0, u1, _, rfl, h1, u2, _, rfl, h2, u3, _, rfl, h3, rfl⟩ := h
    obtain ⟨rows0, rfl, _, hr0⟩ := arg_slice Try.underlying22 h0
    obtain ⟨a, rfl⟩ := typed_all (f := Sp.row) fun r h => typed_sp (hr0 r h)
    obtain ⟨rows1, rfl, _, hr1⟩ := arg_slice Try.underlying22 h1
    obtain ⟨b, rfl⟩ := typed_all (f := Sp.row) fun r h => typed_sp (hr1 r h)
    obtain ⟨cs, rfl, hc⟩ := arg_struct Try.underlying36 h2
    obtain ⟨_, _, rfl, g0, _, _, rfl, g1, rfl⟩ : catFields (Typed Try.prog 7) [⟨"Hi", 34, 0, false, "", "", 0⟩, ⟨"Lo", 34, 1, false, "", "", 8⟩] _ := typed_struct Try.underlying36 hc
    obtain ⟨hi, rfl, _⟩ := typed_int Try.underlying34 g0
    obtain ⟨lo, rfl, _⟩ := typed_int Try.underlying34 g1
    obtain ⟨m, rfl, hm⟩ := arg_int Try.underlying3 h3
    exact cTog a b hi lo m

theorem EdgesTogether_proved : Rows.EdgesTogetherSaid :=
  OpenClaim.holds_of_wide 5 Try.f5 rfl rfl rfl rfl rfl rfl rfl ⟨rfl, rfl, rfl, rfl, rfl⟩ rfl rfl rfl rfl rfl (by kernel_rfl) Try.func5 (by kernel_rfl)
    (of_decide_eq_true (by kernel_rfl)) (by unfold Func.isWrapper; first | (rw [if_pos (by decide +kernel)]; kernel_rfl) | (rw [if_neg (by decide +kernel)]; exact ⟨rfl, rfl⟩))
    (fun os started H enc _ => edgesTogether_lifted os started H enc)
#print axioms EdgesTogether_proved
end Go.Proofs.Ytieffigehkjifaa
