/- edges: few spans, the same edges, edges in order. -/
import Derived.Test.YtieffigehkjifaaEdD
namespace Go.Proofs.Ytieffigehkjifaa
open E
set_option maxRecDepth 100000
set_option linter.unusedVariables false
set_option linter.unusedSimpArgs false


def longA (a : At) : Bool := bif decide (100 < (a.key.size : Int)) then true else decide (100 < (a.val.size : Int))
def fewS (s : Sp) : Bool := bif decide (100 < (s.svc.size : Int)) then false else (bif decide (100 < (s.op.size : Int)) then false else (bif decide (20 < (s.attrs.length : Int)) then false else s.attrs.all (fun a => !longA a)))
def fewAll (l : List Sp) : Bool := bif decide (60 < (l.length : Int)) then false else l.all fewS
def feS (s : Sp) (r : Bool) (i : Nat) : SL := ⟨[(1, .ptr 1000 0 0 0), (2, Bo r), (3, I (i : Int))], [(1000, .box s.row)], [1000]⟩
def faS (l : List Sp) (r : Bool) (i : Nat) : SL := ⟨[(0, .sl 10 (l.map Sp.row)), (2, Bo r), (3, I (i : Int))], [], []⟩
def ssS (l : List Ed) (i : Nat) : SL := ⟨[(0, .sl 4 (l.map Ed.row)), (1, .sl 4 (l.map Ed.row)), (5, I (i : Int))], [], []⟩
def orS (l : List Ed) (j : Nat) : SL := ⟨[(0, .sl 4 (l.map Ed.row)), (3, I ((j + 1 : Nat) : Int))], [], []⟩
/-- Edges stand by their pairs, each once. -/
def ltE (a b : Ed) : Prop := ltS b.fr a.fr = false ∧ (b.fr.toList == a.fr.toList) = false ∨ ltS b.fr a.fr = false ∧ (b.fr.toList == a.fr.toList) = true ∧ (ltS b.to a.to || b.to.toList == a.to.toList) = false
noncomputable def feB : Code := codeAt Try.prog 11 [true, true, false, true, false, false]

noncomputable def faB : Code := codeAt Try.prog 7 [true, true, false, true, false, false]

noncomputable def ssB : Code := codeAt Try.prog 9 [true, true, false, true, false, false]

noncomputable def orB : Code := codeAt Try.prog 10 [true, false, true, false, false]

theorem feStopA (s : Sp) (a : At) (i : Nat) (h : i < s.attrs.length) (hx : s.attrs[i]? = some a) (hs : s.attrs.length ≤ 20) (h1 : decide (100 < (a.key.size : Int)) = true) : CodeC Try.prog 0 45 feB (feS s false i) .ret (feS s false i) :=
  runP hmix [.reg 4 [(3, [.be (I (s.attrs.length : Int))], none), (4, [], some true)], .reg 6 [(5, [.row (At.row a)], none), (8, [], some true)]] ⟨[1, 2, 3], [(1000, 1000)], []⟩ [
      Int.ofNat (List.length (List.map At.row (Sp.attrs s))) = Int.ofNat (List.length (Sp.attrs s)),
      decide (Int.ofNat i < Int.ofNat (List.length (Sp.attrs s))) = true,
      (0 : Int) ≤ Int.ofNat i,
      Int.ofNat i < Int.ofNat (List.length (List.map At.row (Sp.attrs s))),
      (List.map At.row (Sp.attrs s))[i]? = some (At.row a),
      decide (Int.ofNat (ByteArray.size (At.key a)) > (100 : Int)) = true] (by kernel_rfl)
    (by
      simp only [allP]
      and_intros <;> first
        | omega
        | with_reducible assumption
        | (simp; omega)
        | (simp [hx]; done)
        | exact i64_small (by simp; omega)
        | (simp; done)
        | decide)

theorem feStopB (s : Sp) (a : At) (i : Nat) (h : i < s.attrs.length) (hx : s.attrs[i]? = some a) (hs : s.attrs.length ≤ 20) (h1 : decide (100 < (a.key.size : Int)) = false) (h2 : decide (100 < (a.val.size : Int)) = true) : CodeC Try.prog 0 45 feB (feS s false i) .ret (feS s false i) :=
  runP hmix [.reg 4 [(3, [.be (I (s.attrs.length : Int))], none), (4, [], some true)], .reg 6 [(5, [.row (At.row a)], none), (8, [], some false), (14, [.row (At.row a)], none), (16, [], some true)]] ⟨[1, 2, 3], [(1000, 1000)], []⟩ [
      Int.ofNat (List.length (List.map At.row (Sp.attrs s))) = Int.ofNat (List.length (Sp.attrs s)),
      decide (Int.ofNat i < Int.ofNat (List.length (Sp.attrs s))) = true,
      (0 : Int) ≤ Int.ofNat i,
      Int.ofNat i < Int.ofNat (List.length (List.map At.row (Sp.attrs s))),
      (List.map At.row (Sp.attrs s))[i]? = some (At.row a),
      decide (Int.ofNat (ByteArray.size (At.key a)) > (100 : Int)) = false,
      (0 : Int) ≤ Int.ofNat i,
      Int.ofNat i < Int.ofNat (List.length (List.map At.row (Sp.attrs s))),
      (List.map At.row (Sp.attrs s))[i]? = some (At.row a),
      decide (Int.ofNat (ByteArray.size (At.val a)) > (100 : Int)) = true] (by kernel_rfl)
    (by
      simp only [allP]
      and_intros <;> first
        | omega
        | with_reducible assumption
        | (simp; omega)
        | (simp [hx]; done)
        | exact i64_small (by simp; omega)
        | (simp; done)
        | decide)

theorem feGo (s : Sp) (a : At) (i : Nat) (h : i < s.attrs.length) (hx : s.attrs[i]? = some a) (hs : s.attrs.length ≤ 20) (h1 : decide (100 < (a.key.size : Int)) = false) (h2 : decide (100 < (a.val.size : Int)) = false) : CodeC Try.prog 0 45 feB (feS s false i) .normal (feS s false (i + 1)) :=
  runP hmix [.reg 4 [(3, [.be (I (s.attrs.length : Int))], none), (4, [], some true)], .reg 6 [(5, [.row (At.row a)], none), (8, [], some false), (14, [.row (At.row a)], none), (16, [], some false)], .reg 5 [(1, [.be (I ((i + 1 : Nat) : Int))], none)]] ⟨[1, 2, 3], [(1000, 1000)], []⟩ [
      Int.ofNat (List.length (List.map At.row (Sp.attrs s))) = Int.ofNat (List.length (Sp.attrs s)),
      decide (Int.ofNat i < Int.ofNat (List.length (Sp.attrs s))) = true,
      (0 : Int) ≤ Int.ofNat i,
      Int.ofNat i < Int.ofNat (List.length (List.map At.row (Sp.attrs s))),
      (List.map At.row (Sp.attrs s))[i]? = some (At.row a),
      decide (Int.ofNat (ByteArray.size (At.key a)) > (100 : Int)) = false,
      (0 : Int) ≤ Int.ofNat i,
      Int.ofNat i < Int.ofNat (List.length (List.map At.row (Sp.attrs s))),
      (List.map At.row (Sp.attrs s))[i]? = some (At.row a),
      decide (Int.ofNat (ByteArray.size (At.val a)) > (100 : Int)) = false,
      IntKind.wrap IntKind.i64 (Int.ofNat (i + (1 : Nat))) = Int.ofNat (i + (1 : Nat))] (by kernel_rfl)
    (by
      simp only [allP]
      and_intros <;> first
        | omega
        | with_reducible assumption
        | (simp; omega)
        | (simp [hx]; done)
        | exact i64_small (by simp; omega)
        | (simp; done)
        | decide)

theorem feEnd (s : Sp) (i : Nat) (h : s.attrs.length ≤ i) : CodeC Try.prog 0 45 feB (feS s false i) (.exit 0) (feS s false i) :=
  runP hmix [.reg 4 [(3, [.be (I (s.attrs.length : Int))], none), (4, [], some false)]] ⟨[1, 2, 3], [(1000, 1000)], []⟩ [
      Int.ofNat (List.length (List.map At.row (Sp.attrs s))) = Int.ofNat (List.length (Sp.attrs s)),
      decide (Int.ofNat i < Int.ofNat (List.length (Sp.attrs s))) = false] (by kernel_rfl)
    (by
      simp only [allP]
      and_intros <;> first
        | omega
        | with_reducible assumption
        | (simp; omega)
        | (simp; done)
        | decide)

theorem few1 (s : Sp) (h1 : decide (100 < (s.svc.size : Int)) = true) : Contract Try.prog 11 [s.v] [] (Bo false) [] :=
  vcP hmix [.reg 1 [(4, [], some true)]] [] [
      decide (Int.ofNat (ByteArray.size (Sp.svc s)) > (100 : Int)) = true] (by kernel_rfl)
    (by
      simp only [allP]
      and_intros <;> first
        | omega
        | with_reducible assumption
        | (simp; done)
        | decide)

theorem few2 (s : Sp) (h1 : decide (100 < (s.svc.size : Int)) = false) (h2 : decide (100 < (s.op.size : Int)) = true) : Contract Try.prog 11 [s.v] [] (Bo false) [] :=
  vcP hmix [.reg 1 [(4, [], some false), (8, [], some true)]] [] [
      decide (Int.ofNat (ByteArray.size (Sp.svc s)) > (100 : Int)) = false,
      decide (Int.ofNat (ByteArray.size (Sp.op s)) > (100 : Int)) = true] (by kernel_rfl)
    (by
      simp only [allP]
      and_intros <;> first
        | omega
        | with_reducible assumption
        | (simp; done)
        | decide)

theorem few3 (s : Sp) (h1 : decide (100 < (s.svc.size : Int)) = false) (h2 : decide (100 < (s.op.size : Int)) = false) (h3 : decide (20 < (s.attrs.length : Int)) = true) : Contract Try.prog 11 [s.v] [] (Bo false) [] :=
  vcP hmix [.reg 1 [(4, [], some false), (8, [], some false), (13, [.be (I (s.attrs.length : Int))], none), (14, [], some true)]] [] [
      decide (Int.ofNat (ByteArray.size (Sp.svc s)) > (100 : Int)) = false,
      decide (Int.ofNat (ByteArray.size (Sp.op s)) > (100 : Int)) = false,
      Int.ofNat (List.length (List.map At.row (Sp.attrs s))) = Int.ofNat (List.length (Sp.attrs s)),
      decide (Int.ofNat (List.length (Sp.attrs s)) > (20 : Int)) = true] (by kernel_rfl)
    (by
      simp only [allP]
      and_intros <;> first
        | omega
        | with_reducible assumption
        | (simp; done)
        | decide)

theorem few4 (s : Sp) (i : Nat) (h1 : decide (100 < (s.svc.size : Int)) = false) (h2 : decide (100 < (s.op.size : Int)) = false) (h3 : decide (20 < (s.attrs.length : Int)) = false) (hl : LoopC Try.prog 0 45 feB (feS s false 0) .ret (feS s false i)) : Contract Try.prog 11 [s.v] [] (Bo false) [] :=
  vcP hmix [.reg 1 [(4, [], some false), (8, [], some false), (13, [.be (I (s.attrs.length : Int))], none), (14, [], some false)], .cut ⟨[1, 2, 3], [(1000, 1000)], []⟩ .ret (feS s false i)] [] [
      decide (Int.ofNat (ByteArray.size (Sp.svc s)) > (100 : Int)) = false,
      decide (Int.ofNat (ByteArray.size (Sp.op s)) > (100 : Int)) = false,
      Int.ofNat (List.length (List.map At.row (Sp.attrs s))) = Int.ofNat (List.length (Sp.attrs s)),
      decide (Int.ofNat (List.length (Sp.attrs s)) > (20 : Int)) = false,
      LoopC Try.prog (0 : Nat) (45 : Nat) feB { env := [((1 : Nat), V.ptr (1000 : Nat) (0 : Nat) (0 : Nat) (0 : Nat)), ((2 : Nat), Bo false), ((3 : Nat), I (0 : Int))], st := [((1000 : Nat), Obj.box [V.val (Value.int IntKind.u64 (Sp.hi s)), V.val (Value.int IntKind.u64 (Sp.lo s)), V.val (Value.int IntKind.u64 (Sp.id s)), V.val (Value.int IntKind.u64 (Sp.par s)), Sg (Sp.svc s), Sg (Sp.op s), I (Sp.start s), I (Sp.dur s), Bo (Sp.err s), V.sl (2 : Nat) (List.map At.row (Sp.attrs s))])], ids := [(1000 : Nat)] } Ex.ret { env := [((1 : Nat), V.ptr (1000 : Nat) (0 : Nat) (0 : Nat) (0 : Nat)), ((2 : Nat), Bo false), ((3 : Nat), I (Int.ofNat i))], st := [((1000 : Nat), Obj.box (Sp.row s))], ids := [(1000 : Nat)] }] (by kernel_rfl)
    (by
      simp only [allP]
      and_intros <;> first
        | omega
        | with_reducible assumption
        | exact hl
        | (simp; done)
        | decide)

theorem few5 (s : Sp) (h1 : decide (100 < (s.svc.size : Int)) = false) (h2 : decide (100 < (s.op.size : Int)) = false) (h3 : decide (20 < (s.attrs.length : Int)) = false) (hl : LoopC Try.prog 0 45 feB (feS s false 0) (.exit 0) (feS s false s.attrs.length)) : Contract Try.prog 11 [s.v] [] (Bo true) [] :=
  vcP hmix [.reg 1 [(4, [], some false), (8, [], some false), (13, [.be (I (s.attrs.length : Int))], none), (14, [], some false)], .cut ⟨[1, 2, 3], [(1000, 1000)], []⟩ (.exit 0) (feS s false s.attrs.length)] [] [
      decide (Int.ofNat (ByteArray.size (Sp.svc s)) > (100 : Int)) = false,
      decide (Int.ofNat (ByteArray.size (Sp.op s)) > (100 : Int)) = false,
      Int.ofNat (List.length (List.map At.row (Sp.attrs s))) = Int.ofNat (List.length (Sp.attrs s)),
      decide (Int.ofNat (List.length (Sp.attrs s)) > (20 : Int)) = false,
      LoopC Try.prog (0 : Nat) (45 : Nat) feB { env := [((1 : Nat), V.ptr (1000 : Nat) (0 : Nat) (0 : Nat) (0 : Nat)), ((2 : Nat), Bo false), ((3 : Nat), I (0 : Int))], st := [((1000 : Nat), Obj.box [V.val (Value.int IntKind.u64 (Sp.hi s)), V.val (Value.int IntKind.u64 (Sp.lo s)), V.val (Value.int IntKind.u64 (Sp.id s)), V.val (Value.int IntKind.u64 (Sp.par s)), Sg (Sp.svc s), Sg (Sp.op s), I (Sp.start s), I (Sp.dur s), Bo (Sp.err s), V.sl (2 : Nat) (List.map At.row (Sp.attrs s))])], ids := [(1000 : Nat)] } (Ex.exit (0 : Nat)) { env := [((1 : Nat), V.ptr (1000 : Nat) (0 : Nat) (0 : Nat) (0 : Nat)), ((2 : Nat), Bo false), ((3 : Nat), I (Int.ofNat (List.length (Sp.attrs s))))], st := [((1000 : Nat), Obj.box (Sp.row s))], ids := [(1000 : Nat)] }] (by kernel_rfl)
    (by
      simp only [allP]
      and_intros <;> first
        | omega
        | with_reducible assumption
        | exact hl
        | (simp; done)
        | decide)

theorem all_of_idx {α : Type} {p : α → Bool} {l : List α} (h : ∀ (i : Nat) (x : α), l[i]? = some x → p x = false) : l.all (fun a => !p a) = true := by
  rw [List.all_eq_true]
  intro x hx
  obtain ⟨i, hi⟩ := List.mem_iff_getElem?.1 hx
  rw [h i x hi]; rfl
theorem all_not {α : Type} {p : α → Bool} {l : List α} {i : Nat} {x : α} (h : l[i]? = some x) (hp : p x = true) : l.all (fun a => !p a) = false := by
  rw [List.all_eq_false]
  exact ⟨x, List.mem_of_getElem? h, by rw [hp]; simp⟩
theorem cFew (s : Sp) : Contract Try.prog 11 [s.v] [] (Bo (fewS s)) [] := by
  unfold fewS
  cases h1 : decide (100 < (s.svc.size : Int)) with
  | true => exact few1 s h1
  | false =>
    cases h2 : decide (100 < (s.op.size : Int)) with
    | true => exact few2 s h1 h2
    | false =>
      cases h3 : decide (20 < (s.attrs.length : Int)) with
      | true => exact few3 s h1 h2 h3
      | false =>
        have hs : s.attrs.length ≤ 20 := by simp at h3; omega
        simp only [cond_false]
        rcases LoopC.search (P := Try.prog) (k := 0) (n := 45) (c := feB) s.attrs (fun _ a => longA a) (fun i => feS s false i) (fun i => feS s false i) (e1 := .ret) (e2 := .exit 0) (by simp) (by simp)
          (fun i a hx hi hb => by
            unfold longA at hb
            cases k1 : decide (100 < (a.key.size : Int)) with
            | true => rw [k1] at hb; cases hb
            | false => rw [k1] at hb; exact feGo s a i hi hx hs k1 hb)
          (fun i a hx hi hb => by
            unfold longA at hb
            cases k1 : decide (100 < (a.key.size : Int)) with
            | true => exact feStopA s a i hi hx hs k1
            | false => rw [k1] at hb; exact feStopB s a i hi hx hs k1 hb)
          (feEnd s _ (Nat.le_refl _)) with ⟨i, a, k1, k2, _, k4⟩ | ⟨k1, k2⟩
        · rw [all_not k1 k2]
          exact few4 s i h1 h2 h3 k4
        · rw [all_of_idx k1]
          exact few5 s h1 h2 h3 k2

theorem faGo (l : List Sp) (x : Sp) (i : Nat) (h : i < l.length) (hx : l[i]? = some x) (hs : l.length ≤ 60) (hb : fewS x = true) : CodeC Try.prog 0 19 faB (faS l false i) .normal (faS l false (i + 1)) :=
  runP hmix [.reg 4 [(2, [.be (I (l.length : Int))], none), (3, [], some true)], .reg 6 [(3, [.row (Sp.row x)], none), (4, [.call [] [] (Bo (fewS x)) []], some true)], .reg 5 [(1, [.be (I ((i + 1 : Nat) : Int))], none)]] ⟨[0, 2, 3], [], []⟩ [
      Int.ofNat (List.length (List.map Sp.row l)) = Int.ofNat (List.length l),
      decide (Int.ofNat i < Int.ofNat (List.length l)) = true,
      (0 : Int) ≤ Int.ofNat i,
      Int.ofNat i < Int.ofNat (List.length (List.map Sp.row l)),
      (List.map Sp.row l)[i]? = some (Sp.row x),
      Contract Try.prog (11 : Nat) [V.agg [V.val (Value.int IntKind.u64 (Sp.hi x)), V.val (Value.int IntKind.u64 (Sp.lo x)), V.val (Value.int IntKind.u64 (Sp.id x)), V.val (Value.int IntKind.u64 (Sp.par x)), Sg (Sp.svc x), Sg (Sp.op x), I (Sp.start x), I (Sp.dur x), Bo (Sp.err x), V.sl (2 : Nat) (List.map At.row (Sp.attrs x))]] [] (Bo (fewS x)) [],
      fewS x = true,
      IntKind.wrap IntKind.i64 (Int.ofNat (i + (1 : Nat))) = Int.ofNat (i + (1 : Nat))] (by kernel_rfl)
    (by
      simp only [allP]
      and_intros <;> first
        | omega
        | with_reducible assumption
        | exact cFew x
        | (simp; omega)
        | (simp [hx]; done)
        | exact i64_small (by simp; omega)
        | exact hb
        | (simp; done)
        | decide)

theorem faStop (l : List Sp) (x : Sp) (i : Nat) (h : i < l.length) (hx : l[i]? = some x) (hs : l.length ≤ 60) (hb : fewS x = false) : CodeC Try.prog 0 19 faB (faS l false i) .ret (faS l false i) :=
  runP hmix [.reg 4 [(2, [.be (I (l.length : Int))], none), (3, [], some true)], .reg 6 [(3, [.row (Sp.row x)], none), (4, [.call [] [] (Bo (fewS x)) []], some false)]] ⟨[0, 2, 3], [], []⟩ [
      Int.ofNat (List.length (List.map Sp.row l)) = Int.ofNat (List.length l),
      decide (Int.ofNat i < Int.ofNat (List.length l)) = true,
      (0 : Int) ≤ Int.ofNat i,
      Int.ofNat i < Int.ofNat (List.length (List.map Sp.row l)),
      (List.map Sp.row l)[i]? = some (Sp.row x),
      Contract Try.prog (11 : Nat) [V.agg [V.val (Value.int IntKind.u64 (Sp.hi x)), V.val (Value.int IntKind.u64 (Sp.lo x)), V.val (Value.int IntKind.u64 (Sp.id x)), V.val (Value.int IntKind.u64 (Sp.par x)), Sg (Sp.svc x), Sg (Sp.op x), I (Sp.start x), I (Sp.dur x), Bo (Sp.err x), V.sl (2 : Nat) (List.map At.row (Sp.attrs x))]] [] (Bo (fewS x)) [],
      fewS x = false] (by kernel_rfl)
    (by
      simp only [allP]
      and_intros <;> first
        | omega
        | with_reducible assumption
        | exact cFew x
        | (simp; omega)
        | (simp [hx]; done)
        | exact i64_small (by simp; omega)
        | exact hb
        | (simp; done)
        | decide)

theorem faEnd (l : List Sp) (i : Nat) (h : l.length ≤ i) : CodeC Try.prog 0 19 faB (faS l false i) (.exit 0) (faS l false i) :=
  runP hmix [.reg 4 [(2, [.be (I (l.length : Int))], none), (3, [], some false)]] ⟨[0, 2, 3], [], []⟩ [
      Int.ofNat (List.length (List.map Sp.row l)) = Int.ofNat (List.length l),
      decide (Int.ofNat i < Int.ofNat (List.length l)) = false] (by kernel_rfl)
    (by
      simp only [allP]
      and_intros <;> first
        | omega
        | with_reducible assumption
        | (simp; omega)
        | (simp; done)
        | decide)

theorem fewAll1 (l : List Sp) (h1 : decide (60 < (l.length : Int)) = true) : Contract Try.prog 7 [.sl 10 (l.map Sp.row)] [] (Bo false) [] :=
  vcP hmix [.reg 1 [(1, [.be (I (l.length : Int))], none), (2, [], some true)]] [] [
      Int.ofNat (List.length (List.map Sp.row l)) = Int.ofNat (List.length l),
      decide (Int.ofNat (List.length l) > (60 : Int)) = true] (by kernel_rfl)
    (by
      simp only [allP]
      and_intros <;> first
        | omega
        | with_reducible assumption
        | (simp; done)
        | decide)

theorem fewAll2 (l : List Sp) (i : Nat) (h1 : decide (60 < (l.length : Int)) = false) (hl : LoopC Try.prog 0 19 faB (faS l false 0) .ret (faS l false i)) : Contract Try.prog 7 [.sl 10 (l.map Sp.row)] [] (Bo false) [] :=
  vcP hmix [.reg 1 [(1, [.be (I (l.length : Int))], none), (2, [], some false)], .cut ⟨[0, 2, 3], [], []⟩ .ret (faS l false i)] [] [
      Int.ofNat (List.length (List.map Sp.row l)) = Int.ofNat (List.length l),
      decide (Int.ofNat (List.length l) > (60 : Int)) = false,
      LoopC Try.prog (0 : Nat) (19 : Nat) faB { env := [((0 : Nat), V.sl (10 : Nat) (List.map Sp.row l)), ((2 : Nat), Bo false), ((3 : Nat), I (0 : Int))], st := [], ids := [] } Ex.ret { env := [((0 : Nat), V.sl (10 : Nat) (List.map Sp.row l)), ((2 : Nat), Bo false), ((3 : Nat), I (Int.ofNat i))], st := [], ids := [] }] (by kernel_rfl)
    (by
      simp only [allP]
      and_intros <;> first
        | omega
        | with_reducible assumption
        | exact hl
        | (simp; done)
        | decide)

theorem fewAll3 (l : List Sp) (h1 : decide (60 < (l.length : Int)) = false) (hl : LoopC Try.prog 0 19 faB (faS l false 0) (.exit 0) (faS l false l.length)) : Contract Try.prog 7 [.sl 10 (l.map Sp.row)] [] (Bo true) [] :=
  vcP hmix [.reg 1 [(1, [.be (I (l.length : Int))], none), (2, [], some false)], .cut ⟨[0, 2, 3], [], []⟩ (.exit 0) (faS l false l.length)] [] [
      Int.ofNat (List.length (List.map Sp.row l)) = Int.ofNat (List.length l),
      decide (Int.ofNat (List.length l) > (60 : Int)) = false,
      LoopC Try.prog (0 : Nat) (19 : Nat) faB { env := [((0 : Nat), V.sl (10 : Nat) (List.map Sp.row l)), ((2 : Nat), Bo false), ((3 : Nat), I (0 : Int))], st := [], ids := [] } (Ex.exit (0 : Nat)) { env := [((0 : Nat), V.sl (10 : Nat) (List.map Sp.row l)), ((2 : Nat), Bo false), ((3 : Nat), I (Int.ofNat (List.length l)))], st := [], ids := [] }] (by kernel_rfl)
    (by
      simp only [allP]
      and_intros <;> first
        | omega
        | with_reducible assumption
        | exact hl
        | (simp; done)
        | decide)

theorem cFewAll (l : List Sp) : Contract Try.prog 7 [.sl 10 (l.map Sp.row)] [] (Bo (fewAll l)) [] := by
  unfold fewAll
  cases h1 : decide (60 < (l.length : Int)) with
  | true => exact fewAll1 l h1
  | false =>
    have hs : l.length ≤ 60 := by simp at h1; omega
    simp only [cond_false]
    rcases LoopC.search (P := Try.prog) (k := 0) (n := 19) (c := faB) l (fun _ x => !fewS x) (fun i => faS l false i) (fun i => faS l false i) (e1 := .ret) (e2 := .exit 0) (by simp) (by simp)
      (fun i a hx hi hb => faGo l a i hi hx hs (by simpa using hb))
      (fun i a hx hi hb => faStop l a i hi hx hs (by simpa using hb))
      (faEnd l _ (Nat.le_refl _)) with ⟨i, a, k1, k2, _, k4⟩ | ⟨k1, k2⟩
    · have := all_not (p := fun x => !fewS x) k1 k2
      simp only [Bool.not_not] at this
      rw [show l.all fewS = false from this]
      exact fewAll2 l i h1 k4
    · have := all_of_idx (p := fun x => !fewS x) k1
      simp only [Bool.not_not] at this
      rw [show l.all fewS = true from this]
      exact fewAll3 l h1 k2
theorem fewAll_len {l : List Sp} (h : fewAll l = true) : l.length ≤ 60 ∧ ∀ x ∈ l, x.attrs.length ≤ 20 := by
  unfold fewAll at h
  cases h1 : decide (60 < (l.length : Int)) with
  | true => rw [h1] at h; cases h
  | false =>
    rw [h1] at h
    refine ⟨by simp at h1; omega, fun x hx => ?_⟩
    have h := List.all_eq_true.1 h x hx
    unfold fewS at h
    cases a1 : decide (100 < (x.svc.size : Int)) with
    | true => rw [a1] at h; cases h
    | false =>
      cases a2 : decide (100 < (x.op.size : Int)) with
      | true => rw [a1, a2] at h; cases h
      | false =>
        cases a3 : decide (20 < (x.attrs.length : Int)) with
        | true => rw [a1, a2, a3] at h; cases h
        | false => simp at a3; omega

theorem ssGo (l : List Ed) (x : Ed) (i : Nat) (h : i < l.length) (hx : l[i]? = some x) (hs : l.length ≤ 1000000000) : CodeC Try.prog 0 26 ssB (ssS l i) .normal (ssS l (i + 1)) :=
  runP hmix [.reg 4 [(2, [.be (I (l.length : Int))], none), (3, [], some true)], .reg 6 [(3, [.row (Ed.row x)], none), (7, [.row (Ed.row x)], none), (8, [], some false)], .reg 5 [(1, [.be (I ((i + 1 : Nat) : Int))], none)]] ⟨[0, 1, 5], [], []⟩ [
      Int.ofNat (List.length (List.map Ed.row l)) = Int.ofNat (List.length l),
      decide (Int.ofNat i < Int.ofNat (List.length l)) = true,
      (0 : Int) ≤ Int.ofNat i,
      Int.ofNat i < Int.ofNat (List.length (List.map Ed.row l)),
      (List.map Ed.row l)[i]? = some (Ed.row x),
      (0 : Int) ≤ Int.ofNat i,
      Int.ofNat i < Int.ofNat (List.length (List.map Ed.row l)),
      (List.map Ed.row l)[i]? = some (Ed.row x),
      (!(Ed.fr x == Ed.fr x && (Ed.to x == Ed.to x && (decide (Ed.cnt x = Ed.cnt x) && (decide (Ed.errs x = Ed.errs x) && true))))) = false,
      IntKind.wrap IntKind.i64 (Int.ofNat (i + (1 : Nat))) = Int.ofNat (i + (1 : Nat))] (by kernel_rfl)
    (by
      simp only [allP]
      and_intros <;> first
        | omega
        | with_reducible assumption
        | (simp; omega)
        | (simp [hx]; done)
        | exact i64_small (by simp; omega)
        | (simp [ba_refl]; done)
        | (simp; done)
        | decide)

theorem ssEnd (l : List Ed) (i : Nat) (h : l.length ≤ i) : CodeC Try.prog 0 26 ssB (ssS l i) (.exit 0) (ssS l i) :=
  runP hmix [.reg 4 [(2, [.be (I (l.length : Int))], none), (3, [], some false)]] ⟨[0, 1, 5], [], []⟩ [
      Int.ofNat (List.length (List.map Ed.row l)) = Int.ofNat (List.length l),
      decide (Int.ofNat i < Int.ofNat (List.length l)) = false] (by kernel_rfl)
    (by
      simp only [allP]
      and_intros <;> first
        | omega
        | with_reducible assumption
        | (simp; omega)
        | (simp; done)
        | decide)

theorem same0 (l : List Ed) (hl : LoopC Try.prog 0 26 ssB (ssS l 0) (.exit 0) (ssS l l.length)) : Contract Try.prog 9 [.sl 4 (l.map Ed.row), .sl 4 (l.map Ed.row)] [] (Bo true) [] :=
  vcP hmix [.reg 1 [(1, [.be (I (l.length : Int))], none), (3, [.be (I (l.length : Int))], none), (4, [], some false)], .cut ⟨[0, 1, 5], [], []⟩ (.exit 0) (ssS l l.length)] [] [
      Int.ofNat (List.length (List.map Ed.row l)) = Int.ofNat (List.length l),
      Int.ofNat (List.length (List.map Ed.row l)) = Int.ofNat (List.length l),
      (Int.ofNat (List.length l) != Int.ofNat (List.length l)) = false,
      LoopC Try.prog (0 : Nat) (26 : Nat) ssB { env := [((0 : Nat), V.sl (4 : Nat) (List.map Ed.row l)), ((1 : Nat), V.sl (4 : Nat) (List.map Ed.row l)), ((5 : Nat), I (0 : Int))], st := [], ids := [] } (Ex.exit (0 : Nat)) { env := [((0 : Nat), V.sl (4 : Nat) (List.map Ed.row l)), ((1 : Nat), V.sl (4 : Nat) (List.map Ed.row l)), ((5 : Nat), I (Int.ofNat (List.length l)))], st := [], ids := [] }] (by kernel_rfl)
    (by
      simp only [allP]
      and_intros <;> first
        | omega
        | with_reducible assumption
        | exact hl
        | (simp; done)
        | (simp; done)
        | decide)

theorem cSame (l : List Ed) (hs : l.length ≤ 1000000000) : Contract Try.prog 9 [.sl 4 (l.map Ed.row), .sl 4 (l.map Ed.row)] [] (Bo true) [] := by
  refine same0 l ?_
  have := LoopC.fold (P := Try.prog) (k := 0) (n := 26) (c := ssB) l (fun (u : Unit) _ => u) (fun _ _ => True) (fun _ i => ssS l i) (e := .exit 0) (by simp)
    (fun i s x hx hi _ => ⟨ssGo l x i hi hx hs, trivial⟩) (fun s _ => ssEnd l _ (Nat.le_refl _)) () trivial
  exact this

theorem orGoA (l : List Ed) (x y : Ed) (j : Nat) (h : j + 1 < l.length) (hy : l[j]? = some y) (hx : l[j + 1]? = some x) (hs : l.length ≤ 1000000000) (h1 : ltS x.fr y.fr = false) (h2 : (x.fr.toList == y.fr.toList) = false) : CodeC Try.prog 0 50 orB (orS l j) .normal (orS l (j + 1)) :=
  runP hmix [.reg 2 [(2, [.be (I (l.length : Int))], none), (3, [], some true)], .reg 4 [(4, [.row (Ed.row x)], none), (7, [.be (I (j : Int))], none), (10, [.row (Ed.row y)], none), (11, [], some false), (17, [.row (Ed.row x)], none), (20, [.be (I (j : Int))], none), (23, [.row (Ed.row y)], none), (24, [], some false)], .reg 3 [(1, [.be (I ((j + 1 + 1 : Nat) : Int))], none)]] ⟨[0, 3], [], []⟩ [
      Int.ofNat (List.length (List.map Ed.row l)) = Int.ofNat (List.length l),
      decide (Int.ofNat (j + (1 : Nat)) < Int.ofNat (List.length l)) = true,
      (0 : Int) ≤ Int.ofNat (j + (1 : Nat)),
      Int.ofNat (j + (1 : Nat)) < Int.ofNat (List.length (List.map Ed.row l)),
      (List.map Ed.row l)[Int.toNat (Int.ofNat (j + (1 : Nat)))]? = some (Ed.row x),
      IntKind.wrap IntKind.i64 (Int.ofNat (j + (1 : Nat)) + (-1 : Int)) = Int.ofNat j,
      (0 : Int) ≤ Int.ofNat j,
      Int.ofNat j < Int.ofNat (List.length (List.map Ed.row l)),
      (List.map Ed.row l)[j]? = some (Ed.row y),
      Op.bytesLess (ByteArray.toList (Ed.fr x)) (ByteArray.toList (Ed.fr y)) = false,
      (0 : Int) ≤ Int.ofNat (j + (1 : Nat)),
      Int.ofNat (j + (1 : Nat)) < Int.ofNat (List.length (List.map Ed.row l)),
      (List.map Ed.row l)[Int.toNat (Int.ofNat (j + (1 : Nat)))]? = some (Ed.row x),
      IntKind.wrap IntKind.i64 (Int.ofNat (j + (1 : Nat)) + (-1 : Int)) = Int.ofNat j,
      (0 : Int) ≤ Int.ofNat j,
      Int.ofNat j < Int.ofNat (List.length (List.map Ed.row l)),
      (List.map Ed.row l)[j]? = some (Ed.row y),
      (ByteArray.toList (Ed.fr x) == ByteArray.toList (Ed.fr y)) = false,
      IntKind.wrap IntKind.i64 (Int.ofNat (j + (1 : Nat) + (1 : Nat))) = Int.ofNat (j + (1 : Nat) + (1 : Nat))] (by kernel_rfl)
    (by
      simp only [allP]
      and_intros <;> first
        | omega
        | with_reducible assumption
        | (simp; omega)
        | (simp [hx]; done)
        | (simp [hy]; done)
        | (simp [List.getElem?_map, hx]; done)
        | exact i64_small (by simp; omega)
        | (rw [i64_small (by simp; omega)]; simp; done)
        | (rw [i64_small (by simp; omega)]; simp; omega)
        | exact h1
        | exact h2
        | exact h3
        | (simp; done)
        | decide)

theorem orGoB (l : List Ed) (x y : Ed) (j : Nat) (h : j + 1 < l.length) (hy : l[j]? = some y) (hx : l[j + 1]? = some x) (hs : l.length ≤ 1000000000) (h1 : ltS x.fr y.fr = false) (h2 : (x.fr.toList == y.fr.toList) = true) (h3 : (ltS x.to y.to || x.to.toList == y.to.toList) = false) : CodeC Try.prog 0 50 orB (orS l j) .normal (orS l (j + 1)) :=
  runP hmix [.reg 2 [(2, [.be (I (l.length : Int))], none), (3, [], some true)], .reg 4 [(4, [.row (Ed.row x)], none), (7, [.be (I (j : Int))], none), (10, [.row (Ed.row y)], none), (11, [], some false), (17, [.row (Ed.row x)], none), (20, [.be (I (j : Int))], none), (23, [.row (Ed.row y)], none), (24, [], some true), (30, [.row (Ed.row x)], none), (33, [.be (I (j : Int))], none), (36, [.row (Ed.row y)], none), (37, [], some false)], .reg 3 [(1, [.be (I ((j + 1 + 1 : Nat) : Int))], none)]] ⟨[0, 3], [], []⟩ [
      Int.ofNat (List.length (List.map Ed.row l)) = Int.ofNat (List.length l),
      decide (Int.ofNat (j + (1 : Nat)) < Int.ofNat (List.length l)) = true,
      (0 : Int) ≤ Int.ofNat (j + (1 : Nat)),
      Int.ofNat (j + (1 : Nat)) < Int.ofNat (List.length (List.map Ed.row l)),
      (List.map Ed.row l)[Int.toNat (Int.ofNat (j + (1 : Nat)))]? = some (Ed.row x),
      IntKind.wrap IntKind.i64 (Int.ofNat (j + (1 : Nat)) + (-1 : Int)) = Int.ofNat j,
      (0 : Int) ≤ Int.ofNat j,
      Int.ofNat j < Int.ofNat (List.length (List.map Ed.row l)),
      (List.map Ed.row l)[j]? = some (Ed.row y),
      Op.bytesLess (ByteArray.toList (Ed.fr x)) (ByteArray.toList (Ed.fr y)) = false,
      (0 : Int) ≤ Int.ofNat (j + (1 : Nat)),
      Int.ofNat (j + (1 : Nat)) < Int.ofNat (List.length (List.map Ed.row l)),
      (List.map Ed.row l)[Int.toNat (Int.ofNat (j + (1 : Nat)))]? = some (Ed.row x),
      IntKind.wrap IntKind.i64 (Int.ofNat (j + (1 : Nat)) + (-1 : Int)) = Int.ofNat j,
      (0 : Int) ≤ Int.ofNat j,
      Int.ofNat j < Int.ofNat (List.length (List.map Ed.row l)),
      (List.map Ed.row l)[j]? = some (Ed.row y),
      (ByteArray.toList (Ed.fr x) == ByteArray.toList (Ed.fr y)) = true,
      (0 : Int) ≤ Int.ofNat (j + (1 : Nat)),
      Int.ofNat (j + (1 : Nat)) < Int.ofNat (List.length (List.map Ed.row l)),
      (List.map Ed.row l)[Int.toNat (Int.ofNat (j + (1 : Nat)))]? = some (Ed.row x),
      IntKind.wrap IntKind.i64 (Int.ofNat (j + (1 : Nat)) + (-1 : Int)) = Int.ofNat j,
      (0 : Int) ≤ Int.ofNat j,
      Int.ofNat j < Int.ofNat (List.length (List.map Ed.row l)),
      (List.map Ed.row l)[j]? = some (Ed.row y),
      (Op.bytesLess (ByteArray.toList (Ed.to x)) (ByteArray.toList (Ed.to y)) || ByteArray.toList (Ed.to x) == ByteArray.toList (Ed.to y)) = false,
      IntKind.wrap IntKind.i64 (Int.ofNat (j + (1 : Nat) + (1 : Nat))) = Int.ofNat (j + (1 : Nat) + (1 : Nat))] (by kernel_rfl)
    (by
      simp only [allP]
      and_intros <;> first
        | omega
        | with_reducible assumption
        | (simp; omega)
        | (simp [hx]; done)
        | (simp [hy]; done)
        | (simp [List.getElem?_map, hx]; done)
        | exact i64_small (by simp; omega)
        | (rw [i64_small (by simp; omega)]; simp; done)
        | (rw [i64_small (by simp; omega)]; simp; omega)
        | exact h1
        | exact h2
        | exact h3
        | (simp; done)
        | decide)

theorem orEnd (l : List Ed) (j : Nat) (h : l.length ≤ j + 1) : CodeC Try.prog 0 50 orB (orS l j) (.exit 0) (orS l j) :=
  runP hmix [.reg 2 [(2, [.be (I (l.length : Int))], none), (3, [], some false)]] ⟨[0, 3], [], []⟩ [
      Int.ofNat (List.length (List.map Ed.row l)) = Int.ofNat (List.length l),
      decide (Int.ofNat (j + (1 : Nat)) < Int.ofNat (List.length l)) = false] (by kernel_rfl)
    (by
      simp only [allP]
      and_intros <;> first
        | omega
        | with_reducible assumption
        | (simp; omega)
        | (simp; done)
        | decide)

theorem ord0 (l : List Ed) (j : Nat) (hl : LoopC Try.prog 0 50 orB (orS l 0) (.exit 0) (orS l j)) : Contract Try.prog 10 [.sl 4 (l.map Ed.row)] [] (Bo true) [] :=
  vcP hmix [.cut ⟨[0, 3], [], []⟩ (.exit 0) (orS l j)] [] [
      LoopC Try.prog (0 : Nat) (50 : Nat) orB { env := [((0 : Nat), V.sl (4 : Nat) (List.map Ed.row l)), ((3 : Nat), I (1 : Int))], st := [], ids := [] } (Ex.exit (0 : Nat)) { env := [((0 : Nat), V.sl (4 : Nat) (List.map Ed.row l)), ((3 : Nat), I (Int.ofNat (j + (1 : Nat))))], st := [], ids := [] }] (by kernel_rfl)
    (by
      simp only [allP]
      and_intros <;> first
        | omega
        | with_reducible assumption
        | exact hl
        | (simp; done)
        | (simp; done)
        | decide)

/-- A list whose neighbours stand in order. -/
def nextE (l : List Ed) : Prop := ∀ (j : Nat) (y x : Ed), l[j]? = some y → l[j + 1]? = some x → ltE y x
theorem cOrdered (l : List Ed) (hs : l.length ≤ 1000000000) (ho : nextE l) : Contract Try.prog 10 [.sl 4 (l.map Ed.row)] [] (Bo true) [] := by
  refine ord0 l (l.length - 1) ?_
  have key : ∀ (m j : Nat), j + m = l.length - 1 → LoopC Try.prog 0 50 orB (orS l j) (.exit 0) (orS l (l.length - 1)) := by
    intro m
    induction m with
    | zero =>
      intro j hj
      have : j = l.length - 1 := by omega
      subst this
      exact LoopC.last (orEnd l _ (by omega)) (by simp)
    | succ m ih =>
      intro j hj
      have h1 : j + 1 < l.length := by omega
      have hx : l[j + 1]? = some l[j + 1] := List.getElem?_eq_getElem h1
      have hy : l[j]? = some l[j] := List.getElem?_eq_getElem (by omega)
      refine LoopC.next (s1 := orS l (j + 1)) ?_ (ih (j + 1) (by omega))
      rcases ho j _ _ hy hx with ⟨a, b⟩ | ⟨a, b, c⟩
      · exact orGoA l _ _ j h1 hy hx hs a b
      · exact orGoB l _ _ j h1 hy hx hs a b c
  exact key (l.length - 1) 0 (by omega)

end Go.Proofs.Ytieffigehkjifaa
