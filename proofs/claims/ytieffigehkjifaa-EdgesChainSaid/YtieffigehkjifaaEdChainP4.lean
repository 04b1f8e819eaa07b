/- edges: a chain of calls. -/
import Derived.Test.YtieffigehkjifaaEdChainP3
namespace Go.Proofs.Ytieffigehkjifaa
open E
set_option maxRecDepth 100000
set_option linter.unusedVariables false
set_option linter.unusedSimpArgs false


def arr16 (f : Nat → Int) : List V := [I (f 0), I (f 1), I (f 2), I (f 3), I (f 4), I (f 5), I (f 6), I (f 7), I (f 8), I (f 9), I (f 10), I (f 11), I (f 12), I (f 13), I (f 14), I (f 15)]
def abcd : ByteArray := ⟨#[97, 98, 99, 100]⟩
def nm : Nat → ByteArray
  | 0 => ⟨#[97]⟩
  | 1 => ⟨#[98]⟩
  | 2 => ⟨#[99]⟩
  | _ => ⟨#[100]⟩
def upd (f : Nat → Int) (j : Nat) (v : Int) (i : Nat) : Int := bif i == j then v else f i
def low (x : Int) : Int := IntKind.wrap IntKind.i64 (Int.ofNat ((BitVec.toNat (BitVec.ofInt (64 : Nat) x) &&& (3 : Nat))))
def chSp (i k : Nat) (e : Bool) : Sp := ⟨0, 0, ((i + 1 : Nat) : Int), (i : Int), nm k, ⟨#[111]⟩, 0, 0, e, []⟩
def chS (sv : List Int) (er : List Bool) (l : List Sp) (n bad : Nat → Int) (i : Nat) : SL := ⟨[(0, .sl 1 (sv.map fun n => [I n])), (1, .sl 1 (er.map fun b => [Bo b])), (6, Sg abcd), (7, .own 900), (8, .ptr 901 0 0 0), (9, .ptr 902 0 0 0), (10, I (i : Int))], [(900, .arr 10 (l.map Sp.row)), (901, .box (arr16 n)), (902, .box (arr16 bad))], [900, 901, 902]⟩
def wiS (l : List Sp) (n bad : Nat → Int) (w : List Ed) (p k : Nat) : SL := ⟨[(6, Sg abcd), (7, .own 900), (8, .ptr 901 0 0 0), (9, .ptr 902 0 0 0), (13, .own 903), (14, I (p : Int)), (15, I (k : Int))], [(900, .arr 10 (l.map Sp.row)), (901, .box (arr16 n)), (902, .box (arr16 bad)), (903, .arr 4 (w.map Ed.row))], [900, 901, 902, 903]⟩
def woS (l : List Sp) (n bad : Nat → Int) (w : List Ed) (p : Nat) : SL := ⟨[(6, Sg abcd), (7, .own 900), (8, .ptr 901 0 0 0), (9, .ptr 902 0 0 0), (13, .own 903), (14, I (p : Int))], [(900, .arr 10 (l.map Sp.row)), (901, .box (arr16 n)), (902, .box (arr16 bad)), (903, .arr 4 (w.map Ed.row))], [900, 901, 902, 903]⟩
def gE (n bad : Nat → Int) (j : Nat) : Option Ed := bif (j / 4 != j % 4) && decide (0 < n j) then some (Ed.mk (nm (j / 4)) (nm (j % 4)) (n j) (bad j)) else none
noncomputable def chB : Code := codeAt Try.prog 4 [true, true, true, true, true, true, false, true, false, false]

noncomputable def wiB : Code := codeAt Try.prog 4 [true, true, true, true, true, true, true, true, false, true, false, false, true, false, false, true, false, false]

noncomputable def woB : Code := codeAt Try.prog 4 [true, true, true, true, true, true, true, true, false, true, false, false]

theorem chFirst0 (sv : List Int) (er : List Bool) (l : List Sp) (n bad : Nat → Int) (i : Nat) (x : Int) (e : Bool) (h : i < sv.length) (hs : sv.length ≤ 40) (hr : sv.length ≤ er.length) (hl : l.length ≤ 1000) (hx : sv[i]? = some x) (he : er[i]? = some e) (h0 : i = 0) (hk : low x = 0) : CodeC Try.prog 0 136 chB (chS sv er l n bad i) .normal (chS sv er (l ++ [chSp i 0 e]) n bad (i + 1)) :=
  runP hmix [.reg 8 [(3, [], some true)], .reg 10 [(3, [.row [I x]], none), (4, [.be (I 0)], none)], .reg 11 [(3, [.be (U ((i + 1 : Nat) : Int))], none), (5, [.be (U (i : Int))], none), (14, [.row [Bo e]], none), (17, [.beO ((l ++ [chSp i 0 e]).map Sp.row)], none)], .reg 12 [(1, [], some false)], .reg 9 [(1, [.be (I ((i + 1 : Nat) : Int))], none)]] ⟨[0, 1, 6, 7, 8, 9, 10], [(2218000, 900), (901, 901), (902, 902)], []⟩ [
      decide (Int.ofNat i < Int.ofNat (List.length (List.map (fun n0 => [I n0]) sv))) = true,
      (0 : Int) ≤ Int.ofNat i,
      Int.ofNat i < Int.ofNat (List.length (List.map (fun n0 => [I n0]) sv)),
      (List.map (fun n0 => [I n0]) sv)[i]? = some [I x],
      IntKind.wrap IntKind.i64 (Int.ofNat ((BitVec.toNat (BitVec.ofInt (64 : Nat) x) &&& (3 : Nat)))) = (0 : Int),
      IntKind.wrap IntKind.u64 (IntKind.wrap IntKind.i64 (Int.ofNat (i + (1 : Nat)))) = Int.ofNat (i + (1 : Nat)),
      Int.ofNat (i % (18446744073709551616 : Nat)) = Int.ofNat i,
      (0 : Int) ≤ (0 : Int),
      (0 : Int) ≤ (1 : Int),
      (1 : Int) ≤ (4 : Int),
      (0 : Int) ≤ Int.ofNat i,
      Int.ofNat i < Int.ofNat (List.length (List.map (fun b0 => [Bo b0]) er)),
      (List.map (fun b0 => [Bo b0]) er)[i]? = some [Bo e],
      (List.length (List.map Sp.row l) + (1 : Nat)) * (112 : Nat) ≤ (140737488355328 : Nat),
      List.map Sp.row l ++ [[V.val (Value.int IntKind.u64 (0 : Int)), V.val (Value.int IntKind.u64 (0 : Int)), V.val (Value.int IntKind.u64 (Int.ofNat (i + (1 : Nat)))), V.val (Value.int IntKind.u64 (Int.ofNat i)), Sg { data := { toList := [(97 : UInt8)] } }, Sg { data := { toList := [(111 : UInt8)] } }, I (0 : Int), I (0 : Int), Bo e, V.sl (2 : Nat) []]] = List.map Sp.row (l ++ [{ hi := (0 : Int), lo := (0 : Int), id := Int.ofNat (i + (1 : Nat)), par := Int.ofNat i, svc := { data := { toList := [(97 : UInt8)] } }, op := { data := { toList := [(111 : UInt8)] } }, start := (0 : Int), dur := (0 : Int), err := e, attrs := [] }]),
      decide (Int.ofNat i > (0 : Int)) = false,
      IntKind.wrap IntKind.i64 (Int.ofNat (i + (1 : Nat))) = Int.ofNat (i + (1 : Nat))] (by kernel_rfl)
    (by
      simp only [allP]
      and_intros <;> first
        | omega
        | with_reducible assumption
        | exact hx
        | exact hk
        | exact hp
        | exact i64_small (by omega)
        | (simp; omega)
        | (simp [hx]; done)
        | (simp [hy]; done)
        | (simp [he]; done)
        | exact i64_small (by simp; omega)
        | (rw [i64_small (by simp; omega)]; exact u64_small (by simp; omega))
        | exact u64_small (by simp; omega)
        | (simp [Sp.row, chSp, U, nm]; done)
        | (rw [Int.add_neg_one]; rw [i64_small (by simp; omega)]; simp; omega)
        | (rw [i64_small (by simp; omega)]; simp; omega)
        | (simp; done)
        | decide)

theorem chFirst1 (sv : List Int) (er : List Bool) (l : List Sp) (n bad : Nat → Int) (i : Nat) (x : Int) (e : Bool) (h : i < sv.length) (hs : sv.length ≤ 40) (hr : sv.length ≤ er.length) (hl : l.length ≤ 1000) (hx : sv[i]? = some x) (he : er[i]? = some e) (h0 : i = 0) (hk : low x = 1) : CodeC Try.prog 0 136 chB (chS sv er l n bad i) .normal (chS sv er (l ++ [chSp i 1 e]) n bad (i + 1)) :=
  runP hmix [.reg 8 [(3, [], some true)], .reg 10 [(3, [.row [I x]], none), (4, [.be (I 1)], none)], .reg 11 [(3, [.be (U ((i + 1 : Nat) : Int))], none), (5, [.be (U (i : Int))], none), (14, [.row [Bo e]], none), (17, [.beO ((l ++ [chSp i 1 e]).map Sp.row)], none)], .reg 12 [(1, [], some false)], .reg 9 [(1, [.be (I ((i + 1 : Nat) : Int))], none)]] ⟨[0, 1, 6, 7, 8, 9, 10], [(2218000, 900), (901, 901), (902, 902)], []⟩ [
      decide (Int.ofNat i < Int.ofNat (List.length (List.map (fun n0 => [I n0]) sv))) = true,
      (0 : Int) ≤ Int.ofNat i,
      Int.ofNat i < Int.ofNat (List.length (List.map (fun n0 => [I n0]) sv)),
      (List.map (fun n0 => [I n0]) sv)[i]? = some [I x],
      IntKind.wrap IntKind.i64 (Int.ofNat ((BitVec.toNat (BitVec.ofInt (64 : Nat) x) &&& (3 : Nat)))) = (1 : Int),
      IntKind.wrap IntKind.u64 (IntKind.wrap IntKind.i64 (Int.ofNat (i + (1 : Nat)))) = Int.ofNat (i + (1 : Nat)),
      Int.ofNat (i % (18446744073709551616 : Nat)) = Int.ofNat i,
      (0 : Int) ≤ (1 : Int),
      (1 : Int) ≤ (2 : Int),
      (2 : Int) ≤ (4 : Int),
      (0 : Int) ≤ Int.ofNat i,
      Int.ofNat i < Int.ofNat (List.length (List.map (fun b0 => [Bo b0]) er)),
      (List.map (fun b0 => [Bo b0]) er)[i]? = some [Bo e],
      (List.length (List.map Sp.row l) + (1 : Nat)) * (112 : Nat) ≤ (140737488355328 : Nat),
      List.map Sp.row l ++ [[V.val (Value.int IntKind.u64 (0 : Int)), V.val (Value.int IntKind.u64 (0 : Int)), V.val (Value.int IntKind.u64 (Int.ofNat (i + (1 : Nat)))), V.val (Value.int IntKind.u64 (Int.ofNat i)), Sg { data := { toList := [(98 : UInt8)] } }, Sg { data := { toList := [(111 : UInt8)] } }, I (0 : Int), I (0 : Int), Bo e, V.sl (2 : Nat) []]] = List.map Sp.row (l ++ [{ hi := (0 : Int), lo := (0 : Int), id := Int.ofNat (i + (1 : Nat)), par := Int.ofNat i, svc := { data := { toList := [(98 : UInt8)] } }, op := { data := { toList := [(111 : UInt8)] } }, start := (0 : Int), dur := (0 : Int), err := e, attrs := [] }]),
      decide (Int.ofNat i > (0 : Int)) = false,
      IntKind.wrap IntKind.i64 (Int.ofNat (i + (1 : Nat))) = Int.ofNat (i + (1 : Nat))] (by kernel_rfl)
    (by
      simp only [allP]
      and_intros <;> first
        | omega
        | with_reducible assumption
        | exact hx
        | exact hk
        | exact hp
        | exact i64_small (by omega)
        | (simp; omega)
        | (simp [hx]; done)
        | (simp [hy]; done)
        | (simp [he]; done)
        | exact i64_small (by simp; omega)
        | (rw [i64_small (by simp; omega)]; exact u64_small (by simp; omega))
        | exact u64_small (by simp; omega)
        | (simp [Sp.row, chSp, U, nm]; done)
        | (rw [Int.add_neg_one]; rw [i64_small (by simp; omega)]; simp; omega)
        | (rw [i64_small (by simp; omega)]; simp; omega)
        | (simp; done)
        | decide)

theorem chFirst2 (sv : List Int) (er : List Bool) (l : List Sp) (n bad : Nat → Int) (i : Nat) (x : Int) (e : Bool) (h : i < sv.length) (hs : sv.length ≤ 40) (hr : sv.length ≤ er.length) (hl : l.length ≤ 1000) (hx : sv[i]? = some x) (he : er[i]? = some e) (h0 : i = 0) (hk : low x = 2) : CodeC Try.prog 0 136 chB (chS sv er l n bad i) .normal (chS sv er (l ++ [chSp i 2 e]) n bad (i + 1)) :=
  runP hmix [.reg 8 [(3, [], some true)], .reg 10 [(3, [.row [I x]], none), (4, [.be (I 2)], none)], .reg 11 [(3, [.be (U ((i + 1 : Nat) : Int))], none), (5, [.be (U (i : Int))], none), (14, [.row [Bo e]], none), (17, [.beO ((l ++ [chSp i 2 e]).map Sp.row)], none)], .reg 12 [(1, [], some false)], .reg 9 [(1, [.be (I ((i + 1 : Nat) : Int))], none)]] ⟨[0, 1, 6, 7, 8, 9, 10], [(2218000, 900), (901, 901), (902, 902)], []⟩ [
      decide (Int.ofNat i < Int.ofNat (List.length (List.map (fun n0 => [I n0]) sv))) = true,
      (0 : Int) ≤ Int.ofNat i,
      Int.ofNat i < Int.ofNat (List.length (List.map (fun n0 => [I n0]) sv)),
      (List.map (fun n0 => [I n0]) sv)[i]? = some [I x],
      IntKind.wrap IntKind.i64 (Int.ofNat ((BitVec.toNat (BitVec.ofInt (64 : Nat) x) &&& (3 : Nat)))) = (2 : Int),
      IntKind.wrap IntKind.u64 (IntKind.wrap IntKind.i64 (Int.ofNat (i + (1 : Nat)))) = Int.ofNat (i + (1 : Nat)),
      Int.ofNat (i % (18446744073709551616 : Nat)) = Int.ofNat i,
      (0 : Int) ≤ (2 : Int),
      (2 : Int) ≤ (3 : Int),
      (3 : Int) ≤ (4 : Int),
      (0 : Int) ≤ Int.ofNat i,
      Int.ofNat i < Int.ofNat (List.length (List.map (fun b0 => [Bo b0]) er)),
      (List.map (fun b0 => [Bo b0]) er)[i]? = some [Bo e],
      (List.length (List.map Sp.row l) + (1 : Nat)) * (112 : Nat) ≤ (140737488355328 : Nat),
      List.map Sp.row l ++ [[V.val (Value.int IntKind.u64 (0 : Int)), V.val (Value.int IntKind.u64 (0 : Int)), V.val (Value.int IntKind.u64 (Int.ofNat (i + (1 : Nat)))), V.val (Value.int IntKind.u64 (Int.ofNat i)), Sg { data := { toList := [(99 : UInt8)] } }, Sg { data := { toList := [(111 : UInt8)] } }, I (0 : Int), I (0 : Int), Bo e, V.sl (2 : Nat) []]] = List.map Sp.row (l ++ [{ hi := (0 : Int), lo := (0 : Int), id := Int.ofNat (i + (1 : Nat)), par := Int.ofNat i, svc := { data := { toList := [(99 : UInt8)] } }, op := { data := { toList := [(111 : UInt8)] } }, start := (0 : Int), dur := (0 : Int), err := e, attrs := [] }]),
      decide (Int.ofNat i > (0 : Int)) = false,
      IntKind.wrap IntKind.i64 (Int.ofNat (i + (1 : Nat))) = Int.ofNat (i + (1 : Nat))] (by kernel_rfl)
    (by
      simp only [allP]
      and_intros <;> first
        | omega
        | with_reducible assumption
        | exact hx
        | exact hk
        | exact hp
        | exact i64_small (by omega)
        | (simp; omega)
        | (simp [hx]; done)
        | (simp [hy]; done)
        | (simp [he]; done)
        | exact i64_small (by simp; omega)
        | (rw [i64_small (by simp; omega)]; exact u64_small (by simp; omega))
        | exact u64_small (by simp; omega)
        | (simp [Sp.row, chSp, U, nm]; done)
        | (rw [Int.add_neg_one]; rw [i64_small (by simp; omega)]; simp; omega)
        | (rw [i64_small (by simp; omega)]; simp; omega)
        | (simp; done)
        | decide)

theorem chFirst3 (sv : List Int) (er : List Bool) (l : List Sp) (n bad : Nat → Int) (i : Nat) (x : Int) (e : Bool) (h : i < sv.length) (hs : sv.length ≤ 40) (hr : sv.length ≤ er.length) (hl : l.length ≤ 1000) (hx : sv[i]? = some x) (he : er[i]? = some e) (h0 : i = 0) (hk : low x = 3) : CodeC Try.prog 0 136 chB (chS sv er l n bad i) .normal (chS sv er (l ++ [chSp i 3 e]) n bad (i + 1)) :=
  runP hmix [.reg 8 [(3, [], some true)], .reg 10 [(3, [.row [I x]], none), (4, [.be (I 3)], none)], .reg 11 [(3, [.be (U ((i + 1 : Nat) : Int))], none), (5, [.be (U (i : Int))], none), (14, [.row [Bo e]], none), (17, [.beO ((l ++ [chSp i 3 e]).map Sp.row)], none)], .reg 12 [(1, [], some false)], .reg 9 [(1, [.be (I ((i + 1 : Nat) : Int))], none)]] ⟨[0, 1, 6, 7, 8, 9, 10], [(2218000, 900), (901, 901), (902, 902)], []⟩ [
      decide (Int.ofNat i < Int.ofNat (List.length (List.map (fun n0 => [I n0]) sv))) = true,
      (0 : Int) ≤ Int.ofNat i,
      Int.ofNat i < Int.ofNat (List.length (List.map (fun n0 => [I n0]) sv)),
      (List.map (fun n0 => [I n0]) sv)[i]? = some [I x],
      IntKind.wrap IntKind.i64 (Int.ofNat ((BitVec.toNat (BitVec.ofInt (64 : Nat) x) &&& (3 : Nat)))) = (3 : Int),
      IntKind.wrap IntKind.u64 (IntKind.wrap IntKind.i64 (Int.ofNat (i + (1 : Nat)))) = Int.ofNat (i + (1 : Nat)),
      Int.ofNat (i % (18446744073709551616 : Nat)) = Int.ofNat i,
      (0 : Int) ≤ (3 : Int),
      (3 : Int) ≤ (4 : Int),
      (4 : Int) ≤ (4 : Int),
      (0 : Int) ≤ Int.ofNat i,
      Int.ofNat i < Int.ofNat (List.length (List.map (fun b0 => [Bo b0]) er)),
      (List.map (fun b0 => [Bo b0]) er)[i]? = some [Bo e],
      (List.length (List.map Sp.row l) + (1 : Nat)) * (112 : Nat) ≤ (140737488355328 : Nat),
      List.map Sp.row l ++ [[V.val (Value.int IntKind.u64 (0 : Int)), V.val (Value.int IntKind.u64 (0 : Int)), V.val (Value.int IntKind.u64 (Int.ofNat (i + (1 : Nat)))), V.val (Value.int IntKind.u64 (Int.ofNat i)), Sg { data := { toList := [(100 : UInt8)] } }, Sg { data := { toList := [(111 : UInt8)] } }, I (0 : Int), I (0 : Int), Bo e, V.sl (2 : Nat) []]] = List.map Sp.row (l ++ [{ hi := (0 : Int), lo := (0 : Int), id := Int.ofNat (i + (1 : Nat)), par := Int.ofNat i, svc := { data := { toList := [(100 : UInt8)] } }, op := { data := { toList := [(111 : UInt8)] } }, start := (0 : Int), dur := (0 : Int), err := e, attrs := [] }]),
      decide (Int.ofNat i > (0 : Int)) = false,
      IntKind.wrap IntKind.i64 (Int.ofNat (i + (1 : Nat))) = Int.ofNat (i + (1 : Nat))] (by kernel_rfl)
    (by
      simp only [allP]
      and_intros <;> first
        | omega
        | with_reducible assumption
        | exact hx
        | exact hk
        | exact hp
        | exact i64_small (by omega)
        | (simp; omega)
        | (simp [hx]; done)
        | (simp [hy]; done)
        | (simp [he]; done)
        | exact i64_small (by simp; omega)
        | (rw [i64_small (by simp; omega)]; exact u64_small (by simp; omega))
        | exact u64_small (by simp; omega)
        | (simp [Sp.row, chSp, U, nm]; done)
        | (rw [Int.add_neg_one]; rw [i64_small (by simp; omega)]; simp; omega)
        | (rw [i64_small (by simp; omega)]; simp; omega)
        | (simp; done)
        | decide)

theorem chGo00t (sv : List Int) (er : List Bool) (l : List Sp) (n bad : Nat → Int) (i : Nat) (x y : Int) (h : i < sv.length) (hs : sv.length ≤ 40) (hr : sv.length ≤ er.length) (hl : l.length ≤ 1000) (hx : sv[i]? = some x) (he : er[i]? = some true) (h0 : 0 < i) (hy : sv[i - 1]? = some y) (hk : low x = 0) (hp : low y = 0) (hn : 0 ≤ n 0 ∧ n 0 ≤ 1000) (hb : 0 ≤ bad 0 ∧ bad 0 ≤ 1000) : CodeC Try.prog 0 136 chB (chS sv er l n bad i) .normal (chS sv er (l ++ [chSp i 0 true]) (upd n 0 (n 0 + 1)) (upd bad 0 (bad 0 + 1)) (i + 1)) :=
  runP hmix [.reg 8 [(3, [], some true)], .reg 10 [(3, [.row [I x]], none), (4, [.be (I 0)], none)], .reg 11 [(3, [.be (U ((i + 1 : Nat) : Int))], none), (5, [.be (U (i : Int))], none), (14, [.row [Bo true]], none), (17, [.beO ((l ++ [chSp i 0 true]).map Sp.row)], none)], .reg 12 [(1, [], some true)], .reg 13 [(2, [.be (I ((i - 1 : Nat) : Int))], none), (4, [.row [I y]], none), (5, [.be (I 0)], none)], .reg 14 [(5, [.be (I (n 0 + 1))], none)], .reg 15 [(3, [.row [Bo true]], some true)], .reg 16 [(5, [.be (I (bad 0 + 1))], none)], .reg 9 [(1, [.be (I ((i + 1 : Nat) : Int))], none)]] ⟨[0, 1, 6, 7, 8, 9, 10], [(2218000, 900), (901, 901), (902, 902)], []⟩ [
      decide (Int.ofNat i < Int.ofNat (List.length (List.map (fun n0 => [I n0]) sv))) = true,
      (0 : Int) ≤ Int.ofNat i,
      Int.ofNat i < Int.ofNat (List.length (List.map (fun n0 => [I n0]) sv)),
      (List.map (fun n0 => [I n0]) sv)[i]? = some [I x],
      IntKind.wrap IntKind.i64 (Int.ofNat ((BitVec.toNat (BitVec.ofInt (64 : Nat) x) &&& (3 : Nat)))) = (0 : Int),
      IntKind.wrap IntKind.u64 (IntKind.wrap IntKind.i64 (Int.ofNat (i + (1 : Nat)))) = Int.ofNat (i + (1 : Nat)),
      Int.ofNat (i % (18446744073709551616 : Nat)) = Int.ofNat i,
      (0 : Int) ≤ (0 : Int),
      (0 : Int) ≤ (1 : Int),
      (1 : Int) ≤ (4 : Int),
      (0 : Int) ≤ Int.ofNat i,
      Int.ofNat i < Int.ofNat (List.length (List.map (fun b0 => [Bo b0]) er)),
      (List.map (fun b0 => [Bo b0]) er)[i]? = some [Bo true],
      (List.length (List.map Sp.row l) + (1 : Nat)) * (112 : Nat) ≤ (140737488355328 : Nat),
      List.map Sp.row l ++ [[V.val (Value.int IntKind.u64 (0 : Int)), V.val (Value.int IntKind.u64 (0 : Int)), V.val (Value.int IntKind.u64 (Int.ofNat (i + (1 : Nat)))), V.val (Value.int IntKind.u64 (Int.ofNat i)), Sg { data := { toList := [(97 : UInt8)] } }, Sg { data := { toList := [(111 : UInt8)] } }, I (0 : Int), I (0 : Int), Bo true, V.sl (2 : Nat) []]] = List.map Sp.row (l ++ [{ hi := (0 : Int), lo := (0 : Int), id := Int.ofNat (i + (1 : Nat)), par := Int.ofNat i, svc := { data := { toList := [(97 : UInt8)] } }, op := { data := { toList := [(111 : UInt8)] } }, start := (0 : Int), dur := (0 : Int), err := true, attrs := [] }]),
      decide (Int.ofNat i > (0 : Int)) = true,
      IntKind.wrap IntKind.i64 (Int.ofNat i + (-1 : Int)) = Int.ofNat (i - (1 : Nat)),
      (0 : Int) ≤ Int.ofNat (i - (1 : Nat)),
      Int.ofNat (i - (1 : Nat)) < Int.ofNat (List.length (List.map (fun n0 => [I n0]) sv)),
      (List.map (fun n0 => [I n0]) sv)[i - (1 : Nat)]? = some [I y],
      IntKind.wrap IntKind.i64 (Int.ofNat ((BitVec.toNat (BitVec.ofInt (64 : Nat) y) &&& (3 : Nat)))) = (0 : Int),
      IntKind.wrap IntKind.i64 (n (0 : Nat) + (1 : Int)) = n (0 : Nat) + (1 : Int),
      (0 : Int) ≤ Int.ofNat i,
      Int.ofNat i < Int.ofNat (List.length (List.map (fun b0 => [Bo b0]) er)),
      (List.map (fun b0 => [Bo b0]) er)[i]? = some [Bo true],
      true = true,
      IntKind.wrap IntKind.i64 (bad (0 : Nat) + (1 : Int)) = bad (0 : Nat) + (1 : Int),
      IntKind.wrap IntKind.i64 (Int.ofNat (i + (1 : Nat))) = Int.ofNat (i + (1 : Nat))] (by kernel_rfl)
    (by
      simp only [allP]
      and_intros <;> first
        | omega
        | with_reducible assumption
        | exact hx
        | exact hk
        | exact hp
        | exact i64_small (by omega)
        | (simp; omega)
        | (simp [hx]; done)
        | (simp [hy]; done)
        | (simp [he]; done)
        | exact i64_small (by simp; omega)
        | (rw [i64_small (by simp; omega)]; exact u64_small (by simp; omega))
        | exact u64_small (by simp; omega)
        | (simp [Sp.row, chSp, U, nm]; done)
        | (rw [Int.add_neg_one]; rw [i64_small (by simp; omega)]; simp; omega)
        | (rw [i64_small (by simp; omega)]; simp; omega)
        | (simp; done)
        | decide)

theorem chGo00f (sv : List Int) (er : List Bool) (l : List Sp) (n bad : Nat → Int) (i : Nat) (x y : Int) (h : i < sv.length) (hs : sv.length ≤ 40) (hr : sv.length ≤ er.length) (hl : l.length ≤ 1000) (hx : sv[i]? = some x) (he : er[i]? = some false) (h0 : 0 < i) (hy : sv[i - 1]? = some y) (hk : low x = 0) (hp : low y = 0) (hn : 0 ≤ n 0 ∧ n 0 ≤ 1000) (hb : 0 ≤ bad 0 ∧ bad 0 ≤ 1000) : CodeC Try.prog 0 136 chB (chS sv er l n bad i) .normal (chS sv er (l ++ [chSp i 0 false]) (upd n 0 (n 0 + 1)) bad (i + 1)) :=
  runP hmix [.reg 8 [(3, [], some true)], .reg 10 [(3, [.row [I x]], none), (4, [.be (I 0)], none)], .reg 11 [(3, [.be (U ((i + 1 : Nat) : Int))], none), (5, [.be (U (i : Int))], none), (14, [.row [Bo false]], none), (17, [.beO ((l ++ [chSp i 0 false]).map Sp.row)], none)], .reg 12 [(1, [], some true)], .reg 13 [(2, [.be (I ((i - 1 : Nat) : Int))], none), (4, [.row [I y]], none), (5, [.be (I 0)], none)], .reg 14 [(5, [.be (I (n 0 + 1))], none)], .reg 15 [(3, [.row [Bo false]], some false)], .reg 9 [(1, [.be (I ((i + 1 : Nat) : Int))], none)]] ⟨[0, 1, 6, 7, 8, 9, 10], [(2218000, 900), (901, 901), (902, 902)], []⟩ [
      decide (Int.ofNat i < Int.ofNat (List.length (List.map (fun n0 => [I n0]) sv))) = true,
      (0 : Int) ≤ Int.ofNat i,
      Int.ofNat i < Int.ofNat (List.length (List.map (fun n0 => [I n0]) sv)),
      (List.map (fun n0 => [I n0]) sv)[i]? = some [I x],
      IntKind.wrap IntKind.i64 (Int.ofNat ((BitVec.toNat (BitVec.ofInt (64 : Nat) x) &&& (3 : Nat)))) = (0 : Int),
      IntKind.wrap IntKind.u64 (IntKind.wrap IntKind.i64 (Int.ofNat (i + (1 : Nat)))) = Int.ofNat (i + (1 : Nat)),
      Int.ofNat (i % (18446744073709551616 : Nat)) = Int.ofNat i,
      (0 : Int) ≤ (0 : Int),
      (0 : Int) ≤ (1 : Int),
      (1 : Int) ≤ (4 : Int),
      (0 : Int) ≤ Int.ofNat i,
      Int.ofNat i < Int.ofNat (List.length (List.map (fun b0 => [Bo b0]) er)),
      (List.map (fun b0 => [Bo b0]) er)[i]? = some [Bo false],
      (List.length (List.map Sp.row l) + (1 : Nat)) * (112 : Nat) ≤ (140737488355328 : Nat),
      List.map Sp.row l ++ [[V.val (Value.int IntKind.u64 (0 : Int)), V.val (Value.int IntKind.u64 (0 : Int)), V.val (Value.int IntKind.u64 (Int.ofNat (i + (1 : Nat)))), V.val (Value.int IntKind.u64 (Int.ofNat i)), Sg { data := { toList := [(97 : UInt8)] } }, Sg { data := { toList := [(111 : UInt8)] } }, I (0 : Int), I (0 : Int), Bo false, V.sl (2 : Nat) []]] = List.map Sp.row (l ++ [{ hi := (0 : Int), lo := (0 : Int), id := Int.ofNat (i + (1 : Nat)), par := Int.ofNat i, svc := { data := { toList := [(97 : UInt8)] } }, op := { data := { toList := [(111 : UInt8)] } }, start := (0 : Int), dur := (0 : Int), err := false, attrs := [] }]),
      decide (Int.ofNat i > (0 : Int)) = true,
      IntKind.wrap IntKind.i64 (Int.ofNat i + (-1 : Int)) = Int.ofNat (i - (1 : Nat)),
      (0 : Int) ≤ Int.ofNat (i - (1 : Nat)),
      Int.ofNat (i - (1 : Nat)) < Int.ofNat (List.length (List.map (fun n0 => [I n0]) sv)),
      (List.map (fun n0 => [I n0]) sv)[i - (1 : Nat)]? = some [I y],
      IntKind.wrap IntKind.i64 (Int.ofNat ((BitVec.toNat (BitVec.ofInt (64 : Nat) y) &&& (3 : Nat)))) = (0 : Int),
      IntKind.wrap IntKind.i64 (n (0 : Nat) + (1 : Int)) = n (0 : Nat) + (1 : Int),
      (0 : Int) ≤ Int.ofNat i,
      Int.ofNat i < Int.ofNat (List.length (List.map (fun b0 => [Bo b0]) er)),
      (List.map (fun b0 => [Bo b0]) er)[i]? = some [Bo false],
      false = false,
      IntKind.wrap IntKind.i64 (Int.ofNat (i + (1 : Nat))) = Int.ofNat (i + (1 : Nat))] (by kernel_rfl)
    (by
      simp only [allP]
      and_intros <;> first
        | omega
        | with_reducible assumption
        | exact hx
        | exact hk
        | exact hp
        | exact i64_small (by omega)
        | (simp; omega)
        | (simp [hx]; done)
        | (simp [hy]; done)
        | (simp [he]; done)
        | exact i64_small (by simp; omega)
        | (rw [i64_small (by simp; omega)]; exact u64_small (by simp; omega))
        | exact u64_small (by simp; omega)
        | (simp [Sp.row, chSp, U, nm]; done)
        | (rw [Int.add_neg_one]; rw [i64_small (by simp; omega)]; simp; omega)
        | (rw [i64_small (by simp; omega)]; simp; omega)
        | (simp; done)
        | decide)

theorem chGo01t (sv : List Int) (er : List Bool) (l : List Sp) (n bad : Nat → Int) (i : Nat) (x y : Int) (h : i < sv.length) (hs : sv.length ≤ 40) (hr : sv.length ≤ er.length) (hl : l.length ≤ 1000) (hx : sv[i]? = some x) (he : er[i]? = some true) (h0 : 0 < i) (hy : sv[i - 1]? = some y) (hk : low x = 1) (hp : low y = 0) (hn : 0 ≤ n 1 ∧ n 1 ≤ 1000) (hb : 0 ≤ bad 1 ∧ bad 1 ≤ 1000) : CodeC Try.prog 0 136 chB (chS sv er l n bad i) .normal (chS sv er (l ++ [chSp i 1 true]) (upd n 1 (n 1 + 1)) (upd bad 1 (bad 1 + 1)) (i + 1)) :=
  runP hmix [.reg 8 [(3, [], some true)], .reg 10 [(3, [.row [I x]], none), (4, [.be (I 1)], none)], .reg 11 [(3, [.be (U ((i + 1 : Nat) : Int))], none), (5, [.be (U (i : Int))], none), (14, [.row [Bo true]], none), (17, [.beO ((l ++ [chSp i 1 true]).map Sp.row)], none)], .reg 12 [(1, [], some true)], .reg 13 [(2, [.be (I ((i - 1 : Nat) : Int))], none), (4, [.row [I y]], none), (5, [.be (I 0)], none)], .reg 14 [(5, [.be (I (n 1 + 1))], none)], .reg 15 [(3, [.row [Bo true]], some true)], .reg 16 [(5, [.be (I (bad 1 + 1))], none)], .reg 9 [(1, [.be (I ((i + 1 : Nat) : Int))], none)]] ⟨[0, 1, 6, 7, 8, 9, 10], [(2218000, 900), (901, 901), (902, 902)], []⟩ [
      decide (Int.ofNat i < Int.ofNat (List.length (List.map (fun n0 => [I n0]) sv))) = true,
      (0 : Int) ≤ Int.ofNat i,
      Int.ofNat i < Int.ofNat (List.length (List.map (fun n0 => [I n0]) sv)),
      (List.map (fun n0 => [I n0]) sv)[i]? = some [I x],
      IntKind.wrap IntKind.i64 (Int.ofNat ((BitVec.toNat (BitVec.ofInt (64 : Nat) x) &&& (3 : Nat)))) = (1 : Int),
      IntKind.wrap IntKind.u64 (IntKind.wrap IntKind.i64 (Int.ofNat (i + (1 : Nat)))) = Int.ofNat (i + (1 : Nat)),
      Int.ofNat (i % (18446744073709551616 : Nat)) = Int.ofNat i,
      (0 : Int) ≤ (1 : Int),
      (1 : Int) ≤ (2 : Int),
      (2 : Int) ≤ (4 : Int),
      (0 : Int) ≤ Int.ofNat i,
      Int.ofNat i < Int.ofNat (List.length (List.map (fun b0 => [Bo b0]) er)),
      (List.map (fun b0 => [Bo b0]) er)[i]? = some [Bo true],
      (List.length (List.map Sp.row l) + (1 : Nat)) * (112 : Nat) ≤ (140737488355328 : Nat),
      List.map Sp.row l ++ [[V.val (Value.int IntKind.u64 (0 : Int)), V.val (Value.int IntKind.u64 (0 : Int)), V.val (Value.int IntKind.u64 (Int.ofNat (i + (1 : Nat)))), V.val (Value.int IntKind.u64 (Int.ofNat i)), Sg { data := { toList := [(98 : UInt8)] } }, Sg { data := { toList := [(111 : UInt8)] } }, I (0 : Int), I (0 : Int), Bo true, V.sl (2 : Nat) []]] = List.map Sp.row (l ++ [{ hi := (0 : Int), lo := (0 : Int), id := Int.ofNat (i + (1 : Nat)), par := Int.ofNat i, svc := { data := { toList := [(98 : UInt8)] } }, op := { data := { toList := [(111 : UInt8)] } }, start := (0 : Int), dur := (0 : Int), err := true, attrs := [] }]),
      decide (Int.ofNat i > (0 : Int)) = true,
      IntKind.wrap IntKind.i64 (Int.ofNat i + (-1 : Int)) = Int.ofNat (i - (1 : Nat)),
      (0 : Int) ≤ Int.ofNat (i - (1 : Nat)),
      Int.ofNat (i - (1 : Nat)) < Int.ofNat (List.length (List.map (fun n0 => [I n0]) sv)),
      (List.map (fun n0 => [I n0]) sv)[i - (1 : Nat)]? = some [I y],
      IntKind.wrap IntKind.i64 (Int.ofNat ((BitVec.toNat (BitVec.ofInt (64 : Nat) y) &&& (3 : Nat)))) = (0 : Int),
      IntKind.wrap IntKind.i64 (n (1 : Nat) + (1 : Int)) = n (1 : Nat) + (1 : Int),
      (0 : Int) ≤ Int.ofNat i,
      Int.ofNat i < Int.ofNat (List.length (List.map (fun b0 => [Bo b0]) er)),
      (List.map (fun b0 => [Bo b0]) er)[i]? = some [Bo true],
      true = true,
      IntKind.wrap IntKind.i64 (bad (1 : Nat) + (1 : Int)) = bad (1 : Nat) + (1 : Int),
      IntKind.wrap IntKind.i64 (Int.ofNat (i + (1 : Nat))) = Int.ofNat (i + (1 : Nat))] (by kernel_rfl)
    (by
      simp only [allP]
      and_intros <;> first
        | omega
        | with_reducible assumption
        | exact hx
        | exact hk
        | exact hp
        | exact i64_small (by omega)
        | (simp; omega)
        | (simp [hx]; done)
        | (simp [hy]; done)
        | (simp [he]; done)
        | exact i64_small (by simp; omega)
        | (rw [i64_small (by simp; omega)]; exact u64_small (by simp; omega))
        | exact u64_small (by simp; omega)
        | (simp [Sp.row, chSp, U, nm]; done)
        | (rw [Int.add_neg_one]; rw [i64_small (by simp; omega)]; simp; omega)
        | (rw [i64_small (by simp; omega)]; simp; omega)
        | (simp; done)
        | decide)

theorem chGo01f (sv : List Int) (er : List Bool) (l : List Sp) (n bad : Nat → Int) (i : Nat) (x y : Int) (h : i < sv.length) (hs : sv.length ≤ 40) (hr : sv.length ≤ er.length) (hl : l.length ≤ 1000) (hx : sv[i]? = some x) (he : er[i]? = some false) (h0 : 0 < i) (hy : sv[i - 1]? = some y) (hk : low x = 1) (hp : low y = 0) (hn : 0 ≤ n 1 ∧ n 1 ≤ 1000) (hb : 0 ≤ bad 1 ∧ bad 1 ≤ 1000) : CodeC Try.prog 0 136 chB (chS sv er l n bad i) .normal (chS sv er (l ++ [chSp i 1 false]) (upd n 1 (n 1 + 1)) bad (i + 1)) :=
  runP hmix [.reg 8 [(3, [], some true)], .reg 10 [(3, [.row [I x]], none), (4, [.be (I 1)], none)], .reg 11 [(3, [.be (U ((i + 1 : Nat) : Int))], none), (5, [.be (U (i : Int))], none), (14, [.row [Bo false]], none), (17, [.beO ((l ++ [chSp i 1 false]).map Sp.row)], none)], .reg 12 [(1, [], some true)], .reg 13 [(2, [.be (I ((i - 1 : Nat) : Int))], none), (4, [.row [I y]], none), (5, [.be (I 0)], none)], .reg 14 [(5, [.be (I (n 1 + 1))], none)], .reg 15 [(3, [.row [Bo false]], some false)], .reg 9 [(1, [.be (I ((i + 1 : Nat) : Int))], none)]] ⟨[0, 1, 6, 7, 8, 9, 10], [(2218000, 900), (901, 901), (902, 902)], []⟩ [
      decide (Int.ofNat i < Int.ofNat (List.length (List.map (fun n0 => [I n0]) sv))) = true,
      (0 : Int) ≤ Int.ofNat i,
      Int.ofNat i < Int.ofNat (List.length (List.map (fun n0 => [I n0]) sv)),
      (List.map (fun n0 => [I n0]) sv)[i]? = some [I x],
      IntKind.wrap IntKind.i64 (Int.ofNat ((BitVec.toNat (BitVec.ofInt (64 : Nat) x) &&& (3 : Nat)))) = (1 : Int),
      IntKind.wrap IntKind.u64 (IntKind.wrap IntKind.i64 (Int.ofNat (i + (1 : Nat)))) = Int.ofNat (i + (1 : Nat)),
      Int.ofNat (i % (18446744073709551616 : Nat)) = Int.ofNat i,
      (0 : Int) ≤ (1 : Int),
      (1 : Int) ≤ (2 : Int),
      (2 : Int) ≤ (4 : Int),
      (0 : Int) ≤ Int.ofNat i,
      Int.ofNat i < Int.ofNat (List.length (List.map (fun b0 => [Bo b0]) er)),
      (List.map (fun b0 => [Bo b0]) er)[i]? = some [Bo false],
      (List.length (List.map Sp.row l) + (1 : Nat)) * (112 : Nat) ≤ (140737488355328 : Nat),
      List.map Sp.row l ++ [[V.val (Value.int IntKind.u64 (0 : Int)), V.val (Value.int IntKind.u64 (0 : Int)), V.val (Value.int IntKind.u64 (Int.ofNat (i + (1 : Nat)))), V.val (Value.int IntKind.u64 (Int.ofNat i)), Sg { data := { toList := [(98 : UInt8)] } }, Sg { data := { toList := [(111 : UInt8)] } }, I (0 : Int), I (0 : Int), Bo false, V.sl (2 : Nat) []]] = List.map Sp.row (l ++ [{ hi := (0 : Int), lo := (0 : Int), id := Int.ofNat (i + (1 : Nat)), par := Int.ofNat i, svc := { data := { toList := [(98 : UInt8)] } }, op := { data := { toList := [(111 : UInt8)] } }, start := (0 : Int), dur := (0 : Int), err := false, attrs := [] }]),
      decide (Int.ofNat i > (0 : Int)) = true,
      IntKind.wrap IntKind.i64 (Int.ofNat i + (-1 : Int)) = Int.ofNat (i - (1 : Nat)),
      (0 : Int) ≤ Int.ofNat (i - (1 : Nat)),
      Int.ofNat (i - (1 : Nat)) < Int.ofNat (List.length (List.map (fun n0 => [I n0]) sv)),
      (List.map (fun n0 => [I n0]) sv)[i - (1 : Nat)]? = some [I y],
      IntKind.wrap IntKind.i64 (Int.ofNat ((BitVec.toNat (BitVec.ofInt (64 : Nat) y) &&& (3 : Nat)))) = (0 : Int),
      IntKind.wrap IntKind.i64 (n (1 : Nat) + (1 : Int)) = n (1 : Nat) + (1 : Int),
      (0 : Int) ≤ Int.ofNat i,
      Int.ofNat i < Int.ofNat (List.length (List.map (fun b0 => [Bo b0]) er)),
      (List.map (fun b0 => [Bo b0]) er)[i]? = some [Bo false],
      false = false,
      IntKind.wrap IntKind.i64 (Int.ofNat (i + (1 : Nat))) = Int.ofNat (i + (1 : Nat))] (by kernel_rfl)
    (by
      simp only [allP]
      and_intros <;> first
        | omega
        | with_reducible assumption
        | exact hx
        | exact hk
        | exact hp
        | exact i64_small (by omega)
        | (simp; omega)
        | (simp [hx]; done)
        | (simp [hy]; done)
        | (simp [he]; done)
        | exact i64_small (by simp; omega)
        | (rw [i64_small (by simp; omega)]; exact u64_small (by simp; omega))
        | exact u64_small (by simp; omega)
        | (simp [Sp.row, chSp, U, nm]; done)
        | (rw [Int.add_neg_one]; rw [i64_small (by simp; omega)]; simp; omega)
        | (rw [i64_small (by simp; omega)]; simp; omega)
        | (simp; done)
        | decide)

theorem chGo02t (sv : List Int) (er : List Bool) (l : List Sp) (n bad : Nat → Int) (i : Nat) (x y : Int) (h : i < sv.length) (hs : sv.length ≤ 40) (hr : sv.length ≤ er.length) (hl : l.length ≤ 1000) (hx : sv[i]? = some x) (he : er[i]? = some true) (h0 : 0 < i) (hy : sv[i - 1]? = some y) (hk : low x = 2) (hp : low y = 0) (hn : 0 ≤ n 2 ∧ n 2 ≤ 1000) (hb : 0 ≤ bad 2 ∧ bad 2 ≤ 1000) : CodeC Try.prog 0 136 chB (chS sv er l n bad i) .normal (chS sv er (l ++ [chSp i 2 true]) (upd n 2 (n 2 + 1)) (upd bad 2 (bad 2 + 1)) (i + 1)) :=
  runP hmix [.reg 8 [(3, [], some true)], .reg 10 [(3, [.row [I x]], none), (4, [.be (I 2)], none)], .reg 11 [(3, [.be (U ((i + 1 : Nat) : Int))], none), (5, [.be (U (i : Int))], none), (14, [.row [Bo true]], none), (17, [.beO ((l ++ [chSp i 2 true]).map Sp.row)], none)], .reg 12 [(1, [], some true)], .reg 13 [(2, [.be (I ((i - 1 : Nat) : Int))], none), (4, [.row [I y]], none), (5, [.be (I 0)], none)], .reg 14 [(5, [.be (I (n 2 + 1))], none)], .reg 15 [(3, [.row [Bo true]], some true)], .reg 16 [(5, [.be (I (bad 2 + 1))], none)], .reg 9 [(1, [.be (I ((i + 1 : Nat) : Int))], none)]] ⟨[0, 1, 6, 7, 8, 9, 10], [(2218000, 900), (901, 901), (902, 902)], []⟩ [
      decide (Int.ofNat i < Int.ofNat (List.length (List.map (fun n0 => [I n0]) sv))) = true,
      (0 : Int) ≤ Int.ofNat i,
      Int.ofNat i < Int.ofNat (List.length (List.map (fun n0 => [I n0]) sv)),
      (List.map (fun n0 => [I n0]) sv)[i]? = some [I x],
      IntKind.wrap IntKind.i64 (Int.ofNat ((BitVec.toNat (BitVec.ofInt (64 : Nat) x) &&& (3 : Nat)))) = (2 : Int),
      IntKind.wrap IntKind.u64 (IntKind.wrap IntKind.i64 (Int.ofNat (i + (1 : Nat)))) = Int.ofNat (i + (1 : Nat)),
      Int.ofNat (i % (18446744073709551616 : Nat)) = Int.ofNat i,
      (0 : Int) ≤ (2 : Int),
      (2 : Int) ≤ (3 : Int),
      (3 : Int) ≤ (4 : Int),
      (0 : Int) ≤ Int.ofNat i,
      Int.ofNat i < Int.ofNat (List.length (List.map (fun b0 => [Bo b0]) er)),
      (List.map (fun b0 => [Bo b0]) er)[i]? = some [Bo true],
      (List.length (List.map Sp.row l) + (1 : Nat)) * (112 : Nat) ≤ (140737488355328 : Nat),
      List.map Sp.row l ++ [[V.val (Value.int IntKind.u64 (0 : Int)), V.val (Value.int IntKind.u64 (0 : Int)), V.val (Value.int IntKind.u64 (Int.ofNat (i + (1 : Nat)))), V.val (Value.int IntKind.u64 (Int.ofNat i)), Sg { data := { toList := [(99 : UInt8)] } }, Sg { data := { toList := [(111 : UInt8)] } }, I (0 : Int), I (0 : Int), Bo true, V.sl (2 : Nat) []]] = List.map Sp.row (l ++ [{ hi := (0 : Int), lo := (0 : Int), id := Int.ofNat (i + (1 : Nat)), par := Int.ofNat i, svc := { data := { toList := [(99 : UInt8)] } }, op := { data := { toList := [(111 : UInt8)] } }, start := (0 : Int), dur := (0 : Int), err := true, attrs := [] }]),
      decide (Int.ofNat i > (0 : Int)) = true,
      IntKind.wrap IntKind.i64 (Int.ofNat i + (-1 : Int)) = Int.ofNat (i - (1 : Nat)),
      (0 : Int) ≤ Int.ofNat (i - (1 : Nat)),
      Int.ofNat (i - (1 : Nat)) < Int.ofNat (List.length (List.map (fun n0 => [I n0]) sv)),
      (List.map (fun n0 => [I n0]) sv)[i - (1 : Nat)]? = some [I y],
      IntKind.wrap IntKind.i64 (Int.ofNat ((BitVec.toNat (BitVec.ofInt (64 : Nat) y) &&& (3 : Nat)))) = (0 : Int),
      IntKind.wrap IntKind.i64 (n (2 : Nat) + (1 : Int)) = n (2 : Nat) + (1 : Int),
      (0 : Int) ≤ Int.ofNat i,
      Int.ofNat i < Int.ofNat (List.length (List.map (fun b0 => [Bo b0]) er)),
      (List.map (fun b0 => [Bo b0]) er)[i]? = some [Bo true],
      true = true,
      IntKind.wrap IntKind.i64 (bad (2 : Nat) + (1 : Int)) = bad (2 : Nat) + (1 : Int),
      IntKind.wrap IntKind.i64 (Int.ofNat (i + (1 : Nat))) = Int.ofNat (i + (1 : Nat))] (by kernel_rfl)
    (by
      simp only [allP]
      and_intros <;> first
        | omega
        | with_reducible assumption
        | exact hx
        | exact hk
        | exact hp
        | exact i64_small (by omega)
        | (simp; omega)
        | (simp [hx]; done)
        | (simp [hy]; done)
        | (simp [he]; done)
        | exact i64_small (by simp; omega)
        | (rw [i64_small (by simp; omega)]; exact u64_small (by simp; omega))
        | exact u64_small (by simp; omega)
        | (simp [Sp.row, chSp, U, nm]; done)
        | (rw [Int.add_neg_one]; rw [i64_small (by simp; omega)]; simp; omega)
        | (rw [i64_small (by simp; omega)]; simp; omega)
        | (simp; done)
        | decide)

theorem chGo02f (sv : List Int) (er : List Bool) (l : List Sp) (n bad : Nat → Int) (i : Nat) (x y : Int) (h : i < sv.length) (hs : sv.length ≤ 40) (hr : sv.length ≤ er.length) (hl : l.length ≤ 1000) (hx : sv[i]? = some x) (he : er[i]? = some false) (h0 : 0 < i) (hy : sv[i - 1]? = some y) (hk : low x = 2) (hp : low y = 0) (hn : 0 ≤ n 2 ∧ n 2 ≤ 1000) (hb : 0 ≤ bad 2 ∧ bad 2 ≤ 1000) : CodeC Try.prog 0 136 chB (chS sv er l n bad i) .normal (chS sv er (l ++ [chSp i 2 false]) (upd n 2 (n 2 + 1)) bad (i + 1)) :=
  runP hmix [.reg 8 [(3, [], some true)], .reg 10 [(3, [.row [I x]], none), (4, [.be (I 2)], none)], .reg 11 [(3, [.be (U ((i + 1 : Nat) : Int))], none), (5, [.be (U (i : Int))], none), (14, [.row [Bo false]], none), (17, [.beO ((l ++ [chSp i 2 false]).map Sp.row)], none)], .reg 12 [(1, [], some true)], .reg 13 [(2, [.be (I ((i - 1 : Nat) : Int))], none), (4, [.row [I y]], none), (5, [.be (I 0)], none)], .reg 14 [(5, [.be (I (n 2 + 1))], none)], .reg 15 [(3, [.row [Bo false]], some false)], .reg 9 [(1, [.be (I ((i + 1 : Nat) : Int))], none)]] ⟨[0, 1, 6, 7, 8, 9, 10], [(2218000, 900), (901, 901), (902, 902)], []⟩ [
      decide (Int.ofNat i < Int.ofNat (List.length (List.map (fun n0 => [I n0]) sv))) = true,
      (0 : Int) ≤ Int.ofNat i,
      Int.ofNat i < Int.ofNat (List.length (List.map (fun n0 => [I n0]) sv)),
      (List.map (fun n0 => [I n0]) sv)[i]? = some [I x],
      IntKind.wrap IntKind.i64 (Int.ofNat ((BitVec.toNat (BitVec.ofInt (64 : Nat) x) &&& (3 : Nat)))) = (2 : Int),
      IntKind.wrap IntKind.u64 (IntKind.wrap IntKind.i64 (Int.ofNat (i + (1 : Nat)))) = Int.ofNat (i + (1 : Nat)),
      Int.ofNat (i % (18446744073709551616 : Nat)) = Int.ofNat i,
      (0 : Int) ≤ (2 : Int),
      (2 : Int) ≤ (3 : Int),
      (3 : Int) ≤ (4 : Int),
      (0 : Int) ≤ Int.ofNat i,
      Int.ofNat i < Int.ofNat (List.length (List.map (fun b0 => [Bo b0]) er)),
      (List.map (fun b0 => [Bo b0]) er)[i]? = some [Bo false],
      (List.length (List.map Sp.row l) + (1 : Nat)) * (112 : Nat) ≤ (140737488355328 : Nat),
      List.map Sp.row l ++ [[V.val (Value.int IntKind.u64 (0 : Int)), V.val (Value.int IntKind.u64 (0 : Int)), V.val (Value.int IntKind.u64 (Int.ofNat (i + (1 : Nat)))), V.val (Value.int IntKind.u64 (Int.ofNat i)), Sg { data := { toList := [(99 : UInt8)] } }, Sg { data := { toList := [(111 : UInt8)] } }, I (0 : Int), I (0 : Int), Bo false, V.sl (2 : Nat) []]] = List.map Sp.row (l ++ [{ hi := (0 : Int), lo := (0 : Int), id := Int.ofNat (i + (1 : Nat)), par := Int.ofNat i, svc := { data := { toList := [(99 : UInt8)] } }, op := { data := { toList := [(111 : UInt8)] } }, start := (0 : Int), dur := (0 : Int), err := false, attrs := [] }]),
      decide (Int.ofNat i > (0 : Int)) = true,
      IntKind.wrap IntKind.i64 (Int.ofNat i + (-1 : Int)) = Int.ofNat (i - (1 : Nat)),
      (0 : Int) ≤ Int.ofNat (i - (1 : Nat)),
      Int.ofNat (i - (1 : Nat)) < Int.ofNat (List.length (List.map (fun n0 => [I n0]) sv)),
      (List.map (fun n0 => [I n0]) sv)[i - (1 : Nat)]? = some [I y],
      IntKind.wrap IntKind.i64 (Int.ofNat ((BitVec.toNat (BitVec.ofInt (64 : Nat) y) &&& (3 : Nat)))) = (0 : Int),
      IntKind.wrap IntKind.i64 (n (2 : Nat) + (1 : Int)) = n (2 : Nat) + (1 : Int),
      (0 : Int) ≤ Int.ofNat i,
      Int.ofNat i < Int.ofNat (List.length (List.map (fun b0 => [Bo b0]) er)),
      (List.map (fun b0 => [Bo b0]) er)[i]? = some [Bo false],
      false = false,
      IntKind.wrap IntKind.i64 (Int.ofNat (i + (1 : Nat))) = Int.ofNat (i + (1 : Nat))] (by kernel_rfl)
    (by
      simp only [allP]
      and_intros <;> first
        | omega
        | with_reducible assumption
        | exact hx
        | exact hk
        | exact hp
        | exact i64_small (by omega)
        | (simp; omega)
        | (simp [hx]; done)
        | (simp [hy]; done)
        | (simp [he]; done)
        | exact i64_small (by simp; omega)
        | (rw [i64_small (by simp; omega)]; exact u64_small (by simp; omega))
        | exact u64_small (by simp; omega)
        | (simp [Sp.row, chSp, U, nm]; done)
        | (rw [Int.add_neg_one]; rw [i64_small (by simp; omega)]; simp; omega)
        | (rw [i64_small (by simp; omega)]; simp; omega)
        | (simp; done)
        | decide)

theorem chGo03t (sv : List Int) (er : List Bool) (l : List Sp) (n bad : Nat → Int) (i : Nat) (x y : Int) (h : i < sv.length) (hs : sv.length ≤ 40) (hr : sv.length ≤ er.length) (hl : l.length ≤ 1000) (hx : sv[i]? = some x) (he : er[i]? = some true) (h0 : 0 < i) (hy : sv[i - 1]? = some y) (hk : low x = 3) (hp : low y = 0) (hn : 0 ≤ n 3 ∧ n 3 ≤ 1000) (hb : 0 ≤ bad 3 ∧ bad 3 ≤ 1000) : CodeC Try.prog 0 136 chB (chS sv er l n bad i) .normal (chS sv er (l ++ [chSp i 3 true]) (upd n 3 (n 3 + 1)) (upd bad 3 (bad 3 + 1)) (i + 1)) :=
  runP hmix [.reg 8 [(3, [], some true)], .reg 10 [(3, [.row [I x]], none), (4, [.be (I 3)], none)], .reg 11 [(3, [.be (U ((i + 1 : Nat) : Int))], none), (5, [.be (U (i : Int))], none), (14, [.row [Bo true]], none), (17, [.beO ((l ++ [chSp i 3 true]).map Sp.row)], none)], .reg 12 [(1, [], some true)], .reg 13 [(2, [.be (I ((i - 1 : Nat) : Int))], none), (4, [.row [I y]], none), (5, [.be (I 0)], none)], .reg 14 [(5, [.be (I (n 3 + 1))], none)], .reg 15 [(3, [.row [Bo true]], some true)], .reg 16 [(5, [.be (I (bad 3 + 1))], none)], .reg 9 [(1, [.be (I ((i + 1 : Nat) : Int))], none)]] ⟨[0, 1, 6, 7, 8, 9, 10], [(2218000, 900), (901, 901), (902, 902)], []⟩ [
      decide (Int.ofNat i < Int.ofNat (List.length (List.map (fun n0 => [I n0]) sv))) = true,
      (0 : Int) ≤ Int.ofNat i,
      Int.ofNat i < Int.ofNat (List.length (List.map (fun n0 => [I n0]) sv)),
      (List.map (fun n0 => [I n0]) sv)[i]? = some [I x],
      IntKind.wrap IntKind.i64 (Int.ofNat ((BitVec.toNat (BitVec.ofInt (64 : Nat) x) &&& (3 : Nat)))) = (3 : Int),
      IntKind.wrap IntKind.u64 (IntKind.wrap IntKind.i64 (Int.ofNat (i + (1 : Nat)))) = Int.ofNat (i + (1 : Nat)),
      Int.ofNat (i % (18446744073709551616 : Nat)) = Int.ofNat i,
      (0 : Int) ≤ (3 : Int),
      (3 : Int) ≤ (4 : Int),
      (4 : Int) ≤ (4 : Int),
      (0 : Int) ≤ Int.ofNat i,
      Int.ofNat i < Int.ofNat (List.length (List.map (fun b0 => [Bo b0]) er)),
      (List.map (fun b0 => [Bo b0]) er)[i]? = some [Bo true],
      (List.length (List.map Sp.row l) + (1 : Nat)) * (112 : Nat) ≤ (140737488355328 : Nat),
      List.map Sp.row l ++ [[V.val (Value.int IntKind.u64 (0 : Int)), V.val (Value.int IntKind.u64 (0 : Int)), V.val (Value.int IntKind.u64 (Int.ofNat (i + (1 : Nat)))), V.val (Value.int IntKind.u64 (Int.ofNat i)), Sg { data := { toList := [(100 : UInt8)] } }, Sg { data := { toList := [(111 : UInt8)] } }, I (0 : Int), I (0 : Int), Bo true, V.sl (2 : Nat) []]] = List.map Sp.row (l ++ [{ hi := (0 : Int), lo := (0 : Int), id := Int.ofNat (i + (1 : Nat)), par := Int.ofNat i, svc := { data := { toList := [(100 : UInt8)] } }, op := { data := { toList := [(111 : UInt8)] } }, start := (0 : Int), dur := (0 : Int), err := true, attrs := [] }]),
      decide (Int.ofNat i > (0 : Int)) = true,
      IntKind.wrap IntKind.i64 (Int.ofNat i + (-1 : Int)) = Int.ofNat (i - (1 : Nat)),
      (0 : Int) ≤ Int.ofNat (i - (1 : Nat)),
      Int.ofNat (i - (1 : Nat)) < Int.ofNat (List.length (List.map (fun n0 => [I n0]) sv)),
      (List.map (fun n0 => [I n0]) sv)[i - (1 : Nat)]? = some [I y],
      IntKind.wrap IntKind.i64 (Int.ofNat ((BitVec.toNat (BitVec.ofInt (64 : Nat) y) &&& (3 : Nat)))) = (0 : Int),
      IntKind.wrap IntKind.i64 (n (3 : Nat) + (1 : Int)) = n (3 : Nat) + (1 : Int),
      (0 : Int) ≤ Int.ofNat i,
      Int.ofNat i < Int.ofNat (List.length (List.map (fun b0 => [Bo b0]) er)),
      (List.map (fun b0 => [Bo b0]) er)[i]? = some [Bo true],
      true = true,
      IntKind.wrap IntKind.i64 (bad (3 : Nat) + (1 : Int)) = bad (3 : Nat) + (1 : Int),
      IntKind.wrap IntKind.i64 (Int.ofNat (i + (1 : Nat))) = Int.ofNat (i + (1 : Nat))] (by kernel_rfl)
    (by
      simp only [allP]
      and_intros <;> first
        | omega
        | with_reducible assumption
        | exact hx
        | exact hk
        | exact hp
        | exact i64_small (by omega)
        | (simp; omega)
        | (simp [hx]; done)
        | (simp [hy]; done)
        | (simp [he]; done)
        | exact i64_small (by simp; omega)
        | (rw [i64_small (by simp; omega)]; exact u64_small (by simp; omega))
        | exact u64_small (by simp; omega)
        | (simp [Sp.row, chSp, U, nm]; done)
        | (rw [Int.add_neg_one]; rw [i64_small (by simp; omega)]; simp; omega)
        | (rw [i64_small (by simp; omega)]; simp; omega)
        | (simp; done)
        | decide)

theorem chGo03f (sv : List Int) (er : List Bool) (l : List Sp) (n bad : Nat → Int) (i : Nat) (x y : Int) (h : i < sv.length) (hs : sv.length ≤ 40) (hr : sv.length ≤ er.length) (hl : l.length ≤ 1000) (hx : sv[i]? = some x) (he : er[i]? = some false) (h0 : 0 < i) (hy : sv[i - 1]? = some y) (hk : low x = 3) (hp : low y = 0) (hn : 0 ≤ n 3 ∧ n 3 ≤ 1000) (hb : 0 ≤ bad 3 ∧ bad 3 ≤ 1000) : CodeC Try.prog 0 136 chB (chS sv er l n bad i) .normal (chS sv er (l ++ [chSp i 3 false]) (upd n 3 (n 3 + 1)) bad (i + 1)) :=
  runP hmix [.reg 8 [(3, [], some true)], .reg 10 [(3, [.row [I x]], none), (4, [.be (I 3)], none)], .reg 11 [(3, [.be (U ((i + 1 : Nat) : Int))], none), (5, [.be (U (i : Int))], none), (14, [.row [Bo false]], none), (17, [.beO ((l ++ [chSp i 3 false]).map Sp.row)], none)], .reg 12 [(1, [], some true)], .reg 13 [(2, [.be (I ((i - 1 : Nat) : Int))], none), (4, [.row [I y]], none), (5, [.be (I 0)], none)], .reg 14 [(5, [.be (I (n 3 + 1))], none)], .reg 15 [(3, [.row [Bo false]], some false)], .reg 9 [(1, [.be (I ((i + 1 : Nat) : Int))], none)]] ⟨[0, 1, 6, 7, 8, 9, 10], [(2218000, 900), (901, 901), (902, 902)], []⟩ [
      decide (Int.ofNat i < Int.ofNat (List.length (List.map (fun n0 => [I n0]) sv))) = true,
      (0 : Int) ≤ Int.ofNat i,
      Int.ofNat i < Int.ofNat (List.length (List.map (fun n0 => [I n0]) sv)),
      (List.map (fun n0 => [I n0]) sv)[i]? = some [I x],
      IntKind.wrap IntKind.i64 (Int.ofNat ((BitVec.toNat (BitVec.ofInt (64 : Nat) x) &&& (3 : Nat)))) = (3 : Int),
      IntKind.wrap IntKind.u64 (IntKind.wrap IntKind.i64 (Int.ofNat (i + (1 : Nat)))) = Int.ofNat (i + (1 : Nat)),
      Int.ofNat (i % (18446744073709551616 : Nat)) = Int.ofNat i,
      (0 : Int) ≤ (3 : Int),
      (3 : Int) ≤ (4 : Int),
      (4 : Int) ≤ (4 : Int),
      (0 : Int) ≤ Int.ofNat i,
      Int.ofNat i < Int.ofNat (List.length (List.map (fun b0 => [Bo b0]) er)),
      (List.map (fun b0 => [Bo b0]) er)[i]? = some [Bo false],
      (List.length (List.map Sp.row l) + (1 : Nat)) * (112 : Nat) ≤ (140737488355328 : Nat),
      List.map Sp.row l ++ [[V.val (Value.int IntKind.u64 (0 : Int)), V.val (Value.int IntKind.u64 (0 : Int)), V.val (Value.int IntKind.u64 (Int.ofNat (i + (1 : Nat)))), V.val (Value.int IntKind.u64 (Int.ofNat i)), Sg { data := { toList := [(100 : UInt8)] } }, Sg { data := { toList := [(111 : UInt8)] } }, I (0 : Int), I (0 : Int), Bo false, V.sl (2 : Nat) []]] = List.map Sp.row (l ++ [{ hi := (0 : Int), lo := (0 : Int), id := Int.ofNat (i + (1 : Nat)), par := Int.ofNat i, svc := { data := { toList := [(100 : UInt8)] } }, op := { data := { toList := [(111 : UInt8)] } }, start := (0 : Int), dur := (0 : Int), err := false, attrs := [] }]),
      decide (Int.ofNat i > (0 : Int)) = true,
      IntKind.wrap IntKind.i64 (Int.ofNat i + (-1 : Int)) = Int.ofNat (i - (1 : Nat)),
      (0 : Int) ≤ Int.ofNat (i - (1 : Nat)),
      Int.ofNat (i - (1 : Nat)) < Int.ofNat (List.length (List.map (fun n0 => [I n0]) sv)),
      (List.map (fun n0 => [I n0]) sv)[i - (1 : Nat)]? = some [I y],
      IntKind.wrap IntKind.i64 (Int.ofNat ((BitVec.toNat (BitVec.ofInt (64 : Nat) y) &&& (3 : Nat)))) = (0 : Int),
      IntKind.wrap IntKind.i64 (n (3 : Nat) + (1 : Int)) = n (3 : Nat) + (1 : Int),
      (0 : Int) ≤ Int.ofNat i,
      Int.ofNat i < Int.ofNat (List.length (List.map (fun b0 => [Bo b0]) er)),
      (List.map (fun b0 => [Bo b0]) er)[i]? = some [Bo false],
      false = false,
      IntKind.wrap IntKind.i64 (Int.ofNat (i + (1 : Nat))) = Int.ofNat (i + (1 : Nat))] (by kernel_rfl)
    (by
      simp only [allP]
      and_intros <;> first
        | omega
        | with_reducible assumption
        | exact hx
        | exact hk
        | exact hp
        | exact i64_small (by omega)
        | (simp; omega)
        | (simp [hx]; done)
        | (simp [hy]; done)
        | (simp [he]; done)
        | exact i64_small (by simp; omega)
        | (rw [i64_small (by simp; omega)]; exact u64_small (by simp; omega))
        | exact u64_small (by simp; omega)
        | (simp [Sp.row, chSp, U, nm]; done)
        | (rw [Int.add_neg_one]; rw [i64_small (by simp; omega)]; simp; omega)
        | (rw [i64_small (by simp; omega)]; simp; omega)
        | (simp; done)
        | decide)

theorem chGo10t (sv : List Int) (er : List Bool) (l : List Sp) (n bad : Nat → Int) (i : Nat) (x y : Int) (h : i < sv.length) (hs : sv.length ≤ 40) (hr : sv.length ≤ er.length) (hl : l.length ≤ 1000) (hx : sv[i]? = some x) (he : er[i]? = some true) (h0 : 0 < i) (hy : sv[i - 1]? = some y) (hk : low x = 0) (hp : low y = 1) (hn : 0 ≤ n 4 ∧ n 4 ≤ 1000) (hb : 0 ≤ bad 4 ∧ bad 4 ≤ 1000) : CodeC Try.prog 0 136 chB (chS sv er l n bad i) .normal (chS sv er (l ++ [chSp i 0 true]) (upd n 4 (n 4 + 1)) (upd bad 4 (bad 4 + 1)) (i + 1)) :=
  runP hmix [.reg 8 [(3, [], some true)], .reg 10 [(3, [.row [I x]], none), (4, [.be (I 0)], none)], .reg 11 [(3, [.be (U ((i + 1 : Nat) : Int))], none), (5, [.be (U (i : Int))], none), (14, [.row [Bo true]], none), (17, [.beO ((l ++ [chSp i 0 true]).map Sp.row)], none)], .reg 12 [(1, [], some true)], .reg 13 [(2, [.be (I ((i - 1 : Nat) : Int))], none), (4, [.row [I y]], none), (5, [.be (I 1)], none)], .reg 14 [(5, [.be (I (n 4 + 1))], none)], .reg 15 [(3, [.row [Bo true]], some true)], .reg 16 [(5, [.be (I (bad 4 + 1))], none)], .reg 9 [(1, [.be (I ((i + 1 : Nat) : Int))], none)]] ⟨[0, 1, 6, 7, 8, 9, 10], [(2218000, 900), (901, 901), (902, 902)], []⟩ [
      decide (Int.ofNat i < Int.ofNat (List.length (List.map (fun n0 => [I n0]) sv))) = true,
      (0 : Int) ≤ Int.ofNat i,
      Int.ofNat i < Int.ofNat (List.length (List.map (fun n0 => [I n0]) sv)),
      (List.map (fun n0 => [I n0]) sv)[i]? = some [I x],
      IntKind.wrap IntKind.i64 (Int.ofNat ((BitVec.toNat (BitVec.ofInt (64 : Nat) x) &&& (3 : Nat)))) = (0 : Int),
      IntKind.wrap IntKind.u64 (IntKind.wrap IntKind.i64 (Int.ofNat (i + (1 : Nat)))) = Int.ofNat (i + (1 : Nat)),
      Int.ofNat (i % (18446744073709551616 : Nat)) = Int.ofNat i,
      (0 : Int) ≤ (0 : Int),
      (0 : Int) ≤ (1 : Int),
      (1 : Int) ≤ (4 : Int),
      (0 : Int) ≤ Int.ofNat i,
      Int.ofNat i < Int.ofNat (List.length (List.map (fun b0 => [Bo b0]) er)),
      (List.map (fun b0 => [Bo b0]) er)[i]? = some [Bo true],
      (List.length (List.map Sp.row l) + (1 : Nat)) * (112 : Nat) ≤ (140737488355328 : Nat),
      List.map Sp.row l ++ [[V.val (Value.int IntKind.u64 (0 : Int)), V.val (Value.int IntKind.u64 (0 : Int)), V.val (Value.int IntKind.u64 (Int.ofNat (i + (1 : Nat)))), V.val (Value.int IntKind.u64 (Int.ofNat i)), Sg { data := { toList := [(97 : UInt8)] } }, Sg { data := { toList := [(111 : UInt8)] } }, I (0 : Int), I (0 : Int), Bo true, V.sl (2 : Nat) []]] = List.map Sp.row (l ++ [{ hi := (0 : Int), lo := (0 : Int), id := Int.ofNat (i + (1 : Nat)), par := Int.ofNat i, svc := { data := { toList := [(97 : UInt8)] } }, op := { data := { toList := [(111 : UInt8)] } }, start := (0 : Int), dur := (0 : Int), err := true, attrs := [] }]),
      decide (Int.ofNat i > (0 : Int)) = true,
      IntKind.wrap IntKind.i64 (Int.ofNat i + (-1 : Int)) = Int.ofNat (i - (1 : Nat)),
      (0 : Int) ≤ Int.ofNat (i - (1 : Nat)),
      Int.ofNat (i - (1 : Nat)) < Int.ofNat (List.length (List.map (fun n0 => [I n0]) sv)),
      (List.map (fun n0 => [I n0]) sv)[i - (1 : Nat)]? = some [I y],
      IntKind.wrap IntKind.i64 (Int.ofNat ((BitVec.toNat (BitVec.ofInt (64 : Nat) y) &&& (3 : Nat)))) = (1 : Int),
      IntKind.wrap IntKind.i64 (n (4 : Nat) + (1 : Int)) = n (4 : Nat) + (1 : Int),
      (0 : Int) ≤ Int.ofNat i,
      Int.ofNat i < Int.ofNat (List.length (List.map (fun b0 => [Bo b0]) er)),
      (List.map (fun b0 => [Bo b0]) er)[i]? = some [Bo true],
      true = true,
      IntKind.wrap IntKind.i64 (bad (4 : Nat) + (1 : Int)) = bad (4 : Nat) + (1 : Int),
      IntKind.wrap IntKind.i64 (Int.ofNat (i + (1 : Nat))) = Int.ofNat (i + (1 : Nat))] (by kernel_rfl)
    (by
      simp only [allP]
      and_intros <;> first
        | omega
        | with_reducible assumption
        | exact hx
        | exact hk
        | exact hp
        | exact i64_small (by omega)
        | (simp; omega)
        | (simp [hx]; done)
        | (simp [hy]; done)
        | (simp [he]; done)
        | exact i64_small (by simp; omega)
        | (rw [i64_small (by simp; omega)]; exact u64_small (by simp; omega))
        | exact u64_small (by simp; omega)
        | (simp [Sp.row, chSp, U, nm]; done)
        | (rw [Int.add_neg_one]; rw [i64_small (by simp; omega)]; simp; omega)
        | (rw [i64_small (by simp; omega)]; simp; omega)
        | (simp; done)
        | decide)

theorem chGo10f (sv : List Int) (er : List Bool) (l : List Sp) (n bad : Nat → Int) (i : Nat) (x y : Int) (h : i < sv.length) (hs : sv.length ≤ 40) (hr : sv.length ≤ er.length) (hl : l.length ≤ 1000) (hx : sv[i]? = some x) (he : er[i]? = some false) (h0 : 0 < i) (hy : sv[i - 1]? = some y) (hk : low x = 0) (hp : low y = 1) (hn : 0 ≤ n 4 ∧ n 4 ≤ 1000) (hb : 0 ≤ bad 4 ∧ bad 4 ≤ 1000) : CodeC Try.prog 0 136 chB (chS sv er l n bad i) .normal (chS sv er (l ++ [chSp i 0 false]) (upd n 4 (n 4 + 1)) bad (i + 1)) :=
  runP hmix [.reg 8 [(3, [], some true)], .reg 10 [(3, [.row [I x]], none), (4, [.be (I 0)], none)], .reg 11 [(3, [.be (U ((i + 1 : Nat) : Int))], none), (5, [.be (U (i : Int))], none), (14, [.row [Bo false]], none), (17, [.beO ((l ++ [chSp i 0 false]).map Sp.row)], none)], .reg 12 [(1, [], some true)], .reg 13 [(2, [.be (I ((i - 1 : Nat) : Int))], none), (4, [.row [I y]], none), (5, [.be (I 1)], none)], .reg 14 [(5, [.be (I (n 4 + 1))], none)], .reg 15 [(3, [.row [Bo false]], some false)], .reg 9 [(1, [.be (I ((i + 1 : Nat) : Int))], none)]] ⟨[0, 1, 6, 7, 8, 9, 10], [(2218000, 900), (901, 901), (902, 902)], []⟩ [
      decide (Int.ofNat i < Int.ofNat (List.length (List.map (fun n0 => [I n0]) sv))) = true,
      (0 : Int) ≤ Int.ofNat i,
      Int.ofNat i < Int.ofNat (List.length (List.map (fun n0 => [I n0]) sv)),
      (List.map (fun n0 => [I n0]) sv)[i]? = some [I x],
      IntKind.wrap IntKind.i64 (Int.ofNat ((BitVec.toNat (BitVec.ofInt (64 : Nat) x) &&& (3 : Nat)))) = (0 : Int),
      IntKind.wrap IntKind.u64 (IntKind.wrap IntKind.i64 (Int.ofNat (i + (1 : Nat)))) = Int.ofNat (i + (1 : Nat)),
      Int.ofNat (i % (18446744073709551616 : Nat)) = Int.ofNat i,
      (0 : Int) ≤ (0 : Int),
      (0 : Int) ≤ (1 : Int),
      (1 : Int) ≤ (4 : Int),
      (0 : Int) ≤ Int.ofNat i,
      Int.ofNat i < Int.ofNat (List.length (List.map (fun b0 => [Bo b0]) er)),
      (List.map (fun b0 => [Bo b0]) er)[i]? = some [Bo false],
      (List.length (List.map Sp.row l) + (1 : Nat)) * (112 : Nat) ≤ (140737488355328 : Nat),
      List.map Sp.row l ++ [[V.val (Value.int IntKind.u64 (0 : Int)), V.val (Value.int IntKind.u64 (0 : Int)), V.val (Value.int IntKind.u64 (Int.ofNat (i + (1 : Nat)))), V.val (Value.int IntKind.u64 (Int.ofNat i)), Sg { data := { toList := [(97 : UInt8)] } }, Sg { data := { toList := [(111 : UInt8)] } }, I (0 : Int), I (0 : Int), Bo false, V.sl (2 : Nat) []]] = List.map Sp.row (l ++ [{ hi := (0 : Int), lo := (0 : Int), id := Int.ofNat (i + (1 : Nat)), par := Int.ofNat i, svc := { data := { toList := [(97 : UInt8)] } }, op := { data := { toList := [(111 : UInt8)] } }, start := (0 : Int), dur := (0 : Int), err := false, attrs := [] }]),
      decide (Int.ofNat i > (0 : Int)) = true,
      IntKind.wrap IntKind.i64 (Int.ofNat i + (-1 : Int)) = Int.ofNat (i - (1 : Nat)),
      (0 : Int) ≤ Int.ofNat (i - (1 : Nat)),
      Int.ofNat (i - (1 : Nat)) < Int.ofNat (List.length (List.map (fun n0 => [I n0]) sv)),
      (List.map (fun n0 => [I n0]) sv)[i - (1 : Nat)]? = some [I y],
      IntKind.wrap IntKind.i64 (Int.ofNat ((BitVec.toNat (BitVec.ofInt (64 : Nat) y) &&& (3 : Nat)))) = (1 : Int),
      IntKind.wrap IntKind.i64 (n (4 : Nat) + (1 : Int)) = n (4 : Nat) + (1 : Int),
      (0 : Int) ≤ Int.ofNat i,
      Int.ofNat i < Int.ofNat (List.length (List.map (fun b0 => [Bo b0]) er)),
      (List.map (fun b0 => [Bo b0]) er)[i]? = some [Bo false],
      false = false,
      IntKind.wrap IntKind.i64 (Int.ofNat (i + (1 : Nat))) = Int.ofNat (i + (1 : Nat))] (by kernel_rfl)
    (by
      simp only [allP]
      and_intros <;> first
        | omega
        | with_reducible assumption
        | exact hx
        | exact hk
        | exact hp
        | exact i64_small (by omega)
        | (simp; omega)
        | (simp [hx]; done)
        | (simp [hy]; done)
        | (simp [he]; done)
        | exact i64_small (by simp; omega)
        | (rw [i64_small (by simp; omega)]; exact u64_small (by simp; omega))
        | exact u64_small (by simp; omega)
        | (simp [Sp.row, chSp, U, nm]; done)
        | (rw [Int.add_neg_one]; rw [i64_small (by simp; omega)]; simp; omega)
        | (rw [i64_small (by simp; omega)]; simp; omega)
        | (simp; done)
        | decide)

theorem chGo11t (sv : List Int) (er : List Bool) (l : List Sp) (n bad : Nat → Int) (i : Nat) (x y : Int) (h : i < sv.length) (hs : sv.length ≤ 40) (hr : sv.length ≤ er.length) (hl : l.length ≤ 1000) (hx : sv[i]? = some x) (he : er[i]? = some true) (h0 : 0 < i) (hy : sv[i - 1]? = some y) (hk : low x = 1) (hp : low y = 1) (hn : 0 ≤ n 5 ∧ n 5 ≤ 1000) (hb : 0 ≤ bad 5 ∧ bad 5 ≤ 1000) : CodeC Try.prog 0 136 chB (chS sv er l n bad i) .normal (chS sv er (l ++ [chSp i 1 true]) (upd n 5 (n 5 + 1)) (upd bad 5 (bad 5 + 1)) (i + 1)) :=
  runP hmix [.reg 8 [(3, [], some true)], .reg 10 [(3, [.row [I x]], none), (4, [.be (I 1)], none)], .reg 11 [(3, [.be (U ((i + 1 : Nat) : Int))], none), (5, [.be (U (i : Int))], none), (14, [.row [Bo true]], none), (17, [.beO ((l ++ [chSp i 1 true]).map Sp.row)], none)], .reg 12 [(1, [], some true)], .reg 13 [(2, [.be (I ((i - 1 : Nat) : Int))], none), (4, [.row [I y]], none), (5, [.be (I 1)], none)], .reg 14 [(5, [.be (I (n 5 + 1))], none)], .reg 15 [(3, [.row [Bo true]], some true)], .reg 16 [(5, [.be (I (bad 5 + 1))], none)], .reg 9 [(1, [.be (I ((i + 1 : Nat) : Int))], none)]] ⟨[0, 1, 6, 7, 8, 9, 10], [(2218000, 900), (901, 901), (902, 902)], []⟩ [
      decide (Int.ofNat i < Int.ofNat (List.length (List.map (fun n0 => [I n0]) sv))) = true,
      (0 : Int) ≤ Int.ofNat i,
      Int.ofNat i < Int.ofNat (List.length (List.map (fun n0 => [I n0]) sv)),
      (List.map (fun n0 => [I n0]) sv)[i]? = some [I x],
      IntKind.wrap IntKind.i64 (Int.ofNat ((BitVec.toNat (BitVec.ofInt (64 : Nat) x) &&& (3 : Nat)))) = (1 : Int),
      IntKind.wrap IntKind.u64 (IntKind.wrap IntKind.i64 (Int.ofNat (i + (1 : Nat)))) = Int.ofNat (i + (1 : Nat)),
      Int.ofNat (i % (18446744073709551616 : Nat)) = Int.ofNat i,
      (0 : Int) ≤ (1 : Int),
      (1 : Int) ≤ (2 : Int),
      (2 : Int) ≤ (4 : Int),
      (0 : Int) ≤ Int.ofNat i,
      Int.ofNat i < Int.ofNat (List.length (List.map (fun b0 => [Bo b0]) er)),
      (List.map (fun b0 => [Bo b0]) er)[i]? = some [Bo true],
      (List.length (List.map Sp.row l) + (1 : Nat)) * (112 : Nat) ≤ (140737488355328 : Nat),
      List.map Sp.row l ++ [[V.val (Value.int IntKind.u64 (0 : Int)), V.val (Value.int IntKind.u64 (0 : Int)), V.val (Value.int IntKind.u64 (Int.ofNat (i + (1 : Nat)))), V.val (Value.int IntKind.u64 (Int.ofNat i)), Sg { data := { toList := [(98 : UInt8)] } }, Sg { data := { toList := [(111 : UInt8)] } }, I (0 : Int), I (0 : Int), Bo true, V.sl (2 : Nat) []]] = List.map Sp.row (l ++ [{ hi := (0 : Int), lo := (0 : Int), id := Int.ofNat (i + (1 : Nat)), par := Int.ofNat i, svc := { data := { toList := [(98 : UInt8)] } }, op := { data := { toList := [(111 : UInt8)] } }, start := (0 : Int), dur := (0 : Int), err := true, attrs := [] }]),
      decide (Int.ofNat i > (0 : Int)) = true,
      IntKind.wrap IntKind.i64 (Int.ofNat i + (-1 : Int)) = Int.ofNat (i - (1 : Nat)),
      (0 : Int) ≤ Int.ofNat (i - (1 : Nat)),
      Int.ofNat (i - (1 : Nat)) < Int.ofNat (List.length (List.map (fun n0 => [I n0]) sv)),
      (List.map (fun n0 => [I n0]) sv)[i - (1 : Nat)]? = some [I y],
      IntKind.wrap IntKind.i64 (Int.ofNat ((BitVec.toNat (BitVec.ofInt (64 : Nat) y) &&& (3 : Nat)))) = (1 : Int),
      IntKind.wrap IntKind.i64 (n (5 : Nat) + (1 : Int)) = n (5 : Nat) + (1 : Int),
      (0 : Int) ≤ Int.ofNat i,
      Int.ofNat i < Int.ofNat (List.length (List.map (fun b0 => [Bo b0]) er)),
      (List.map (fun b0 => [Bo b0]) er)[i]? = some [Bo true],
      true = true,
      IntKind.wrap IntKind.i64 (bad (5 : Nat) + (1 : Int)) = bad (5 : Nat) + (1 : Int),
      IntKind.wrap IntKind.i64 (Int.ofNat (i + (1 : Nat))) = Int.ofNat (i + (1 : Nat))] (by kernel_rfl)
    (by
      simp only [allP]
      and_intros <;> first
        | omega
        | with_reducible assumption
        | exact hx
        | exact hk
        | exact hp
        | exact i64_small (by omega)
        | (simp; omega)
        | (simp [hx]; done)
        | (simp [hy]; done)
        | (simp [he]; done)
        | exact i64_small (by simp; omega)
        | (rw [i64_small (by simp; omega)]; exact u64_small (by simp; omega))
        | exact u64_small (by simp; omega)
        | (simp [Sp.row, chSp, U, nm]; done)
        | (rw [Int.add_neg_one]; rw [i64_small (by simp; omega)]; simp; omega)
        | (rw [i64_small (by simp; omega)]; simp; omega)
        | (simp; done)
        | decide)

theorem chGo11f (sv : List Int) (er : List Bool) (l : List Sp) (n bad : Nat → Int) (i : Nat) (x y : Int) (h : i < sv.length) (hs : sv.length ≤ 40) (hr : sv.length ≤ er.length) (hl : l.length ≤ 1000) (hx : sv[i]? = some x) (he : er[i]? = some false) (h0 : 0 < i) (hy : sv[i - 1]? = some y) (hk : low x = 1) (hp : low y = 1) (hn : 0 ≤ n 5 ∧ n 5 ≤ 1000) (hb : 0 ≤ bad 5 ∧ bad 5 ≤ 1000) : CodeC Try.prog 0 136 chB (chS sv er l n bad i) .normal (chS sv er (l ++ [chSp i 1 false]) (upd n 5 (n 5 + 1)) bad (i + 1)) :=
  runP hmix [.reg 8 [(3, [], some true)], .reg 10 [(3, [.row [I x]], none), (4, [.be (I 1)], none)], .reg 11 [(3, [.be (U ((i + 1 : Nat) : Int))], none), (5, [.be (U (i : Int))], none), (14, [.row [Bo false]], none), (17, [.beO ((l ++ [chSp i 1 false]).map Sp.row)], none)], .reg 12 [(1, [], some true)], .reg 13 [(2, [.be (I ((i - 1 : Nat) : Int))], none), (4, [.row [I y]], none), (5, [.be (I 1)], none)], .reg 14 [(5, [.be (I (n 5 + 1))], none)], .reg 15 [(3, [.row [Bo false]], some false)], .reg 9 [(1, [.be (I ((i + 1 : Nat) : Int))], none)]] ⟨[0, 1, 6, 7, 8, 9, 10], [(2218000, 900), (901, 901), (902, 902)], []⟩ [
      decide (Int.ofNat i < Int.ofNat (List.length (List.map (fun n0 => [I n0]) sv))) = true,
      (0 : Int) ≤ Int.ofNat i,
      Int.ofNat i < Int.ofNat (List.length (List.map (fun n0 => [I n0]) sv)),
      (List.map (fun n0 => [I n0]) sv)[i]? = some [I x],
      IntKind.wrap IntKind.i64 (Int.ofNat ((BitVec.toNat (BitVec.ofInt (64 : Nat) x) &&& (3 : Nat)))) = (1 : Int),
      IntKind.wrap IntKind.u64 (IntKind.wrap IntKind.i64 (Int.ofNat (i + (1 : Nat)))) = Int.ofNat (i + (1 : Nat)),
      Int.ofNat (i % (18446744073709551616 : Nat)) = Int.ofNat i,
      (0 : Int) ≤ (1 : Int),
      (1 : Int) ≤ (2 : Int),
      (2 : Int) ≤ (4 : Int),
      (0 : Int) ≤ Int.ofNat i,
      Int.ofNat i < Int.ofNat (List.length (List.map (fun b0 => [Bo b0]) er)),
      (List.map (fun b0 => [Bo b0]) er)[i]? = some [Bo false],
      (List.length (List.map Sp.row l) + (1 : Nat)) * (112 : Nat) ≤ (140737488355328 : Nat),
      List.map Sp.row l ++ [[V.val (Value.int IntKind.u64 (0 : Int)), V.val (Value.int IntKind.u64 (0 : Int)), V.val (Value.int IntKind.u64 (Int.ofNat (i + (1 : Nat)))), V.val (Value.int IntKind.u64 (Int.ofNat i)), Sg { data := { toList := [(98 : UInt8)] } }, Sg { data := { toList := [(111 : UInt8)] } }, I (0 : Int), I (0 : Int), Bo false, V.sl (2 : Nat) []]] = List.map Sp.row (l ++ [{ hi := (0 : Int), lo := (0 : Int), id := Int.ofNat (i + (1 : Nat)), par := Int.ofNat i, svc := { data := { toList := [(98 : UInt8)] } }, op := { data := { toList := [(111 : UInt8)] } }, start := (0 : Int), dur := (0 : Int), err := false, attrs := [] }]),
      decide (Int.ofNat i > (0 : Int)) = true,
      IntKind.wrap IntKind.i64 (Int.ofNat i + (-1 : Int)) = Int.ofNat (i - (1 : Nat)),
      (0 : Int) ≤ Int.ofNat (i - (1 : Nat)),
      Int.ofNat (i - (1 : Nat)) < Int.ofNat (List.length (List.map (fun n0 => [I n0]) sv)),
      (List.map (fun n0 => [I n0]) sv)[i - (1 : Nat)]? = some [I y],
      IntKind.wrap IntKind.i64 (Int.ofNat ((BitVec.toNat (BitVec.ofInt (64 : Nat) y) &&& (3 : Nat)))) = (1 : Int),
      IntKind.wrap IntKind.i64 (n (5 : Nat) + (1 : Int)) = n (5 : Nat) + (1 : Int),
      (0 : Int) ≤ Int.ofNat i,
      Int.ofNat i < Int.ofNat (List.length (List.map (fun b0 => [Bo b0]) er)),
      (List.map (fun b0 => [Bo b0]) er)[i]? = some [Bo false],
      false = false,
      IntKind.wrap IntKind.i64 (Int.ofNat (i + (1 : Nat))) = Int.ofNat (i + (1 : Nat))] (by kernel_rfl)
    (by
      simp only [allP]
      and_intros <;> first
        | omega
        | with_reducible assumption
        | exact hx
        | exact hk
        | exact hp
        | exact i64_small (by omega)
        | (simp; omega)
        | (simp [hx]; done)
        | (simp [hy]; done)
        | (simp [he]; done)
        | exact i64_small (by simp; omega)
        | (rw [i64_small (by simp; omega)]; exact u64_small (by simp; omega))
        | exact u64_small (by simp; omega)
        | (simp [Sp.row, chSp, U, nm]; done)
        | (rw [Int.add_neg_one]; rw [i64_small (by simp; omega)]; simp; omega)
        | (rw [i64_small (by simp; omega)]; simp; omega)
        | (simp; done)
        | decide)

theorem chGo12t (sv : List Int) (er : List Bool) (l : List Sp) (n bad : Nat → Int) (i : Nat) (x y : Int) (h : i < sv.length) (hs : sv.length ≤ 40) (hr : sv.length ≤ er.length) (hl : l.length ≤ 1000) (hx : sv[i]? = some x) (he : er[i]? = some true) (h0 : 0 < i) (hy : sv[i - 1]? = some y) (hk : low x = 2) (hp : low y = 1) (hn : 0 ≤ n 6 ∧ n 6 ≤ 1000) (hb : 0 ≤ bad 6 ∧ bad 6 ≤ 1000) : CodeC Try.prog 0 136 chB (chS sv er l n bad i) .normal (chS sv er (l ++ [chSp i 2 true]) (upd n 6 (n 6 + 1)) (upd bad 6 (bad 6 + 1)) (i + 1)) :=
  runP hmix [.reg 8 [(3, [], some true)], .reg 10 [(3, [.row [I x]], none), (4, [.be (I 2)], none)], .reg 11 [(3, [.be (U ((i + 1 : Nat) : Int))], none), (5, [.be (U (i : Int))], none), (14, [.row [Bo true]], none), (17, [.beO ((l ++ [chSp i 2 true]).map Sp.row)], none)], .reg 12 [(1, [], some true)], .reg 13 [(2, [.be (I ((i - 1 : Nat) : Int))], none), (4, [.row [I y]], none), (5, [.be (I 1)], none)], .reg 14 [(5, [.be (I (n 6 + 1))], none)], .reg 15 [(3, [.row [Bo true]], some true)], .reg 16 [(5, [.be (I (bad 6 + 1))], none)], .reg 9 [(1, [.be (I ((i + 1 : Nat) : Int))], none)]] ⟨[0, 1, 6, 7, 8, 9, 10], [(2218000, 900), (901, 901), (902, 902)], []⟩ [
      decide (Int.ofNat i < Int.ofNat (List.length (List.map (fun n0 => [I n0]) sv))) = true,
      (0 : Int) ≤ Int.ofNat i,
      Int.ofNat i < Int.ofNat (List.length (List.map (fun n0 => [I n0]) sv)),
      (List.map (fun n0 => [I n0]) sv)[i]? = some [I x],
      IntKind.wrap IntKind.i64 (Int.ofNat ((BitVec.toNat (BitVec.ofInt (64 : Nat) x) &&& (3 : Nat)))) = (2 : Int),
      IntKind.wrap IntKind.u64 (IntKind.wrap IntKind.i64 (Int.ofNat (i + (1 : Nat)))) = Int.ofNat (i + (1 : Nat)),
      Int.ofNat (i % (18446744073709551616 : Nat)) = Int.ofNat i,
      (0 : Int) ≤ (2 : Int),
      (2 : Int) ≤ (3 : Int),
      (3 : Int) ≤ (4 : Int),
      (0 : Int) ≤ Int.ofNat i,
      Int.ofNat i < Int.ofNat (List.length (List.map (fun b0 => [Bo b0]) er)),
      (List.map (fun b0 => [Bo b0]) er)[i]? = some [Bo true],
      (List.length (List.map Sp.row l) + (1 : Nat)) * (112 : Nat) ≤ (140737488355328 : Nat),
      List.map Sp.row l ++ [[V.val (Value.int IntKind.u64 (0 : Int)), V.val (Value.int IntKind.u64 (0 : Int)), V.val (Value.int IntKind.u64 (Int.ofNat (i + (1 : Nat)))), V.val (Value.int IntKind.u64 (Int.ofNat i)), Sg { data := { toList := [(99 : UInt8)] } }, Sg { data := { toList := [(111 : UInt8)] } }, I (0 : Int), I (0 : Int), Bo true, V.sl (2 : Nat) []]] = List.map Sp.row (l ++ [{ hi := (0 : Int), lo := (0 : Int), id := Int.ofNat (i + (1 : Nat)), par := Int.ofNat i, svc := { data := { toList := [(99 : UInt8)] } }, op := { data := { toList := [(111 : UInt8)] } }, start := (0 : Int), dur := (0 : Int), err := true, attrs := [] }]),
      decide (Int.ofNat i > (0 : Int)) = true,
      IntKind.wrap IntKind.i64 (Int.ofNat i + (-1 : Int)) = Int.ofNat (i - (1 : Nat)),
      (0 : Int) ≤ Int.ofNat (i - (1 : Nat)),
      Int.ofNat (i - (1 : Nat)) < Int.ofNat (List.length (List.map (fun n0 => [I n0]) sv)),
      (List.map (fun n0 => [I n0]) sv)[i - (1 : Nat)]? = some [I y],
      IntKind.wrap IntKind.i64 (Int.ofNat ((BitVec.toNat (BitVec.ofInt (64 : Nat) y) &&& (3 : Nat)))) = (1 : Int),
      IntKind.wrap IntKind.i64 (n (6 : Nat) + (1 : Int)) = n (6 : Nat) + (1 : Int),
      (0 : Int) ≤ Int.ofNat i,
      Int.ofNat i < Int.ofNat (List.length (List.map (fun b0 => [Bo b0]) er)),
      (List.map (fun b0 => [Bo b0]) er)[i]? = some [Bo true],
      true = true,
      IntKind.wrap IntKind.i64 (bad (6 : Nat) + (1 : Int)) = bad (6 : Nat) + (1 : Int),
      IntKind.wrap IntKind.i64 (Int.ofNat (i + (1 : Nat))) = Int.ofNat (i + (1 : Nat))] (by kernel_rfl)
    (by
      simp only [allP]
      and_intros <;> first
        | omega
        | with_reducible assumption
        | exact hx
        | exact hk
        | exact hp
        | exact i64_small (by omega)
        | (simp; omega)
        | (simp [hx]; done)
        | (simp [hy]; done)
        | (simp [he]; done)
        | exact i64_small (by simp; omega)
        | (rw [i64_small (by simp; omega)]; exact u64_small (by simp; omega))
        | exact u64_small (by simp; omega)
        | (simp [Sp.row, chSp, U, nm]; done)
        | (rw [Int.add_neg_one]; rw [i64_small (by simp; omega)]; simp; omega)
        | (rw [i64_small (by simp; omega)]; simp; omega)
        | (simp; done)
        | decide)

theorem chGo12f (sv : List Int) (er : List Bool) (l : List Sp) (n bad : Nat → Int) (i : Nat) (x y : Int) (h : i < sv.length) (hs : sv.length ≤ 40) (hr : sv.length ≤ er.length) (hl : l.length ≤ 1000) (hx : sv[i]? = some x) (he : er[i]? = some false) (h0 : 0 < i) (hy : sv[i - 1]? = some y) (hk : low x = 2) (hp : low y = 1) (hn : 0 ≤ n 6 ∧ n 6 ≤ 1000) (hb : 0 ≤ bad 6 ∧ bad 6 ≤ 1000) : CodeC Try.prog 0 136 chB (chS sv er l n bad i) .normal (chS sv er (l ++ [chSp i 2 false]) (upd n 6 (n 6 + 1)) bad (i + 1)) :=
  runP hmix [.reg 8 [(3, [], some true)], .reg 10 [(3, [.row [I x]], none), (4, [.be (I 2)], none)], .reg 11 [(3, [.be (U ((i + 1 : Nat) : Int))], none), (5, [.be (U (i : Int))], none), (14, [.row [Bo false]], none), (17, [.beO ((l ++ [chSp i 2 false]).map Sp.row)], none)], .reg 12 [(1, [], some true)], .reg 13 [(2, [.be (I ((i - 1 : Nat) : Int))], none), (4, [.row [I y]], none), (5, [.be (I 1)], none)], .reg 14 [(5, [.be (I (n 6 + 1))], none)], .reg 15 [(3, [.row [Bo false]], some false)], .reg 9 [(1, [.be (I ((i + 1 : Nat) : Int))], none)]] ⟨[0, 1, 6, 7, 8, 9, 10], [(2218000, 900), (901, 901), (902, 902)], []⟩ [
      decide (Int.ofNat i < Int.ofNat (List.length (List.map (fun n0 => [I n0]) sv))) = true,
      (0 : Int) ≤ Int.ofNat i,
      Int.ofNat i < Int.ofNat (List.length (List.map (fun n0 => [I n0]) sv)),
      (List.map (fun n0 => [I n0]) sv)[i]? = some [I x],
      IntKind.wrap IntKind.i64 (Int.ofNat ((BitVec.toNat (BitVec.ofInt (64 : Nat) x) &&& (3 : Nat)))) = (2 : Int),
      IntKind.wrap IntKind.u64 (IntKind.wrap IntKind.i64 (Int.ofNat (i + (1 : Nat)))) = Int.ofNat (i + (1 : Nat)),
      Int.ofNat (i % (18446744073709551616 : Nat)) = Int.ofNat i,
      (0 : Int) ≤ (2 : Int),
      (2 : Int) ≤ (3 : Int),
      (3 : Int) ≤ (4 : Int),
      (0 : Int) ≤ Int.ofNat i,
      Int.ofNat i < Int.ofNat (List.length (List.map (fun b0 => [Bo b0]) er)),
      (List.map (fun b0 => [Bo b0]) er)[i]? = some [Bo false],
      (List.length (List.map Sp.row l) + (1 : Nat)) * (112 : Nat) ≤ (140737488355328 : Nat),
      List.map Sp.row l ++ [[V.val (Value.int IntKind.u64 (0 : Int)), V.val (Value.int IntKind.u64 (0 : Int)), V.val (Value.int IntKind.u64 (Int.ofNat (i + (1 : Nat)))), V.val (Value.int IntKind.u64 (Int.ofNat i)), Sg { data := { toList := [(99 : UInt8)] } }, Sg { data := { toList := [(111 : UInt8)] } }, I (0 : Int), I (0 : Int), Bo false, V.sl (2 : Nat) []]] = List.map Sp.row (l ++ [{ hi := (0 : Int), lo := (0 : Int), id := Int.ofNat (i + (1 : Nat)), par := Int.ofNat i, svc := { data := { toList := [(99 : UInt8)] } }, op := { data := { toList := [(111 : UInt8)] } }, start := (0 : Int), dur := (0 : Int), err := false, attrs := [] }]),
      decide (Int.ofNat i > (0 : Int)) = true,
      IntKind.wrap IntKind.i64 (Int.ofNat i + (-1 : Int)) = Int.ofNat (i - (1 : Nat)),
      (0 : Int) ≤ Int.ofNat (i - (1 : Nat)),
      Int.ofNat (i - (1 : Nat)) < Int.ofNat (List.length (List.map (fun n0 => [I n0]) sv)),
      (List.map (fun n0 => [I n0]) sv)[i - (1 : Nat)]? = some [I y],
      IntKind.wrap IntKind.i64 (Int.ofNat ((BitVec.toNat (BitVec.ofInt (64 : Nat) y) &&& (3 : Nat)))) = (1 : Int),
      IntKind.wrap IntKind.i64 (n (6 : Nat) + (1 : Int)) = n (6 : Nat) + (1 : Int),
      (0 : Int) ≤ Int.ofNat i,
      Int.ofNat i < Int.ofNat (List.length (List.map (fun b0 => [Bo b0]) er)),
      (List.map (fun b0 => [Bo b0]) er)[i]? = some [Bo false],
      false = false,
      IntKind.wrap IntKind.i64 (Int.ofNat (i + (1 : Nat))) = Int.ofNat (i + (1 : Nat))] (by kernel_rfl)
    (by
      simp only [allP]
      and_intros <;> first
        | omega
        | with_reducible assumption
        | exact hx
        | exact hk
        | exact hp
        | exact i64_small (by omega)
        | (simp; omega)
        | (simp [hx]; done)
        | (simp [hy]; done)
        | (simp [he]; done)
        | exact i64_small (by simp; omega)
        | (rw [i64_small (by simp; omega)]; exact u64_small (by simp; omega))
        | exact u64_small (by simp; omega)
        | (simp [Sp.row, chSp, U, nm]; done)
        | (rw [Int.add_neg_one]; rw [i64_small (by simp; omega)]; simp; omega)
        | (rw [i64_small (by simp; omega)]; simp; omega)
        | (simp; done)
        | decide)

theorem chGo13t (sv : List Int) (er : List Bool) (l : List Sp) (n bad : Nat → Int) (i : Nat) (x y : Int) (h : i < sv.length) (hs : sv.length ≤ 40) (hr : sv.length ≤ er.length) (hl : l.length ≤ 1000) (hx : sv[i]? = some x) (he : er[i]? = some true) (h0 : 0 < i) (hy : sv[i - 1]? = some y) (hk : low x = 3) (hp : low y = 1) (hn : 0 ≤ n 7 ∧ n 7 ≤ 1000) (hb : 0 ≤ bad 7 ∧ bad 7 ≤ 1000) : CodeC Try.prog 0 136 chB (chS sv er l n bad i) .normal (chS sv er (l ++ [chSp i 3 true]) (upd n 7 (n 7 + 1)) (upd bad 7 (bad 7 + 1)) (i + 1)) :=
  runP hmix [.reg 8 [(3, [], some true)], .reg 10 [(3, [.row [I x]], none), (4, [.be (I 3)], none)], .reg 11 [(3, [.be (U ((i + 1 : Nat) : Int))], none), (5, [.be (U (i : Int))], none), (14, [.row [Bo true]], none), (17, [.beO ((l ++ [chSp i 3 true]).map Sp.row)], none)], .reg 12 [(1, [], some true)], .reg 13 [(2, [.be (I ((i - 1 : Nat) : Int))], none), (4, [.row [I y]], none), (5, [.be (I 1)], none)], .reg 14 [(5, [.be (I (n 7 + 1))], none)], .reg 15 [(3, [.row [Bo true]], some true)], .reg 16 [(5, [.be (I (bad 7 + 1))], none)], .reg 9 [(1, [.be (I ((i + 1 : Nat) : Int))], none)]] ⟨[0, 1, 6, 7, 8, 9, 10], [(2218000, 900), (901, 901), (902, 902)], []⟩ [
      decide (Int.ofNat i < Int.ofNat (List.length (List.map (fun n0 => [I n0]) sv))) = true,
      (0 : Int) ≤ Int.ofNat i,
      Int.ofNat i < Int.ofNat (List.length (List.map (fun n0 => [I n0]) sv)),
      (List.map (fun n0 => [I n0]) sv)[i]? = some [I x],
      IntKind.wrap IntKind.i64 (Int.ofNat ((BitVec.toNat (BitVec.ofInt (64 : Nat) x) &&& (3 : Nat)))) = (3 : Int),
      IntKind.wrap IntKind.u64 (IntKind.wrap IntKind.i64 (Int.ofNat (i + (1 : Nat)))) = Int.ofNat (i + (1 : Nat)),
      Int.ofNat (i % (18446744073709551616 : Nat)) = Int.ofNat i,
      (0 : Int) ≤ (3 : Int),
      (3 : Int) ≤ (4 : Int),
      (4 : Int) ≤ (4 : Int),
      (0 : Int) ≤ Int.ofNat i,
      Int.ofNat i < Int.ofNat (List.length (List.map (fun b0 => [Bo b0]) er)),
      (List.map (fun b0 => [Bo b0]) er)[i]? = some [Bo true],
      (List.length (List.map Sp.row l) + (1 : Nat)) * (112 : Nat) ≤ (140737488355328 : Nat),
      List.map Sp.row l ++ [[V.val (Value.int IntKind.u64 (0 : Int)), V.val (Value.int IntKind.u64 (0 : Int)), V.val (Value.int IntKind.u64 (Int.ofNat (i + (1 : Nat)))), V.val (Value.int IntKind.u64 (Int.ofNat i)), Sg { data := { toList := [(100 : UInt8)] } }, Sg { data := { toList := [(111 : UInt8)] } }, I (0 : Int), I (0 : Int), Bo true, V.sl (2 : Nat) []]] = List.map Sp.row (l ++ [{ hi := (0 : Int), lo := (0 : Int), id := Int.ofNat (i + (1 : Nat)), par := Int.ofNat i, svc := { data := { toList := [(100 : UInt8)] } }, op := { data := { toList := [(111 : UInt8)] } }, start := (0 : Int), dur := (0 : Int), err := true, attrs := [] }]),
      decide (Int.ofNat i > (0 : Int)) = true,
      IntKind.wrap IntKind.i64 (Int.ofNat i + (-1 : Int)) = Int.ofNat (i - (1 : Nat)),
      (0 : Int) ≤ Int.ofNat (i - (1 : Nat)),
      Int.ofNat (i - (1 : Nat)) < Int.ofNat (List.length (List.map (fun n0 => [I n0]) sv)),
      (List.map (fun n0 => [I n0]) sv)[i - (1 : Nat)]? = some [I y],
      IntKind.wrap IntKind.i64 (Int.ofNat ((BitVec.toNat (BitVec.ofInt (64 : Nat) y) &&& (3 : Nat)))) = (1 : Int),
      IntKind.wrap IntKind.i64 (n (7 : Nat) + (1 : Int)) = n (7 : Nat) + (1 : Int),
      (0 : Int) ≤ Int.ofNat i,
      Int.ofNat i < Int.ofNat (List.length (List.map (fun b0 => [Bo b0]) er)),
      (List.map (fun b0 => [Bo b0]) er)[i]? = some [Bo true],
      true = true,
      IntKind.wrap IntKind.i64 (bad (7 : Nat) + (1 : Int)) = bad (7 : Nat) + (1 : Int),
      IntKind.wrap IntKind.i64 (Int.ofNat (i + (1 : Nat))) = Int.ofNat (i + (1 : Nat))] (by kernel_rfl)
    (by
      simp only [allP]
      and_intros <;> first
        | omega
        | with_reducible assumption
        | exact hx
        | exact hk
        | exact hp
        | exact i64_small (by omega)
        | (simp; omega)
        | (simp [hx]; done)
        | (simp [hy]; done)
        | (simp [he]; done)
        | exact i64_small (by simp; omega)
        | (rw [i64_small (by simp; omega)]; exact u64_small (by simp; omega))
        | exact u64_small (by simp; omega)
        | (simp [Sp.row, chSp, U, nm]; done)
        | (rw [Int.add_neg_one]; rw [i64_small (by simp; omega)]; simp; omega)
        | (rw [i64_small (by simp; omega)]; simp; omega)
        | (simp; done)
        | decide)

theorem chGo13f (sv : List Int) (er : List Bool) (l : List Sp) (n bad : Nat → Int) (i : Nat) (x y : Int) (h : i < sv.length) (hs : sv.length ≤ 40) (hr : sv.length ≤ er.length) (hl : l.length ≤ 1000) (hx : sv[i]? = some x) (he : er[i]? = some false) (h0 : 0 < i) (hy : sv[i - 1]? = some y) (hk : low x = 3) (hp : low y = 1) (hn : 0 ≤ n 7 ∧ n 7 ≤ 1000) (hb : 0 ≤ bad 7 ∧ bad 7 ≤ 1000) : CodeC Try.prog 0 136 chB (chS sv er l n bad i) .normal (chS sv er (l ++ [chSp i 3 false]) (upd n 7 (n 7 + 1)) bad (i + 1)) :=
  runP hmix [.reg 8 [(3, [], some true)], .reg 10 [(3, [.row [I x]], none), (4, [.be (I 3)], none)], .reg 11 [(3, [.be (U ((i + 1 : Nat) : Int))], none), (5, [.be (U (i : Int))], none), (14, [.row [Bo false]], none), (17, [.beO ((l ++ [chSp i 3 false]).map Sp.row)], none)], .reg 12 [(1, [], some true)], .reg 13 [(2, [.be (I ((i - 1 : Nat) : Int))], none), (4, [.row [I y]], none), (5, [.be (I 1)], none)], .reg 14 [(5, [.be (I (n 7 + 1))], none)], .reg 15 [(3, [.row [Bo false]], some false)], .reg 9 [(1, [.be (I ((i + 1 : Nat) : Int))], none)]] ⟨[0, 1, 6, 7, 8, 9, 10], [(2218000, 900), (901, 901), (902, 902)], []⟩ [
      decide (Int.ofNat i < Int.ofNat (List.length (List.map (fun n0 => [I n0]) sv))) = true,
      (0 : Int) ≤ Int.ofNat i,
      Int.ofNat i < Int.ofNat (List.length (List.map (fun n0 => [I n0]) sv)),
      (List.map (fun n0 => [I n0]) sv)[i]? = some [I x],
      IntKind.wrap IntKind.i64 (Int.ofNat ((BitVec.toNat (BitVec.ofInt (64 : Nat) x) &&& (3 : Nat)))) = (3 : Int),
      IntKind.wrap IntKind.u64 (IntKind.wrap IntKind.i64 (Int.ofNat (i + (1 : Nat)))) = Int.ofNat (i + (1 : Nat)),
      Int.ofNat (i % (18446744073709551616 : Nat)) = Int.ofNat i,
      (0 : Int) ≤ (3 : Int),
      (3 : Int) ≤ (4 : Int),
      (4 : Int) ≤ (4 : Int),
      (0 : Int) ≤ Int.ofNat i,
      Int.ofNat i < Int.ofNat (List.length (List.map (fun b0 => [Bo b0]) er)),
      (List.map (fun b0 => [Bo b0]) er)[i]? = some [Bo false],
      (List.length (List.map Sp.row l) + (1 : Nat)) * (112 : Nat) ≤ (140737488355328 : Nat),
      List.map Sp.row l ++ [[V.val (Value.int IntKind.u64 (0 : Int)), V.val (Value.int IntKind.u64 (0 : Int)), V.val (Value.int IntKind.u64 (Int.ofNat (i + (1 : Nat)))), V.val (Value.int IntKind.u64 (Int.ofNat i)), Sg { data := { toList := [(100 : UInt8)] } }, Sg { data := { toList := [(111 : UInt8)] } }, I (0 : Int), I (0 : Int), Bo false, V.sl (2 : Nat) []]] = List.map Sp.row (l ++ [{ hi := (0 : Int), lo := (0 : Int), id := Int.ofNat (i + (1 : Nat)), par := Int.ofNat i, svc := { data := { toList := [(100 : UInt8)] } }, op := { data := { toList := [(111 : UInt8)] } }, start := (0 : Int), dur := (0 : Int), err := false, attrs := [] }]),
      decide (Int.ofNat i > (0 : Int)) = true,
      IntKind.wrap IntKind.i64 (Int.ofNat i + (-1 : Int)) = Int.ofNat (i - (1 : Nat)),
      (0 : Int) ≤ Int.ofNat (i - (1 : Nat)),
      Int.ofNat (i - (1 : Nat)) < Int.ofNat (List.length (List.map (fun n0 => [I n0]) sv)),
      (List.map (fun n0 => [I n0]) sv)[i - (1 : Nat)]? = some [I y],
      IntKind.wrap IntKind.i64 (Int.ofNat ((BitVec.toNat (BitVec.ofInt (64 : Nat) y) &&& (3 : Nat)))) = (1 : Int),
      IntKind.wrap IntKind.i64 (n (7 : Nat) + (1 : Int)) = n (7 : Nat) + (1 : Int),
      (0 : Int) ≤ Int.ofNat i,
      Int.ofNat i < Int.ofNat (List.length (List.map (fun b0 => [Bo b0]) er)),
      (List.map (fun b0 => [Bo b0]) er)[i]? = some [Bo false],
      false = false,
      IntKind.wrap IntKind.i64 (Int.ofNat (i + (1 : Nat))) = Int.ofNat (i + (1 : Nat))] (by kernel_rfl)
    (by
      simp only [allP]
      and_intros <;> first
        | omega
        | with_reducible assumption
        | exact hx
        | exact hk
        | exact hp
        | exact i64_small (by omega)
        | (simp; omega)
        | (simp [hx]; done)
        | (simp [hy]; done)
        | (simp [he]; done)
        | exact i64_small (by simp; omega)
        | (rw [i64_small (by simp; omega)]; exact u64_small (by simp; omega))
        | exact u64_small (by simp; omega)
        | (simp [Sp.row, chSp, U, nm]; done)
        | (rw [Int.add_neg_one]; rw [i64_small (by simp; omega)]; simp; omega)
        | (rw [i64_small (by simp; omega)]; simp; omega)
        | (simp; done)
        | decide)

theorem chGo20t (sv : List Int) (er : List Bool) (l : List Sp) (n bad : Nat → Int) (i : Nat) (x y : Int) (h : i < sv.length) (hs : sv.length ≤ 40) (hr : sv.length ≤ er.length) (hl : l.length ≤ 1000) (hx : sv[i]? = some x) (he : er[i]? = some true) (h0 : 0 < i) (hy : sv[i - 1]? = some y) (hk : low x = 0) (hp : low y = 2) (hn : 0 ≤ n 8 ∧ n 8 ≤ 1000) (hb : 0 ≤ bad 8 ∧ bad 8 ≤ 1000) : CodeC Try.prog 0 136 chB (chS sv er l n bad i) .normal (chS sv er (l ++ [chSp i 0 true]) (upd n 8 (n 8 + 1)) (upd bad 8 (bad 8 + 1)) (i + 1)) :=
  runP hmix [.reg 8 [(3, [], some true)], .reg 10 [(3, [.row [I x]], none), (4, [.be (I 0)], none)], .reg 11 [(3, [.be (U ((i + 1 : Nat) : Int))], none), (5, [.be (U (i : Int))], none), (14, [.row [Bo true]], none), (17, [.beO ((l ++ [chSp i 0 true]).map Sp.row)], none)], .reg 12 [(1, [], some true)], .reg 13 [(2, [.be (I ((i - 1 : Nat) : Int))], none), (4, [.row [I y]], none), (5, [.be (I 2)], none)], .reg 14 [(5, [.be (I (n 8 + 1))], none)], .reg 15 [(3, [.row [Bo true]], some true)], .reg 16 [(5, [.be (I (bad 8 + 1))], none)], .reg 9 [(1, [.be (I ((i + 1 : Nat) : Int))], none)]] ⟨[0, 1, 6, 7, 8, 9, 10], [(2218000, 900), (901, 901), (902, 902)], []⟩ [
      decide (Int.ofNat i < Int.ofNat (List.length (List.map (fun n0 => [I n0]) sv))) = true,
      (0 : Int) ≤ Int.ofNat i,
      Int.ofNat i < Int.ofNat (List.length (List.map (fun n0 => [I n0]) sv)),
      (List.map (fun n0 => [I n0]) sv)[i]? = some [I x],
      IntKind.wrap IntKind.i64 (Int.ofNat ((BitVec.toNat (BitVec.ofInt (64 : Nat) x) &&& (3 : Nat)))) = (0 : Int),
      IntKind.wrap IntKind.u64 (IntKind.wrap IntKind.i64 (Int.ofNat (i + (1 : Nat)))) = Int.ofNat (i + (1 : Nat)),
      Int.ofNat (i % (18446744073709551616 : Nat)) = Int.ofNat i,
      (0 : Int) ≤ (0 : Int),
      (0 : Int) ≤ (1 : Int),
      (1 : Int) ≤ (4 : Int),
      (0 : Int) ≤ Int.ofNat i,
      Int.ofNat i < Int.ofNat (List.length (List.map (fun b0 => [Bo b0]) er)),
      (List.map (fun b0 => [Bo b0]) er)[i]? = some [Bo true],
      (List.length (List.map Sp.row l) + (1 : Nat)) * (112 : Nat) ≤ (140737488355328 : Nat),
      List.map Sp.row l ++ [[V.val (Value.int IntKind.u64 (0 : Int)), V.val (Value.int IntKind.u64 (0 : Int)), V.val (Value.int IntKind.u64 (Int.ofNat (i + (1 : Nat)))), V.val (Value.int IntKind.u64 (Int.ofNat i)), Sg { data := { toList := [(97 : UInt8)] } }, Sg { data := { toList := [(111 : UInt8)] } }, I (0 : Int), I (0 : Int), Bo true, V.sl (2 : Nat) []]] = List.map Sp.row (l ++ [{ hi := (0 : Int), lo := (0 : Int), id := Int.ofNat (i + (1 : Nat)), par := Int.ofNat i, svc := { data := { toList := [(97 : UInt8)] } }, op := { data := { toList := [(111 : UInt8)] } }, start := (0 : Int), dur := (0 : Int), err := true, attrs := [] }]),
      decide (Int.ofNat i > (0 : Int)) = true,
      IntKind.wrap IntKind.i64 (Int.ofNat i + (-1 : Int)) = Int.ofNat (i - (1 : Nat)),
      (0 : Int) ≤ Int.ofNat (i - (1 : Nat)),
      Int.ofNat (i - (1 : Nat)) < Int.ofNat (List.length (List.map (fun n0 => [I n0]) sv)),
      (List.map (fun n0 => [I n0]) sv)[i - (1 : Nat)]? = some [I y],
      IntKind.wrap IntKind.i64 (Int.ofNat ((BitVec.toNat (BitVec.ofInt (64 : Nat) y) &&& (3 : Nat)))) = (2 : Int),
      IntKind.wrap IntKind.i64 (n (8 : Nat) + (1 : Int)) = n (8 : Nat) + (1 : Int),
      (0 : Int) ≤ Int.ofNat i,
      Int.ofNat i < Int.ofNat (List.length (List.map (fun b0 => [Bo b0]) er)),
      (List.map (fun b0 => [Bo b0]) er)[i]? = some [Bo true],
      true = true,
      IntKind.wrap IntKind.i64 (bad (8 : Nat) + (1 : Int)) = bad (8 : Nat) + (1 : Int),
      IntKind.wrap IntKind.i64 (Int.ofNat (i + (1 : Nat))) = Int.ofNat (i + (1 : Nat))] (by kernel_rfl)
    (by
      simp only [allP]
      and_intros <;> first
        | omega
        | with_reducible assumption
        | exact hx
        | exact hk
        | exact hp
        | exact i64_small (by omega)
        | (simp; omega)
        | (simp [hx]; done)
        | (simp [hy]; done)
        | (simp [he]; done)
        | exact i64_small (by simp; omega)
        | (rw [i64_small (by simp; omega)]; exact u64_small (by simp; omega))
        | exact u64_small (by simp; omega)
        | (simp [Sp.row, chSp, U, nm]; done)
        | (rw [Int.add_neg_one]; rw [i64_small (by simp; omega)]; simp; omega)
        | (rw [i64_small (by simp; omega)]; simp; omega)
        | (simp; done)
        | decide)

theorem chGo20f (sv : List Int) (er : List Bool) (l : List Sp) (n bad : Nat → Int) (i : Nat) (x y : Int) (h : i < sv.length) (hs : sv.length ≤ 40) (hr : sv.length ≤ er.length) (hl : l.length ≤ 1000) (hx : sv[i]? = some x) (he : er[i]? = some false) (h0 : 0 < i) (hy : sv[i - 1]? = some y) (hk : low x = 0) (hp : low y = 2) (hn : 0 ≤ n 8 ∧ n 8 ≤ 1000) (hb : 0 ≤ bad 8 ∧ bad 8 ≤ 1000) : CodeC Try.prog 0 136 chB (chS sv er l n bad i) .normal (chS sv er (l ++ [chSp i 0 false]) (upd n 8 (n 8 + 1)) bad (i + 1)) :=
  runP hmix [.reg 8 [(3, [], some true)], .reg 10 [(3, [.row [I x]], none), (4, [.be (I 0)], none)], .reg 11 [(3, [.be (U ((i + 1 : Nat) : Int))], none), (5, [.be (U (i : Int))], none), (14, [.row [Bo false]], none), (17, [.beO ((l ++ [chSp i 0 false]).map Sp.row)], none)], .reg 12 [(1, [], some true)], .reg 13 [(2, [.be (I ((i - 1 : Nat) : Int))], none), (4, [.row [I y]], none), (5, [.be (I 2)], none)], .reg 14 [(5, [.be (I (n 8 + 1))], none)], .reg 15 [(3, [.row [Bo false]], some false)], .reg 9 [(1, [.be (I ((i + 1 : Nat) : Int))], none)]] ⟨[0, 1, 6, 7, 8, 9, 10], [(2218000, 900), (901, 901), (902, 902)], []⟩ [
      decide (Int.ofNat i < Int.ofNat (List.length (List.map (fun n0 => [I n0]) sv))) = true,
      (0 : Int) ≤ Int.ofNat i,
      Int.ofNat i < Int.ofNat (List.length (List.map (fun n0 => [I n0]) sv)),
      (List.map (fun n0 => [I n0]) sv)[i]? = some [I x],
      IntKind.wrap IntKind.i64 (Int.ofNat ((BitVec.toNat (BitVec.ofInt (64 : Nat) x) &&& (3 : Nat)))) = (0 : Int),
      IntKind.wrap IntKind.u64 (IntKind.wrap IntKind.i64 (Int.ofNat (i + (1 : Nat)))) = Int.ofNat (i + (1 : Nat)),
      Int.ofNat (i % (18446744073709551616 : Nat)) = Int.ofNat i,
      (0 : Int) ≤ (0 : Int),
      (0 : Int) ≤ (1 : Int),
      (1 : Int) ≤ (4 : Int),
      (0 : Int) ≤ Int.ofNat i,
      Int.ofNat i < Int.ofNat (List.length (List.map (fun b0 => [Bo b0]) er)),
      (List.map (fun b0 => [Bo b0]) er)[i]? = some [Bo false],
      (List.length (List.map Sp.row l) + (1 : Nat)) * (112 : Nat) ≤ (140737488355328 : Nat),
      List.map Sp.row l ++ [[V.val (Value.int IntKind.u64 (0 : Int)), V.val (Value.int IntKind.u64 (0 : Int)), V.val (Value.int IntKind.u64 (Int.ofNat (i + (1 : Nat)))), V.val (Value.int IntKind.u64 (Int.ofNat i)), Sg { data := { toList := [(97 : UInt8)] } }, Sg { data := { toList := [(111 : UInt8)] } }, I (0 : Int), I (0 : Int), Bo false, V.sl (2 : Nat) []]] = List.map Sp.row (l ++ [{ hi := (0 : Int), lo := (0 : Int), id := Int.ofNat (i + (1 : Nat)), par := Int.ofNat i, svc := { data := { toList := [(97 : UInt8)] } }, op := { data := { toList := [(111 : UInt8)] } }, start := (0 : Int), dur := (0 : Int), err := false, attrs := [] }]),
      decide (Int.ofNat i > (0 : Int)) = true,
      IntKind.wrap IntKind.i64 (Int.ofNat i + (-1 : Int)) = Int.ofNat (i - (1 : Nat)),
      (0 : Int) ≤ Int.ofNat (i - (1 : Nat)),
      Int.ofNat (i - (1 : Nat)) < Int.ofNat (List.length (List.map (fun n0 => [I n0]) sv)),
      (List.map (fun n0 => [I n0]) sv)[i - (1 : Nat)]? = some [I y],
      IntKind.wrap IntKind.i64 (Int.ofNat ((BitVec.toNat (BitVec.ofInt (64 : Nat) y) &&& (3 : Nat)))) = (2 : Int),
      IntKind.wrap IntKind.i64 (n (8 : Nat) + (1 : Int)) = n (8 : Nat) + (1 : Int),
      (0 : Int) ≤ Int.ofNat i,
      Int.ofNat i < Int.ofNat (List.length (List.map (fun b0 => [Bo b0]) er)),
      (List.map (fun b0 => [Bo b0]) er)[i]? = some [Bo false],
      false = false,
      IntKind.wrap IntKind.i64 (Int.ofNat (i + (1 : Nat))) = Int.ofNat (i + (1 : Nat))] (by kernel_rfl)
    (by
      simp only [allP]
      and_intros <;> first
        | omega
        | with_reducible assumption
        | exact hx
        | exact hk
        | exact hp
        | exact i64_small (by omega)
        | (simp; omega)
        | (simp [hx]; done)
        | (simp [hy]; done)
        | (simp [he]; done)
        | exact i64_small (by simp; omega)
        | (rw [i64_small (by simp; omega)]; exact u64_small (by simp; omega))
        | exact u64_small (by simp; omega)
        | (simp [Sp.row, chSp, U, nm]; done)
        | (rw [Int.add_neg_one]; rw [i64_small (by simp; omega)]; simp; omega)
        | (rw [i64_small (by simp; omega)]; simp; omega)
        | (simp; done)
        | decide)

theorem chGo21t (sv : List Int) (er : List Bool) (l : List Sp) (n bad : Nat → Int) (i : Nat) (x y : Int) (h : i < sv.length) (hs : sv.length ≤ 40) (hr : sv.length ≤ er.length) (hl : l.length ≤ 1000) (hx : sv[i]? = some x) (he : er[i]? = some true) (h0 : 0 < i) (hy : sv[i - 1]? = some y) (hk : low x = 1) (hp : low y = 2) (hn : 0 ≤ n 9 ∧ n 9 ≤ 1000) (hb : 0 ≤ bad 9 ∧ bad 9 ≤ 1000) : CodeC Try.prog 0 136 chB (chS sv er l n bad i) .normal (chS sv er (l ++ [chSp i 1 true]) (upd n 9 (n 9 + 1)) (upd bad 9 (bad 9 + 1)) (i + 1)) :=
  runP hmix [.reg 8 [(3, [], some true)], .reg 10 [(3, [.row [I x]], none), (4, [.be (I 1)], none)], .reg 11 [(3, [.be (U ((i + 1 : Nat) : Int))], none), (5, [.be (U (i : Int))], none), (14, [.row [Bo true]], none), (17, [.beO ((l ++ [chSp i 1 true]).map Sp.row)], none)], .reg 12 [(1, [], some true)], .reg 13 [(2, [.be (I ((i - 1 : Nat) : Int))], none), (4, [.row [I y]], none), (5, [.be (I 2)], none)], .reg 14 [(5, [.be (I (n 9 + 1))], none)], .reg 15 [(3, [.row [Bo true]], some true)], .reg 16 [(5, [.be (I (bad 9 + 1))], none)], .reg 9 [(1, [.be (I ((i + 1 : Nat) : Int))], none)]] ⟨[0, 1, 6, 7, 8, 9, 10], [(2218000, 900), (901, 901), (902, 902)], []⟩ [
      decide (Int.ofNat i < Int.ofNat (List.length (List.map (fun n0 => [I n0]) sv))) = true,
      (0 : Int) ≤ Int.ofNat i,
      Int.ofNat i < Int.ofNat (List.length (List.map (fun n0 => [I n0]) sv)),
      (List.map (fun n0 => [I n0]) sv)[i]? = some [I x],
      IntKind.wrap IntKind.i64 (Int.ofNat ((BitVec.toNat (BitVec.ofInt (64 : Nat) x) &&& (3 : Nat)))) = (1 : Int),
      IntKind.wrap IntKind.u64 (IntKind.wrap IntKind.i64 (Int.ofNat (i + (1 : Nat)))) = Int.ofNat (i + (1 : Nat)),
      Int.ofNat (i % (18446744073709551616 : Nat)) = Int.ofNat i,
      (0 : Int) ≤ (1 : Int),
      (1 : Int) ≤ (2 : Int),
      (2 : Int) ≤ (4 : Int),
      (0 : Int) ≤ Int.ofNat i,
      Int.ofNat i < Int.ofNat (List.length (List.map (fun b0 => [Bo b0]) er)),
      (List.map (fun b0 => [Bo b0]) er)[i]? = some [Bo true],
      (List.length (List.map Sp.row l) + (1 : Nat)) * (112 : Nat) ≤ (140737488355328 : Nat),
      List.map Sp.row l ++ [[V.val (Value.int IntKind.u64 (0 : Int)), V.val (Value.int IntKind.u64 (0 : Int)), V.val (Value.int IntKind.u64 (Int.ofNat (i + (1 : Nat)))), V.val (Value.int IntKind.u64 (Int.ofNat i)), Sg { data := { toList := [(98 : UInt8)] } }, Sg { data := { toList := [(111 : UInt8)] } }, I (0 : Int), I (0 : Int), Bo true, V.sl (2 : Nat) []]] = List.map Sp.row (l ++ [{ hi := (0 : Int), lo := (0 : Int), id := Int.ofNat (i + (1 : Nat)), par := Int.ofNat i, svc := { data := { toList := [(98 : UInt8)] } }, op := { data := { toList := [(111 : UInt8)] } }, start := (0 : Int), dur := (0 : Int), err := true, attrs := [] }]),
      decide (Int.ofNat i > (0 : Int)) = true,
      IntKind.wrap IntKind.i64 (Int.ofNat i + (-1 : Int)) = Int.ofNat (i - (1 : Nat)),
      (0 : Int) ≤ Int.ofNat (i - (1 : Nat)),
      Int.ofNat (i - (1 : Nat)) < Int.ofNat (List.length (List.map (fun n0 => [I n0]) sv)),
      (List.map (fun n0 => [I n0]) sv)[i - (1 : Nat)]? = some [I y],
      IntKind.wrap IntKind.i64 (Int.ofNat ((BitVec.toNat (BitVec.ofInt (64 : Nat) y) &&& (3 : Nat)))) = (2 : Int),
      IntKind.wrap IntKind.i64 (n (9 : Nat) + (1 : Int)) = n (9 : Nat) + (1 : Int),
      (0 : Int) ≤ Int.ofNat i,
      Int.ofNat i < Int.ofNat (List.length (List.map (fun b0 => [Bo b0]) er)),
      (List.map (fun b0 => [Bo b0]) er)[i]? = some [Bo true],
      true = true,
      IntKind.wrap IntKind.i64 (bad (9 : Nat) + (1 : Int)) = bad (9 : Nat) + (1 : Int),
      IntKind.wrap IntKind.i64 (Int.ofNat (i + (1 : Nat))) = Int.ofNat (i + (1 : Nat))] (by kernel_rfl)
    (by
      simp only [allP]
      and_intros <;> first
        | omega
        | with_reducible assumption
        | exact hx
        | exact hk
        | exact hp
        | exact i64_small (by omega)
        | (simp; omega)
        | (simp [hx]; done)
        | (simp [hy]; done)
        | (simp [he]; done)
        | exact i64_small (by simp; omega)
        | (rw [i64_small (by simp; omega)]; exact u64_small (by simp; omega))
        | exact u64_small (by simp; omega)
        | (simp [Sp.row, chSp, U, nm]; done)
        | (rw [Int.add_neg_one]; rw [i64_small (by simp; omega)]; simp; omega)
        | (rw [i64_small (by simp; omega)]; simp; omega)
        | (simp; done)
        | decide)

theorem chGo21f (sv : List Int) (er : List Bool) (l : List Sp) (n bad : Nat → Int) (i : Nat) (x y : Int) (h : i < sv.length) (hs : sv.length ≤ 40) (hr : sv.length ≤ er.length) (hl : l.length ≤ 1000) (hx : sv[i]? = some x) (he : er[i]? = some false) (h0 : 0 < i) (hy : sv[i - 1]? = some y) (hk : low x = 1) (hp : low y = 2) (hn : 0 ≤ n 9 ∧ n 9 ≤ 1000) (hb : 0 ≤ bad 9 ∧ bad 9 ≤ 1000) : CodeC Try.prog 0 136 chB (chS sv er l n bad i) .normal (chS sv er (l ++ [chSp i 1 false]) (upd n 9 (n 9 + 1)) bad (i + 1)) :=
  runP hmix [.reg 8 [(3, [], some true)], .reg 10 [(3, [.row [I x]], none), (4, [.be (I 1)], none)], .reg 11 [(3, [.be (U ((i + 1 : Nat) : Int))], none), (5, [.be (U (i : Int))], none), (14, [.row [Bo false]], none), (17, [.beO ((l ++ [chSp i 1 false]).map Sp.row)], none)], .reg 12 [(1, [], some true)], .reg 13 [(2, [.be (I ((i - 1 : Nat) : Int))], none), (4, [.row [I y]], none), (5, [.be (I 2)], none)], .reg 14 [(5, [.be (I (n 9 + 1))], none)], .reg 15 [(3, [.row [Bo false]], some false)], .reg 9 [(1, [.be (I ((i + 1 : Nat) : Int))], none)]] ⟨[0, 1, 6, 7, 8, 9, 10], [(2218000, 900), (901, 901), (902, 902)], []⟩ [
      decide (Int.ofNat i < Int.ofNat (List.length (List.map (fun n0 => [I n0]) sv))) = true,
      (0 : Int) ≤ Int.ofNat i,
      Int.ofNat i < Int.ofNat (List.length (List.map (fun n0 => [I n0]) sv)),
      (List.map (fun n0 => [I n0]) sv)[i]? = some [I x],
      IntKind.wrap IntKind.i64 (Int.ofNat ((BitVec.toNat (BitVec.ofInt (64 : Nat) x) &&& (3 : Nat)))) = (1 : Int),
      IntKind.wrap IntKind.u64 (IntKind.wrap IntKind.i64 (Int.ofNat (i + (1 : Nat)))) = Int.ofNat (i + (1 : Nat)),
      Int.ofNat (i % (18446744073709551616 : Nat)) = Int.ofNat i,
      (0 : Int) ≤ (1 : Int),
      (1 : Int) ≤ (2 : Int),
      (2 : Int) ≤ (4 : Int),
      (0 : Int) ≤ Int.ofNat i,
      Int.ofNat i < Int.ofNat (List.length (List.map (fun b0 => [Bo b0]) er)),
      (List.map (fun b0 => [Bo b0]) er)[i]? = some [Bo false],
      (List.length (List.map Sp.row l) + (1 : Nat)) * (112 : Nat) ≤ (140737488355328 : Nat),
      List.map Sp.row l ++ [[V.val (Value.int IntKind.u64 (0 : Int)), V.val (Value.int IntKind.u64 (0 : Int)), V.val (Value.int IntKind.u64 (Int.ofNat (i + (1 : Nat)))), V.val (Value.int IntKind.u64 (Int.ofNat i)), Sg { data := { toList := [(98 : UInt8)] } }, Sg { data := { toList := [(111 : UInt8)] } }, I (0 : Int), I (0 : Int), Bo false, V.sl (2 : Nat) []]] = List.map Sp.row (l ++ [{ hi := (0 : Int), lo := (0 : Int), id := Int.ofNat (i + (1 : Nat)), par := Int.ofNat i, svc := { data := { toList := [(98 : UInt8)] } }, op := { data := { toList := [(111 : UInt8)] } }, start := (0 : Int), dur := (0 : Int), err := false, attrs := [] }]),
      decide (Int.ofNat i > (0 : Int)) = true,
      IntKind.wrap IntKind.i64 (Int.ofNat i + (-1 : Int)) = Int.ofNat (i - (1 : Nat)),
      (0 : Int) ≤ Int.ofNat (i - (1 : Nat)),
      Int.ofNat (i - (1 : Nat)) < Int.ofNat (List.length (List.map (fun n0 => [I n0]) sv)),
      (List.map (fun n0 => [I n0]) sv)[i - (1 : Nat)]? = some [I y],
      IntKind.wrap IntKind.i64 (Int.ofNat ((BitVec.toNat (BitVec.ofInt (64 : Nat) y) &&& (3 : Nat)))) = (2 : Int),
      IntKind.wrap IntKind.i64 (n (9 : Nat) + (1 : Int)) = n (9 : Nat) + (1 : Int),
      (0 : Int) ≤ Int.ofNat i,
      Int.ofNat i < Int.ofNat (List.length (List.map (fun b0 => [Bo b0]) er)),
      (List.map (fun b0 => [Bo b0]) er)[i]? = some [Bo false],
      false = false,
      IntKind.wrap IntKind.i64 (Int.ofNat (i + (1 : Nat))) = Int.ofNat (i + (1 : Nat))] (by kernel_rfl)
    (by
      simp only [allP]
      and_intros <;> first
        | omega
        | with_reducible assumption
        | exact hx
        | exact hk
        | exact hp
        | exact i64_small (by omega)
        | (simp; omega)
        | (simp [hx]; done)
        | (simp [hy]; done)
        | (simp [he]; done)
        | exact i64_small (by simp; omega)
        | (rw [i64_small (by simp; omega)]; exact u64_small (by simp; omega))
        | exact u64_small (by simp; omega)
        | (simp [Sp.row, chSp, U, nm]; done)
        | (rw [Int.add_neg_one]; rw [i64_small (by simp; omega)]; simp; omega)
        | (rw [i64_small (by simp; omega)]; simp; omega)
        | (simp; done)
        | decide)

theorem chGo22t (sv : List Int) (er : List Bool) (l : List Sp) (n bad : Nat → Int) (i : Nat) (x y : Int) (h : i < sv.length) (hs : sv.length ≤ 40) (hr : sv.length ≤ er.length) (hl : l.length ≤ 1000) (hx : sv[i]? = some x) (he : er[i]? = some true) (h0 : 0 < i) (hy : sv[i - 1]? = some y) (hk : low x = 2) (hp : low y = 2) (hn : 0 ≤ n 10 ∧ n 10 ≤ 1000) (hb : 0 ≤ bad 10 ∧ bad 10 ≤ 1000) : CodeC Try.prog 0 136 chB (chS sv er l n bad i) .normal (chS sv er (l ++ [chSp i 2 true]) (upd n 10 (n 10 + 1)) (upd bad 10 (bad 10 + 1)) (i + 1)) :=
  runP hmix [.reg 8 [(3, [], some true)], .reg 10 [(3, [.row [I x]], none), (4, [.be (I 2)], none)], .reg 11 [(3, [.be (U ((i + 1 : Nat) : Int))], none), (5, [.be (U (i : Int))], none), (14, [.row [Bo true]], none), (17, [.beO ((l ++ [chSp i 2 true]).map Sp.row)], none)], .reg 12 [(1, [], some true)], .reg 13 [(2, [.be (I ((i - 1 : Nat) : Int))], none), (4, [.row [I y]], none), (5, [.be (I 2)], none)], .reg 14 [(5, [.be (I (n 10 + 1))], none)], .reg 15 [(3, [.row [Bo true]], some true)], .reg 16 [(5, [.be (I (bad 10 + 1))], none)], .reg 9 [(1, [.be (I ((i + 1 : Nat) : Int))], none)]] ⟨[0, 1, 6, 7, 8, 9, 10], [(2218000, 900), (901, 901), (902, 902)], []⟩ [
      decide (Int.ofNat i < Int.ofNat (List.length (List.map (fun n0 => [I n0]) sv))) = true,
      (0 : Int) ≤ Int.ofNat i,
      Int.ofNat i < Int.ofNat (List.length (List.map (fun n0 => [I n0]) sv)),
      (List.map (fun n0 => [I n0]) sv)[i]? = some [I x],
      IntKind.wrap IntKind.i64 (Int.ofNat ((BitVec.toNat (BitVec.ofInt (64 : Nat) x) &&& (3 : Nat)))) = (2 : Int),
      IntKind.wrap IntKind.u64 (IntKind.wrap IntKind.i64 (Int.ofNat (i + (1 : Nat)))) = Int.ofNat (i + (1 : Nat)),
      Int.ofNat (i % (18446744073709551616 : Nat)) = Int.ofNat i,
      (0 : Int) ≤ (2 : Int),
      (2 : Int) ≤ (3 : Int),
      (3 : Int) ≤ (4 : Int),
      (0 : Int) ≤ Int.ofNat i,
      Int.ofNat i < Int.ofNat (List.length (List.map (fun b0 => [Bo b0]) er)),
      (List.map (fun b0 => [Bo b0]) er)[i]? = some [Bo true],
      (List.length (List.map Sp.row l) + (1 : Nat)) * (112 : Nat) ≤ (140737488355328 : Nat),
      List.map Sp.row l ++ [[V.val (Value.int IntKind.u64 (0 : Int)), V.val (Value.int IntKind.u64 (0 : Int)), V.val (Value.int IntKind.u64 (Int.ofNat (i + (1 : Nat)))), V.val (Value.int IntKind.u64 (Int.ofNat i)), Sg { data := { toList := [(99 : UInt8)] } }, Sg { data := { toList := [(111 : UInt8)] } }, I (0 : Int), I (0 : Int), Bo true, V.sl (2 : Nat) []]] = List.map Sp.row (l ++ [{ hi := (0 : Int), lo := (0 : Int), id := Int.ofNat (i + (1 : Nat)), par := Int.ofNat i, svc := { data := { toList := [(99 : UInt8)] } }, op := { data := { toList := [(111 : UInt8)] } }, start := (0 : Int), dur := (0 : Int), err := true, attrs := [] }]),
      decide (Int.ofNat i > (0 : Int)) = true,
      IntKind.wrap IntKind.i64 (Int.ofNat i + (-1 : Int)) = Int.ofNat (i - (1 : Nat)),
      (0 : Int) ≤ Int.ofNat (i - (1 : Nat)),
      Int.ofNat (i - (1 : Nat)) < Int.ofNat (List.length (List.map (fun n0 => [I n0]) sv)),
      (List.map (fun n0 => [I n0]) sv)[i - (1 : Nat)]? = some [I y],
      IntKind.wrap IntKind.i64 (Int.ofNat ((BitVec.toNat (BitVec.ofInt (64 : Nat) y) &&& (3 : Nat)))) = (2 : Int),
      IntKind.wrap IntKind.i64 (n (10 : Nat) + (1 : Int)) = n (10 : Nat) + (1 : Int),
      (0 : Int) ≤ Int.ofNat i,
      Int.ofNat i < Int.ofNat (List.length (List.map (fun b0 => [Bo b0]) er)),
      (List.map (fun b0 => [Bo b0]) er)[i]? = some [Bo true],
      true = true,
      IntKind.wrap IntKind.i64 (bad (10 : Nat) + (1 : Int)) = bad (10 : Nat) + (1 : Int),
      IntKind.wrap IntKind.i64 (Int.ofNat (i + (1 : Nat))) = Int.ofNat (i + (1 : Nat))] (by kernel_rfl)
    (by
      simp only [allP]
      and_intros <;> first
        | omega
        | with_reducible assumption
        | exact hx
        | exact hk
        | exact hp
        | exact i64_small (by omega)
        | (simp; omega)
        | (simp [hx]; done)
        | (simp [hy]; done)
        | (simp [he]; done)
        | exact i64_small (by simp; omega)
        | (rw [i64_small (by simp; omega)]; exact u64_small (by simp; omega))
        | exact u64_small (by simp; omega)
        | (simp [Sp.row, chSp, U, nm]; done)
        | (rw [Int.add_neg_one]; rw [i64_small (by simp; omega)]; simp; omega)
        | (rw [i64_small (by simp; omega)]; simp; omega)
        | (simp; done)
        | decide)

theorem chGo22f (sv : List Int) (er : List Bool) (l : List Sp) (n bad : Nat → Int) (i : Nat) (x y : Int) (h : i < sv.length) (hs : sv.length ≤ 40) (hr : sv.length ≤ er.length) (hl : l.length ≤ 1000) (hx : sv[i]? = some x) (he : er[i]? = some false) (h0 : 0 < i) (hy : sv[i - 1]? = some y) (hk : low x = 2) (hp : low y = 2) (hn : 0 ≤ n 10 ∧ n 10 ≤ 1000) (hb : 0 ≤ bad 10 ∧ bad 10 ≤ 1000) : CodeC Try.prog 0 136 chB (chS sv er l n bad i) .normal (chS sv er (l ++ [chSp i 2 false]) (upd n 10 (n 10 + 1)) bad (i + 1)) :=
  runP hmix [.reg 8 [(3, [], some true)], .reg 10 [(3, [.row [I x]], none), (4, [.be (I 2)], none)], .reg 11 [(3, [.be (U ((i + 1 : Nat) : Int))], none), (5, [.be (U (i : Int))], none), (14, [.row [Bo false]], none), (17, [.beO ((l ++ [chSp i 2 false]).map Sp.row)], none)], .reg 12 [(1, [], some true)], .reg 13 [(2, [.be (I ((i - 1 : Nat) : Int))], none), (4, [.row [I y]], none), (5, [.be (I 2)], none)], .reg 14 [(5, [.be (I (n 10 + 1))], none)], .reg 15 [(3, [.row [Bo false]], some false)], .reg 9 [(1, [.be (I ((i + 1 : Nat) : Int))], none)]] ⟨[0, 1, 6, 7, 8, 9, 10], [(2218000, 900), (901, 901), (902, 902)], []⟩ [
      decide (Int.ofNat i < Int.ofNat (List.length (List.map (fun n0 => [I n0]) sv))) = true,
      (0 : Int) ≤ Int.ofNat i,
      Int.ofNat i < Int.ofNat (List.length (List.map (fun n0 => [I n0]) sv)),
      (List.map (fun n0 => [I n0]) sv)[i]? = some [I x],
      IntKind.wrap IntKind.i64 (Int.ofNat ((BitVec.toNat (BitVec.ofInt (64 : Nat) x) &&& (3 : Nat)))) = (2 : Int),
      IntKind.wrap IntKind.u64 (IntKind.wrap IntKind.i64 (Int.ofNat (i + (1 : Nat)))) = Int.ofNat (i + (1 : Nat)),
      Int.ofNat (i % (18446744073709551616 : Nat)) = Int.ofNat i,
      (0 : Int) ≤ (2 : Int),
      (2 : Int) ≤ (3 : Int),
      (3 : Int) ≤ (4 : Int),
      (0 : Int) ≤ Int.ofNat i,
      Int.ofNat i < Int.ofNat (List.length (List.map (fun b0 => [Bo b0]) er)),
      (List.map (fun b0 => [Bo b0]) er)[i]? = some [Bo false],
      (List.length (List.map Sp.row l) + (1 : Nat)) * (112 : Nat) ≤ (140737488355328 : Nat),
      List.map Sp.row l ++ [[V.val (Value.int IntKind.u64 (0 : Int)), V.val (Value.int IntKind.u64 (0 : Int)), V.val (Value.int IntKind.u64 (Int.ofNat (i + (1 : Nat)))), V.val (Value.int IntKind.u64 (Int.ofNat i)), Sg { data := { toList := [(99 : UInt8)] } }, Sg { data := { toList := [(111 : UInt8)] } }, I (0 : Int), I (0 : Int), Bo false, V.sl (2 : Nat) []]] = List.map Sp.row (l ++ [{ hi := (0 : Int), lo := (0 : Int), id := Int.ofNat (i + (1 : Nat)), par := Int.ofNat i, svc := { data := { toList := [(99 : UInt8)] } }, op := { data := { toList := [(111 : UInt8)] } }, start := (0 : Int), dur := (0 : Int), err := false, attrs := [] }]),
      decide (Int.ofNat i > (0 : Int)) = true,
      IntKind.wrap IntKind.i64 (Int.ofNat i + (-1 : Int)) = Int.ofNat (i - (1 : Nat)),
      (0 : Int) ≤ Int.ofNat (i - (1 : Nat)),
      Int.ofNat (i - (1 : Nat)) < Int.ofNat (List.length (List.map (fun n0 => [I n0]) sv)),
      (List.map (fun n0 => [I n0]) sv)[i - (1 : Nat)]? = some [I y],
      IntKind.wrap IntKind.i64 (Int.ofNat ((BitVec.toNat (BitVec.ofInt (64 : Nat) y) &&& (3 : Nat)))) = (2 : Int),
      IntKind.wrap IntKind.i64 (n (10 : Nat) + (1 : Int)) = n (10 : Nat) + (1 : Int),
      (0 : Int) ≤ Int.ofNat i,
      Int.ofNat i < Int.ofNat (List.length (List.map (fun b0 => [Bo b0]) er)),
      (List.map (fun b0 => [Bo b0]) er)[i]? = some [Bo false],
      false = false,
      IntKind.wrap IntKind.i64 (Int.ofNat (i + (1 : Nat))) = Int.ofNat (i + (1 : Nat))] (by kernel_rfl)
    (by
      simp only [allP]
      and_intros <;> first
        | omega
        | with_reducible assumption
        | exact hx
        | exact hk
        | exact hp
        | exact i64_small (by omega)
        | (simp; omega)
        | (simp [hx]; done)
        | (simp [hy]; done)
        | (simp [he]; done)
        | exact i64_small (by simp; omega)
        | (rw [i64_small (by simp; omega)]; exact u64_small (by simp; omega))
        | exact u64_small (by simp; omega)
        | (simp [Sp.row, chSp, U, nm]; done)
        | (rw [Int.add_neg_one]; rw [i64_small (by simp; omega)]; simp; omega)
        | (rw [i64_small (by simp; omega)]; simp; omega)
        | (simp; done)
        | decide)

theorem chGo23t (sv : List Int) (er : List Bool) (l : List Sp) (n bad : Nat → Int) (i : Nat) (x y : Int) (h : i < sv.length) (hs : sv.length ≤ 40) (hr : sv.length ≤ er.length) (hl : l.length ≤ 1000) (hx : sv[i]? = some x) (he : er[i]? = some true) (h0 : 0 < i) (hy : sv[i - 1]? = some y) (hk : low x = 3) (hp : low y = 2) (hn : 0 ≤ n 11 ∧ n 11 ≤ 1000) (hb : 0 ≤ bad 11 ∧ bad 11 ≤ 1000) : CodeC Try.prog 0 136 chB (chS sv er l n bad i) .normal (chS sv er (l ++ [chSp i 3 true]) (upd n 11 (n 11 + 1)) (upd bad 11 (bad 11 + 1)) (i + 1)) :=
  runP hmix [.reg 8 [(3, [], some true)], .reg 10 [(3, [.row [I x]], none), (4, [.be (I 3)], none)], .reg 11 [(3, [.be (U ((i + 1 : Nat) : Int))], none), (5, [.be (U (i : Int))], none), (14, [.row [Bo true]], none), (17, [.beO ((l ++ [chSp i 3 true]).map Sp.row)], none)], .reg 12 [(1, [], some true)], .reg 13 [(2, [.be (I ((i - 1 : Nat) : Int))], none), (4, [.row [I y]], none), (5, [.be (I 2)], none)], .reg 14 [(5, [.be (I (n 11 + 1))], none)], .reg 15 [(3, [.row [Bo true]], some true)], .reg 16 [(5, [.be (I (bad 11 + 1))], none)], .reg 9 [(1, [.be (I ((i + 1 : Nat) : Int))], none)]] ⟨[0, 1, 6, 7, 8, 9, 10], [(2218000, 900), (901, 901), (902, 902)], []⟩ [
      decide (Int.ofNat i < Int.ofNat (List.length (List.map (fun n0 => [I n0]) sv))) = true,
      (0 : Int) ≤ Int.ofNat i,
      Int.ofNat i < Int.ofNat (List.length (List.map (fun n0 => [I n0]) sv)),
      (List.map (fun n0 => [I n0]) sv)[i]? = some [I x],
      IntKind.wrap IntKind.i64 (Int.ofNat ((BitVec.toNat (BitVec.ofInt (64 : Nat) x) &&& (3 : Nat)))) = (3 : Int),
      IntKind.wrap IntKind.u64 (IntKind.wrap IntKind.i64 (Int.ofNat (i + (1 : Nat)))) = Int.ofNat (i + (1 : Nat)),
      Int.ofNat (i % (18446744073709551616 : Nat)) = Int.ofNat i,
      (0 : Int) ≤ (3 : Int),
      (3 : Int) ≤ (4 : Int),
      (4 : Int) ≤ (4 : Int),
      (0 : Int) ≤ Int.ofNat i,
      Int.ofNat i < Int.ofNat (List.length (List.map (fun b0 => [Bo b0]) er)),
      (List.map (fun b0 => [Bo b0]) er)[i]? = some [Bo true],
      (List.length (List.map Sp.row l) + (1 : Nat)) * (112 : Nat) ≤ (140737488355328 : Nat),
      List.map Sp.row l ++ [[V.val (Value.int IntKind.u64 (0 : Int)), V.val (Value.int IntKind.u64 (0 : Int)), V.val (Value.int IntKind.u64 (Int.ofNat (i + (1 : Nat)))), V.val (Value.int IntKind.u64 (Int.ofNat i)), Sg { data := { toList := [(100 : UInt8)] } }, Sg { data := { toList := [(111 : UInt8)] } }, I (0 : Int), I (0 : Int), Bo true, V.sl (2 : Nat) []]] = List.map Sp.row (l ++ [{ hi := (0 : Int), lo := (0 : Int), id := Int.ofNat (i + (1 : Nat)), par := Int.ofNat i, svc := { data := { toList := [(100 : UInt8)] } }, op := { data := { toList := [(111 : UInt8)] } }, start := (0 : Int), dur := (0 : Int), err := true, attrs := [] }]),
      decide (Int.ofNat i > (0 : Int)) = true,
      IntKind.wrap IntKind.i64 (Int.ofNat i + (-1 : Int)) = Int.ofNat (i - (1 : Nat)),
      (0 : Int) ≤ Int.ofNat (i - (1 : Nat)),
      Int.ofNat (i - (1 : Nat)) < Int.ofNat (List.length (List.map (fun n0 => [I n0]) sv)),
      (List.map (fun n0 => [I n0]) sv)[i - (1 : Nat)]? = some [I y],
      IntKind.wrap IntKind.i64 (Int.ofNat ((BitVec.toNat (BitVec.ofInt (64 : Nat) y) &&& (3 : Nat)))) = (2 : Int),
      IntKind.wrap IntKind.i64 (n (11 : Nat) + (1 : Int)) = n (11 : Nat) + (1 : Int),
      (0 : Int) ≤ Int.ofNat i,
      Int.ofNat i < Int.ofNat (List.length (List.map (fun b0 => [Bo b0]) er)),
      (List.map (fun b0 => [Bo b0]) er)[i]? = some [Bo true],
      true = true,
      IntKind.wrap IntKind.i64 (bad (11 : Nat) + (1 : Int)) = bad (11 : Nat) + (1 : Int),
      IntKind.wrap IntKind.i64 (Int.ofNat (i + (1 : Nat))) = Int.ofNat (i + (1 : Nat))] (by kernel_rfl)
    (by
      simp only [allP]
      and_intros <;> first
        | omega
        | with_reducible assumption
        | exact hx
        | exact hk
        | exact hp
        | exact i64_small (by omega)
        | (simp; omega)
        | (simp [hx]; done)
        | (simp [hy]; done)
        | (simp [he]; done)
        | exact i64_small (by simp; omega)
        | (rw [i64_small (by simp; omega)]; exact u64_small (by simp; omega))
        | exact u64_small (by simp; omega)
        | (simp [Sp.row, chSp, U, nm]; done)
        | (rw [Int.add_neg_one]; rw [i64_small (by simp; omega)]; simp; omega)
        | (rw [i64_small (by simp; omega)]; simp; omega)
        | (simp; done)
        | decide)

theorem chGo23f (sv : List Int) (er : List Bool) (l : List Sp) (n bad : Nat → Int) (i : Nat) (x y : Int) (h : i < sv.length) (hs : sv.length ≤ 40) (hr : sv.length ≤ er.length) (hl : l.length ≤ 1000) (hx : sv[i]? = some x) (he : er[i]? = some false) (h0 : 0 < i) (hy : sv[i - 1]? = some y) (hk : low x = 3) (hp : low y = 2) (hn : 0 ≤ n 11 ∧ n 11 ≤ 1000) (hb : 0 ≤ bad 11 ∧ bad 11 ≤ 1000) : CodeC Try.prog 0 136 chB (chS sv er l n bad i) .normal (chS sv er (l ++ [chSp i 3 false]) (upd n 11 (n 11 + 1)) bad (i + 1)) :=
  runP hmix [.reg 8 [(3, [], some true)], .reg 10 [(3, [.row [I x]], none), (4, [.be (I 3)], none)], .reg 11 [(3, [.be (U ((i + 1 : Nat) : Int))], none), (5, [.be (U (i : Int))], none), (14, [.row [Bo false]], none), (17, [.beO ((l ++ [chSp i 3 false]).map Sp.row)], none)], .reg 12 [(1, [], some true)], .reg 13 [(2, [.be (I ((i - 1 : Nat) : Int))], none), (4, [.row [I y]], none), (5, [.be (I 2)], none)], .reg 14 [(5, [.be (I (n 11 + 1))], none)], .reg 15 [(3, [.row [Bo false]], some false)], .reg 9 [(1, [.be (I ((i + 1 : Nat) : Int))], none)]] ⟨[0, 1, 6, 7, 8, 9, 10], [(2218000, 900), (901, 901), (902, 902)], []⟩ [
      decide (Int.ofNat i < Int.ofNat (List.length (List.map (fun n0 => [I n0]) sv))) = true,
      (0 : Int) ≤ Int.ofNat i,
      Int.ofNat i < Int.ofNat (List.length (List.map (fun n0 => [I n0]) sv)),
      (List.map (fun n0 => [I n0]) sv)[i]? = some [I x],
      IntKind.wrap IntKind.i64 (Int.ofNat ((BitVec.toNat (BitVec.ofInt (64 : Nat) x) &&& (3 : Nat)))) = (3 : Int),
      IntKind.wrap IntKind.u64 (IntKind.wrap IntKind.i64 (Int.ofNat (i + (1 : Nat)))) = Int.ofNat (i + (1 : Nat)),
      Int.ofNat (i % (18446744073709551616 : Nat)) = Int.ofNat i,
      (0 : Int) ≤ (3 : Int),
      (3 : Int) ≤ (4 : Int),
      (4 : Int) ≤ (4 : Int),
      (0 : Int) ≤ Int.ofNat i,
      Int.ofNat i < Int.ofNat (List.length (List.map (fun b0 => [Bo b0]) er)),
      (List.map (fun b0 => [Bo b0]) er)[i]? = some [Bo false],
      (List.length (List.map Sp.row l) + (1 : Nat)) * (112 : Nat) ≤ (140737488355328 : Nat),
      List.map Sp.row l ++ [[V.val (Value.int IntKind.u64 (0 : Int)), V.val (Value.int IntKind.u64 (0 : Int)), V.val (Value.int IntKind.u64 (Int.ofNat (i + (1 : Nat)))), V.val (Value.int IntKind.u64 (Int.ofNat i)), Sg { data := { toList := [(100 : UInt8)] } }, Sg { data := { toList := [(111 : UInt8)] } }, I (0 : Int), I (0 : Int), Bo false, V.sl (2 : Nat) []]] = List.map Sp.row (l ++ [{ hi := (0 : Int), lo := (0 : Int), id := Int.ofNat (i + (1 : Nat)), par := Int.ofNat i, svc := { data := { toList := [(100 : UInt8)] } }, op := { data := { toList := [(111 : UInt8)] } }, start := (0 : Int), dur := (0 : Int), err := false, attrs := [] }]),
      decide (Int.ofNat i > (0 : Int)) = true,
      IntKind.wrap IntKind.i64 (Int.ofNat i + (-1 : Int)) = Int.ofNat (i - (1 : Nat)),
      (0 : Int) ≤ Int.ofNat (i - (1 : Nat)),
      Int.ofNat (i - (1 : Nat)) < Int.ofNat (List.length (List.map (fun n0 => [I n0]) sv)),
      (List.map (fun n0 => [I n0]) sv)[i - (1 : Nat)]? = some [I y],
      IntKind.wrap IntKind.i64 (Int.ofNat ((BitVec.toNat (BitVec.ofInt (64 : Nat) y) &&& (3 : Nat)))) = (2 : Int),
      IntKind.wrap IntKind.i64 (n (11 : Nat) + (1 : Int)) = n (11 : Nat) + (1 : Int),
      (0 : Int) ≤ Int.ofNat i,
      Int.ofNat i < Int.ofNat (List.length (List.map (fun b0 => [Bo b0]) er)),
      (List.map (fun b0 => [Bo b0]) er)[i]? = some [Bo false],
      false = false,
      IntKind.wrap IntKind.i64 (Int.ofNat (i + (1 : Nat))) = Int.ofNat (i + (1 : Nat))] (by kernel_rfl)
    (by
      simp only [allP]
      and_intros <;> first
        | omega
        | with_reducible assumption
        | exact hx
        | exact hk
        | exact hp
        | exact i64_small (by omega)
        | (simp; omega)
        | (simp [hx]; done)
        | (simp [hy]; done)
        | (simp [he]; done)
        | exact i64_small (by simp; omega)
        | (rw [i64_small (by simp; omega)]; exact u64_small (by simp; omega))
        | exact u64_small (by simp; omega)
        | (simp [Sp.row, chSp, U, nm]; done)
        | (rw [Int.add_neg_one]; rw [i64_small (by simp; omega)]; simp; omega)
        | (rw [i64_small (by simp; omega)]; simp; omega)
        | (simp; done)
        | decide)

theorem chGo30t (sv : List Int) (er : List Bool) (l : List Sp) (n bad : Nat → Int) (i : Nat) (x y : Int) (h : i < sv.length) (hs : sv.length ≤ 40) (hr : sv.length ≤ er.length) (hl : l.length ≤ 1000) (hx : sv[i]? = some x) (he : er[i]? = some true) (h0 : 0 < i) (hy : sv[i - 1]? = some y) (hk : low x = 0) (hp : low y = 3) (hn : 0 ≤ n 12 ∧ n 12 ≤ 1000) (hb : 0 ≤ bad 12 ∧ bad 12 ≤ 1000) : CodeC Try.prog 0 136 chB (chS sv er l n bad i) .normal (chS sv er (l ++ [chSp i 0 true]) (upd n 12 (n 12 + 1)) (upd bad 12 (bad 12 + 1)) (i + 1)) :=
  runP hmix [.reg 8 [(3, [], some true)], .reg 10 [(3, [.row [I x]], none), (4, [.be (I 0)], none)], .reg 11 [(3, [.be (U ((i + 1 : Nat) : Int))], none), (5, [.be (U (i : Int))], none), (14, [.row [Bo true]], none), (17, [.beO ((l ++ [chSp i 0 true]).map Sp.row)], none)], .reg 12 [(1, [], some true)], .reg 13 [(2, [.be (I ((i - 1 : Nat) : Int))], none), (4, [.row [I y]], none), (5, [.be (I 3)], none)], .reg 14 [(5, [.be (I (n 12 + 1))], none)], .reg 15 [(3, [.row [Bo true]], some true)], .reg 16 [(5, [.be (I (bad 12 + 1))], none)], .reg 9 [(1, [.be (I ((i + 1 : Nat) : Int))], none)]] ⟨[0, 1, 6, 7, 8, 9, 10], [(2218000, 900), (901, 901), (902, 902)], []⟩ [
      decide (Int.ofNat i < Int.ofNat (List.length (List.map (fun n0 => [I n0]) sv))) = true,
      (0 : Int) ≤ Int.ofNat i,
      Int.ofNat i < Int.ofNat (List.length (List.map (fun n0 => [I n0]) sv)),
      (List.map (fun n0 => [I n0]) sv)[i]? = some [I x],
      IntKind.wrap IntKind.i64 (Int.ofNat ((BitVec.toNat (BitVec.ofInt (64 : Nat) x) &&& (3 : Nat)))) = (0 : Int),
      IntKind.wrap IntKind.u64 (IntKind.wrap IntKind.i64 (Int.ofNat (i + (1 : Nat)))) = Int.ofNat (i + (1 : Nat)),
      Int.ofNat (i % (18446744073709551616 : Nat)) = Int.ofNat i,
      (0 : Int) ≤ (0 : Int),
      (0 : Int) ≤ (1 : Int),
      (1 : Int) ≤ (4 : Int),
      (0 : Int) ≤ Int.ofNat i,
      Int.ofNat i < Int.ofNat (List.length (List.map (fun b0 => [Bo b0]) er)),
      (List.map (fun b0 => [Bo b0]) er)[i]? = some [Bo true],
      (List.length (List.map Sp.row l) + (1 : Nat)) * (112 : Nat) ≤ (140737488355328 : Nat),
      List.map Sp.row l ++ [[V.val (Value.int IntKind.u64 (0 : Int)), V.val (Value.int IntKind.u64 (0 : Int)), V.val (Value.int IntKind.u64 (Int.ofNat (i + (1 : Nat)))), V.val (Value.int IntKind.u64 (Int.ofNat i)), Sg { data := { toList := [(97 : UInt8)] } }, Sg { data := { toList := [(111 : UInt8)] } }, I (0 : Int), I (0 : Int), Bo true, V.sl (2 : Nat) []]] = List.map Sp.row (l ++ [{ hi := (0 : Int), lo := (0 : Int), id := Int.ofNat (i + (1 : Nat)), par := Int.ofNat i, svc := { data := { toList := [(97 : UInt8)] } }, op := { data := { toList := [(111 : UInt8)] } }, start := (0 : Int), dur := (0 : Int), err := true, attrs := [] }]),
      decide (Int.ofNat i > (0 : Int)) = true,
      IntKind.wrap IntKind.i64 (Int.ofNat i + (-1 : Int)) = Int.ofNat (i - (1 : Nat)),
      (0 : Int) ≤ Int.ofNat (i - (1 : Nat)),
      Int.ofNat (i - (1 : Nat)) < Int.ofNat (List.length (List.map (fun n0 => [I n0]) sv)),
      (List.map (fun n0 => [I n0]) sv)[i - (1 : Nat)]? = some [I y],
      IntKind.wrap IntKind.i64 (Int.ofNat ((BitVec.toNat (BitVec.ofInt (64 : Nat) y) &&& (3 : Nat)))) = (3 : Int),
      IntKind.wrap IntKind.i64 (n (12 : Nat) + (1 : Int)) = n (12 : Nat) + (1 : Int),
      (0 : Int) ≤ Int.ofNat i,
      Int.ofNat i < Int.ofNat (List.length (List.map (fun b0 => [Bo b0]) er)),
      (List.map (fun b0 => [Bo b0]) er)[i]? = some [Bo true],
      true = true,
      IntKind.wrap IntKind.i64 (bad (12 : Nat) + (1 : Int)) = bad (12 : Nat) + (1 : Int),
      IntKind.wrap IntKind.i64 (Int.ofNat (i + (1 : Nat))) = Int.ofNat (i + (1 : Nat))] (by kernel_rfl)
    (by
      simp only [allP]
      and_intros <;> first
        | omega
        | with_reducible assumption
        | exact hx
        | exact hk
        | exact hp
        | exact i64_small (by omega)
        | (simp; omega)
        | (simp [hx]; done)
        | (simp [hy]; done)
        | (simp [he]; done)
        | exact i64_small (by simp; omega)
        | (rw [i64_small (by simp; omega)]; exact u64_small (by simp; omega))
        | exact u64_small (by simp; omega)
        | (simp [Sp.row, chSp, U, nm]; done)
        | (rw [Int.add_neg_one]; rw [i64_small (by simp; omega)]; simp; omega)
        | (rw [i64_small (by simp; omega)]; simp; omega)
        | (simp; done)
        | decide)

theorem chGo30f (sv : List Int) (er : List Bool) (l : List Sp) (n bad : Nat → Int) (i : Nat) (x y : Int) (h : i < sv.length) (hs : sv.length ≤ 40) (hr : sv.length ≤ er.length) (hl : l.length ≤ 1000) (hx : sv[i]? = some x) (he : er[i]? = some false) (h0 : 0 < i) (hy : sv[i - 1]? = some y) (hk : low x = 0) (hp : low y = 3) (hn : 0 ≤ n 12 ∧ n 12 ≤ 1000) (hb : 0 ≤ bad 12 ∧ bad 12 ≤ 1000) : CodeC Try.prog 0 136 chB (chS sv er l n bad i) .normal (chS sv er (l ++ [chSp i 0 false]) (upd n 12 (n 12 + 1)) bad (i + 1)) :=
  runP hmix [.reg 8 [(3, [], some true)], .reg 10 [(3, [.row [I x]], none), (4, [.be (I 0)], none)], .reg 11 [(3, [.be (U ((i + 1 : Nat) : Int))], none), (5, [.be (U (i : Int))], none), (14, [.row [Bo false]], none), (17, [.beO ((l ++ [chSp i 0 false]).map Sp.row)], none)], .reg 12 [(1, [], some true)], .reg 13 [(2, [.be (I ((i - 1 : Nat) : Int))], none), (4, [.row [I y]], none), (5, [.be (I 3)], none)], .reg 14 [(5, [.be (I (n 12 + 1))], none)], .reg 15 [(3, [.row [Bo false]], some false)], .reg 9 [(1, [.be (I ((i + 1 : Nat) : Int))], none)]] ⟨[0, 1, 6, 7, 8, 9, 10], [(2218000, 900), (901, 901), (902, 902)], []⟩ [
      decide (Int.ofNat i < Int.ofNat (List.length (List.map (fun n0 => [I n0]) sv))) = true,
      (0 : Int) ≤ Int.ofNat i,
      Int.ofNat i < Int.ofNat (List.length (List.map (fun n0 => [I n0]) sv)),
      (List.map (fun n0 => [I n0]) sv)[i]? = some [I x],
      IntKind.wrap IntKind.i64 (Int.ofNat ((BitVec.toNat (BitVec.ofInt (64 : Nat) x) &&& (3 : Nat)))) = (0 : Int),
      IntKind.wrap IntKind.u64 (IntKind.wrap IntKind.i64 (Int.ofNat (i + (1 : Nat)))) = Int.ofNat (i + (1 : Nat)),
      Int.ofNat (i % (18446744073709551616 : Nat)) = Int.ofNat i,
      (0 : Int) ≤ (0 : Int),
      (0 : Int) ≤ (1 : Int),
      (1 : Int) ≤ (4 : Int),
      (0 : Int) ≤ Int.ofNat i,
      Int.ofNat i < Int.ofNat (List.length (List.map (fun b0 => [Bo b0]) er)),
      (List.map (fun b0 => [Bo b0]) er)[i]? = some [Bo false],
      (List.length (List.map Sp.row l) + (1 : Nat)) * (112 : Nat) ≤ (140737488355328 : Nat),
      List.map Sp.row l ++ [[V.val (Value.int IntKind.u64 (0 : Int)), V.val (Value.int IntKind.u64 (0 : Int)), V.val (Value.int IntKind.u64 (Int.ofNat (i + (1 : Nat)))), V.val (Value.int IntKind.u64 (Int.ofNat i)), Sg { data := { toList := [(97 : UInt8)] } }, Sg { data := { toList := [(111 : UInt8)] } }, I (0 : Int), I (0 : Int), Bo false, V.sl (2 : Nat) []]] = List.map Sp.row (l ++ [{ hi := (0 : Int), lo := (0 : Int), id := Int.ofNat (i + (1 : Nat)), par := Int.ofNat i, svc := { data := { toList := [(97 : UInt8)] } }, op := { data := { toList := [(111 : UInt8)] } }, start := (0 : Int), dur := (0 : Int), err := false, attrs := [] }]),
      decide (Int.ofNat i > (0 : Int)) = true,
      IntKind.wrap IntKind.i64 (Int.ofNat i + (-1 : Int)) = Int.ofNat (i - (1 : Nat)),
      (0 : Int) ≤ Int.ofNat (i - (1 : Nat)),
      Int.ofNat (i - (1 : Nat)) < Int.ofNat (List.length (List.map (fun n0 => [I n0]) sv)),
      (List.map (fun n0 => [I n0]) sv)[i - (1 : Nat)]? = some [I y],
      IntKind.wrap IntKind.i64 (Int.ofNat ((BitVec.toNat (BitVec.ofInt (64 : Nat) y) &&& (3 : Nat)))) = (3 : Int),
      IntKind.wrap IntKind.i64 (n (12 : Nat) + (1 : Int)) = n (12 : Nat) + (1 : Int),
      (0 : Int) ≤ Int.ofNat i,
      Int.ofNat i < Int.ofNat (List.length (List.map (fun b0 => [Bo b0]) er)),
      (List.map (fun b0 => [Bo b0]) er)[i]? = some [Bo false],
      false = false,
      IntKind.wrap IntKind.i64 (Int.ofNat (i + (1 : Nat))) = Int.ofNat (i + (1 : Nat))] (by kernel_rfl)
    (by
      simp only [allP]
      and_intros <;> first
        | omega
        | with_reducible assumption
        | exact hx
        | exact hk
        | exact hp
        | exact i64_small (by omega)
        | (simp; omega)
        | (simp [hx]; done)
        | (simp [hy]; done)
        | (simp [he]; done)
        | exact i64_small (by simp; omega)
        | (rw [i64_small (by simp; omega)]; exact u64_small (by simp; omega))
        | exact u64_small (by simp; omega)
        | (simp [Sp.row, chSp, U, nm]; done)
        | (rw [Int.add_neg_one]; rw [i64_small (by simp; omega)]; simp; omega)
        | (rw [i64_small (by simp; omega)]; simp; omega)
        | (simp; done)
        | decide)

theorem chGo31t (sv : List Int) (er : List Bool) (l : List Sp) (n bad : Nat → Int) (i : Nat) (x y : Int) (h : i < sv.length) (hs : sv.length ≤ 40) (hr : sv.length ≤ er.length) (hl : l.length ≤ 1000) (hx : sv[i]? = some x) (he : er[i]? = some true) (h0 : 0 < i) (hy : sv[i - 1]? = some y) (hk : low x = 1) (hp : low y = 3) (hn : 0 ≤ n 13 ∧ n 13 ≤ 1000) (hb : 0 ≤ bad 13 ∧ bad 13 ≤ 1000) : CodeC Try.prog 0 136 chB (chS sv er l n bad i) .normal (chS sv er (l ++ [chSp i 1 true]) (upd n 13 (n 13 + 1)) (upd bad 13 (bad 13 + 1)) (i + 1)) :=
  runP hmix [.reg 8 [(3, [], some true)], .reg 10 [(3, [.row [I x]], none), (4, [.be (I 1)], none)], .reg 11 [(3, [.be (U ((i + 1 : Nat) : Int))], none), (5, [.be (U (i : Int))], none), (14, [.row [Bo true]], none), (17, [.beO ((l ++ [chSp i 1 true]).map Sp.row)], none)], .reg 12 [(1, [], some true)], .reg 13 [(2, [.be (I ((i - 1 : Nat) : Int))], none), (4, [.row [I y]], none), (5, [.be (I 3)], none)], .reg 14 [(5, [.be (I (n 13 + 1))], none)], .reg 15 [(3, [.row [Bo true]], some true)], .reg 16 [(5, [.be (I (bad 13 + 1))], none)], .reg 9 [(1, [.be (I ((i + 1 : Nat) : Int))], none)]] ⟨[0, 1, 6, 7, 8, 9, 10], [(2218000, 900), (901, 901), (902, 902)], []⟩ [
      decide (Int.ofNat i < Int.ofNat (List.length (List.map (fun n0 => [I n0]) sv))) = true,
      (0 : Int) ≤ Int.ofNat i,
      Int.ofNat i < Int.ofNat (List.length (List.map (fun n0 => [I n0]) sv)),
      (List.map (fun n0 => [I n0]) sv)[i]? = some [I x],
      IntKind.wrap IntKind.i64 (Int.ofNat ((BitVec.toNat (BitVec.ofInt (64 : Nat) x) &&& (3 : Nat)))) = (1 : Int),
      IntKind.wrap IntKind.u64 (IntKind.wrap IntKind.i64 (Int.ofNat (i + (1 : Nat)))) = Int.ofNat (i + (1 : Nat)),
      Int.ofNat (i % (18446744073709551616 : Nat)) = Int.ofNat i,
      (0 : Int) ≤ (1 : Int),
      (1 : Int) ≤ (2 : Int),
      (2 : Int) ≤ (4 : Int),
      (0 : Int) ≤ Int.ofNat i,
      Int.ofNat i < Int.ofNat (List.length (List.map (fun b0 => [Bo b0]) er)),
      (List.map (fun b0 => [Bo b0]) er)[i]? = some [Bo true],
      (List.length (List.map Sp.row l) + (1 : Nat)) * (112 : Nat) ≤ (140737488355328 : Nat),
      List.map Sp.row l ++ [[V.val (Value.int IntKind.u64 (0 : Int)), V.val (Value.int IntKind.u64 (0 : Int)), V.val (Value.int IntKind.u64 (Int.ofNat (i + (1 : Nat)))), V.val (Value.int IntKind.u64 (Int.ofNat i)), Sg { data := { toList := [(98 : UInt8)] } }, Sg { data := { toList := [(111 : UInt8)] } }, I (0 : Int), I (0 : Int), Bo true, V.sl (2 : Nat) []]] = List.map Sp.row (l ++ [{ hi := (0 : Int), lo := (0 : Int), id := Int.ofNat (i + (1 : Nat)), par := Int.ofNat i, svc := { data := { toList := [(98 : UInt8)] } }, op := { data := { toList := [(111 : UInt8)] } }, start := (0 : Int), dur := (0 : Int), err := true, attrs := [] }]),
      decide (Int.ofNat i > (0 : Int)) = true,
      IntKind.wrap IntKind.i64 (Int.ofNat i + (-1 : Int)) = Int.ofNat (i - (1 : Nat)),
      (0 : Int) ≤ Int.ofNat (i - (1 : Nat)),
      Int.ofNat (i - (1 : Nat)) < Int.ofNat (List.length (List.map (fun n0 => [I n0]) sv)),
      (List.map (fun n0 => [I n0]) sv)[i - (1 : Nat)]? = some [I y],
      IntKind.wrap IntKind.i64 (Int.ofNat ((BitVec.toNat (BitVec.ofInt (64 : Nat) y) &&& (3 : Nat)))) = (3 : Int),
      IntKind.wrap IntKind.i64 (n (13 : Nat) + (1 : Int)) = n (13 : Nat) + (1 : Int),
      (0 : Int) ≤ Int.ofNat i,
      Int.ofNat i < Int.ofNat (List.length (List.map (fun b0 => [Bo b0]) er)),
      (List.map (fun b0 => [Bo b0]) er)[i]? = some [Bo true],
      true = true,
      IntKind.wrap IntKind.i64 (bad (13 : Nat) + (1 : Int)) = bad (13 : Nat) + (1 : Int),
      IntKind.wrap IntKind.i64 (Int.ofNat (i + (1 : Nat))) = Int.ofNat (i + (1 : Nat))] (by kernel_rfl)
    (by
      simp only [allP]
      and_intros <;> first
        | omega
        | with_reducible assumption
        | exact hx
        | exact hk
        | exact hp
        | exact i64_small (by omega)
        | (simp; omega)
        | (simp [hx]; done)
        | (simp [hy]; done)
        | (simp [he]; done)
        | exact i64_small (by simp; omega)
        | (rw [i64_small (by simp; omega)]; exact u64_small (by simp; omega))
        | exact u64_small (by simp; omega)
        | (simp [Sp.row, chSp, U, nm]; done)
        | (rw [Int.add_neg_one]; rw [i64_small (by simp; omega)]; simp; omega)
        | (rw [i64_small (by simp; omega)]; simp; omega)
        | (simp; done)
        | decide)

theorem chGo31f (sv : List Int) (er : List Bool) (l : List Sp) (n bad : Nat → Int) (i : Nat) (x y : Int) (h : i < sv.length) (hs : sv.length ≤ 40) (hr : sv.length ≤ er.length) (hl : l.length ≤ 1000) (hx : sv[i]? = some x) (he : er[i]? = some false) (h0 : 0 < i) (hy : sv[i - 1]? = some y) (hk : low x = 1) (hp : low y = 3) (hn : 0 ≤ n 13 ∧ n 13 ≤ 1000) (hb : 0 ≤ bad 13 ∧ bad 13 ≤ 1000) : CodeC Try.prog 0 136 chB (chS sv er l n bad i) .normal (chS sv er (l ++ [chSp i 1 false]) (upd n 13 (n 13 + 1)) bad (i + 1)) :=
  runP hmix [.reg 8 [(3, [], some true)], .reg 10 [(3, [.row [I x]], none), (4, [.be (I 1)], none)], .reg 11 [(3, [.be (U ((i + 1 : Nat) : Int))], none), (5, [.be (U (i : Int))], none), (14, [.row [Bo false]], none), (17, [.beO ((l ++ [chSp i 1 false]).map Sp.row)], none)], .reg 12 [(1, [], some true)], .reg 13 [(2, [.be (I ((i - 1 : Nat) : Int))], none), (4, [.row [I y]], none), (5, [.be (I 3)], none)], .reg 14 [(5, [.be (I (n 13 + 1))], none)], .reg 15 [(3, [.row [Bo false]], some false)], .reg 9 [(1, [.be (I ((i + 1 : Nat) : Int))], none)]] ⟨[0, 1, 6, 7, 8, 9, 10], [(2218000, 900), (901, 901), (902, 902)], []⟩ [
      decide (Int.ofNat i < Int.ofNat (List.length (List.map (fun n0 => [I n0]) sv))) = true,
      (0 : Int) ≤ Int.ofNat i,
      Int.ofNat i < Int.ofNat (List.length (List.map (fun n0 => [I n0]) sv)),
      (List.map (fun n0 => [I n0]) sv)[i]? = some [I x],
      IntKind.wrap IntKind.i64 (Int.ofNat ((BitVec.toNat (BitVec.ofInt (64 : Nat) x) &&& (3 : Nat)))) = (1 : Int),
      IntKind.wrap IntKind.u64 (IntKind.wrap IntKind.i64 (Int.ofNat (i + (1 : Nat)))) = Int.ofNat (i + (1 : Nat)),
      Int.ofNat (i % (18446744073709551616 : Nat)) = Int.ofNat i,
      (0 : Int) ≤ (1 : Int),
      (1 : Int) ≤ (2 : Int),
      (2 : Int) ≤ (4 : Int),
      (0 : Int) ≤ Int.ofNat i,
      Int.ofNat i < Int.ofNat (List.length (List.map (fun b0 => [Bo b0]) er)),
      (List.map (fun b0 => [Bo b0]) er)[i]? = some [Bo false],
      (List.length (List.map Sp.row l) + (1 : Nat)) * (112 : Nat) ≤ (140737488355328 : Nat),
      List.map Sp.row l ++ [[V.val (Value.int IntKind.u64 (0 : Int)), V.val (Value.int IntKind.u64 (0 : Int)), V.val (Value.int IntKind.u64 (Int.ofNat (i + (1 : Nat)))), V.val (Value.int IntKind.u64 (Int.ofNat i)), Sg { data := { toList := [(98 : UInt8)] } }, Sg { data := { toList := [(111 : UInt8)] } }, I (0 : Int), I (0 : Int), Bo false, V.sl (2 : Nat) []]] = List.map Sp.row (l ++ [{ hi := (0 : Int), lo := (0 : Int), id := Int.ofNat (i + (1 : Nat)), par := Int.ofNat i, svc := { data := { toList := [(98 : UInt8)] } }, op := { data := { toList := [(111 : UInt8)] } }, start := (0 : Int), dur := (0 : Int), err := false, attrs := [] }]),
      decide (Int.ofNat i > (0 : Int)) = true,
      IntKind.wrap IntKind.i64 (Int.ofNat i + (-1 : Int)) = Int.ofNat (i - (1 : Nat)),
      (0 : Int) ≤ Int.ofNat (i - (1 : Nat)),
      Int.ofNat (i - (1 : Nat)) < Int.ofNat (List.length (List.map (fun n0 => [I n0]) sv)),
      (List.map (fun n0 => [I n0]) sv)[i - (1 : Nat)]? = some [I y],
      IntKind.wrap IntKind.i64 (Int.ofNat ((BitVec.toNat (BitVec.ofInt (64 : Nat) y) &&& (3 : Nat)))) = (3 : Int),
      IntKind.wrap IntKind.i64 (n (13 : Nat) + (1 : Int)) = n (13 : Nat) + (1 : Int),
      (0 : Int) ≤ Int.ofNat i,
      Int.ofNat i < Int.ofNat (List.length (List.map (fun b0 => [Bo b0]) er)),
      (List.map (fun b0 => [Bo b0]) er)[i]? = some [Bo false],
      false = false,
      IntKind.wrap IntKind.i64 (Int.ofNat (i + (1 : Nat))) = Int.ofNat (i + (1 : Nat))] (by kernel_rfl)
    (by
      simp only [allP]
      and_intros <;> first
        | omega
        | with_reducible assumption
        | exact hx
        | exact hk
        | exact hp
        | exact i64_small (by omega)
        | (simp; omega)
        | (simp [hx]; done)
        | (simp [hy]; done)
        | (simp [he]; done)
        | exact i64_small (by simp; omega)
        | (rw [i64_small (by simp; omega)]; exact u64_small (by simp; omega))
        | exact u64_small (by simp; omega)
        | (simp [Sp.row, chSp, U, nm]; done)
        | (rw [Int.add_neg_one]; rw [i64_small (by simp; omega)]; simp; omega)
        | (rw [i64_small (by simp; omega)]; simp; omega)
        | (simp; done)
        | decide)

theorem chGo32t (sv : List Int) (er : List Bool) (l : List Sp) (n bad : Nat → Int) (i : Nat) (x y : Int) (h : i < sv.length) (hs : sv.length ≤ 40) (hr : sv.length ≤ er.length) (hl : l.length ≤ 1000) (hx : sv[i]? = some x) (he : er[i]? = some true) (h0 : 0 < i) (hy : sv[i - 1]? = some y) (hk : low x = 2) (hp : low y = 3) (hn : 0 ≤ n 14 ∧ n 14 ≤ 1000) (hb : 0 ≤ bad 14 ∧ bad 14 ≤ 1000) : CodeC Try.prog 0 136 chB (chS sv er l n bad i) .normal (chS sv er (l ++ [chSp i 2 true]) (upd n 14 (n 14 + 1)) (upd bad 14 (bad 14 + 1)) (i + 1)) :=
  runP hmix [.reg 8 [(3, [], some true)], .reg 10 [(3, [.row [I x]], none), (4, [.be (I 2)], none)], .reg 11 [(3, [.be (U ((i + 1 : Nat) : Int))], none), (5, [.be (U (i : Int))], none), (14, [.row [Bo true]], none), (17, [.beO ((l ++ [chSp i 2 true]).map Sp.row)], none)], .reg 12 [(1, [], some true)], .reg 13 [(2, [.be (I ((i - 1 : Nat) : Int))], none), (4, [.row [I y]], none), (5, [.be (I 3)], none)], .reg 14 [(5, [.be (I (n 14 + 1))], none)], .reg 15 [(3, [.row [Bo true]], some true)], .reg 16 [(5, [.be (I (bad 14 + 1))], none)], .reg 9 [(1, [.be (I ((i + 1 : Nat) : Int))], none)]] ⟨[0, 1, 6, 7, 8, 9, 10], [(2218000, 900), (901, 901), (902, 902)], []⟩ [
      decide (Int.ofNat i < Int.ofNat (List.length (List.map (fun n0 => [I n0]) sv))) = true,
      (0 : Int) ≤ Int.ofNat i,
      Int.ofNat i < Int.ofNat (List.length (List.map (fun n0 => [I n0]) sv)),
      (List.map (fun n0 => [I n0]) sv)[i]? = some [I x],
      IntKind.wrap IntKind.i64 (Int.ofNat ((BitVec.toNat (BitVec.ofInt (64 : Nat) x) &&& (3 : Nat)))) = (2 : Int),
      IntKind.wrap IntKind.u64 (IntKind.wrap IntKind.i64 (Int.ofNat (i + (1 : Nat)))) = Int.ofNat (i + (1 : Nat)),
      Int.ofNat (i % (18446744073709551616 : Nat)) = Int.ofNat i,
      (0 : Int) ≤ (2 : Int),
      (2 : Int) ≤ (3 : Int),
      (3 : Int) ≤ (4 : Int),
      (0 : Int) ≤ Int.ofNat i,
      Int.ofNat i < Int.ofNat (List.length (List.map (fun b0 => [Bo b0]) er)),
      (List.map (fun b0 => [Bo b0]) er)[i]? = some [Bo true],
      (List.length (List.map Sp.row l) + (1 : Nat)) * (112 : Nat) ≤ (140737488355328 : Nat),
      List.map Sp.row l ++ [[V.val (Value.int IntKind.u64 (0 : Int)), V.val (Value.int IntKind.u64 (0 : Int)), V.val (Value.int IntKind.u64 (Int.ofNat (i + (1 : Nat)))), V.val (Value.int IntKind.u64 (Int.ofNat i)), Sg { data := { toList := [(99 : UInt8)] } }, Sg { data := { toList := [(111 : UInt8)] } }, I (0 : Int), I (0 : Int), Bo true, V.sl (2 : Nat) []]] = List.map Sp.row (l ++ [{ hi := (0 : Int), lo := (0 : Int), id := Int.ofNat (i + (1 : Nat)), par := Int.ofNat i, svc := { data := { toList := [(99 : UInt8)] } }, op := { data := { toList := [(111 : UInt8)] } }, start := (0 : Int), dur := (0 : Int), err := true, attrs := [] }]),
      decide (Int.ofNat i > (0 : Int)) = true,
      IntKind.wrap IntKind.i64 (Int.ofNat i + (-1 : Int)) = Int.ofNat (i - (1 : Nat)),
      (0 : Int) ≤ Int.ofNat (i - (1 : Nat)),
      Int.ofNat (i - (1 : Nat)) < Int.ofNat (List.length (List.map (fun n0 => [I n0]) sv)),
      (List.map (fun n0 => [I n0]) sv)[i - (1 : Nat)]? = some [I y],
      IntKind.wrap IntKind.i64 (Int.ofNat ((BitVec.toNat (BitVec.ofInt (64 : Nat) y) &&& (3 : Nat)))) = (3 : Int),
      IntKind.wrap IntKind.i64 (n (14 : Nat) + (1 : Int)) = n (14 : Nat) + (1 : Int),
      (0 : Int) ≤ Int.ofNat i,
      Int.ofNat i < Int.ofNat (List.length (List.map (fun b0 => [Bo b0]) er)),
      (List.map (fun b0 => [Bo b0]) er)[i]? = some [Bo true],
      true = true,
      IntKind.wrap IntKind.i64 (bad (14 : Nat) + (1 : Int)) = bad (14 : Nat) + (1 : Int),
      IntKind.wrap IntKind.i64 (Int.ofNat (i + (1 : Nat))) = Int.ofNat (i + (1 : Nat))] (by kernel_rfl)
    (by
      simp only [allP]
      and_intros <;> first
        | omega
        | with_reducible assumption
        | exact hx
        | exact hk
        | exact hp
        | exact i64_small (by omega)
        | (simp; omega)
        | (simp [hx]; done)
        | (simp [hy]; done)
        | (simp [he]; done)
        | exact i64_small (by simp; omega)
        | (rw [i64_small (by simp; omega)]; exact u64_small (by simp; omega))
        | exact u64_small (by simp; omega)
        | (simp [Sp.row, chSp, U, nm]; done)
        | (rw [Int.add_neg_one]; rw [i64_small (by simp; omega)]; simp; omega)
        | (rw [i64_small (by simp; omega)]; simp; omega)
        | (simp; done)
        | decide)

theorem chGo32f (sv : List Int) (er : List Bool) (l : List Sp) (n bad : Nat → Int) (i : Nat) (x y : Int) (h : i < sv.length) (hs : sv.length ≤ 40) (hr : sv.length ≤ er.length) (hl : l.length ≤ 1000) (hx : sv[i]? = some x) (he : er[i]? = some false) (h0 : 0 < i) (hy : sv[i - 1]? = some y) (hk : low x = 2) (hp : low y = 3) (hn : 0 ≤ n 14 ∧ n 14 ≤ 1000) (hb : 0 ≤ bad 14 ∧ bad 14 ≤ 1000) : CodeC Try.prog 0 136 chB (chS sv er l n bad i) .normal (chS sv er (l ++ [chSp i 2 false]) (upd n 14 (n 14 + 1)) bad (i + 1)) :=
  runP hmix [.reg 8 [(3, [], some true)], .reg 10 [(3, [.row [I x]], none), (4, [.be (I 2)], none)], .reg 11 [(3, [.be (U ((i + 1 : Nat) : Int))], none), (5, [.be (U (i : Int))], none), (14, [.row [Bo false]], none), (17, [.beO ((l ++ [chSp i 2 false]).map Sp.row)], none)], .reg 12 [(1, [], some true)], .reg 13 [(2, [.be (I ((i - 1 : Nat) : Int))], none), (4, [.row [I y]], none), (5, [.be (I 3)], none)], .reg 14 [(5, [.be (I (n 14 + 1))], none)], .reg 15 [(3, [.row [Bo false]], some false)], .reg 9 [(1, [.be (I ((i + 1 : Nat) : Int))], none)]] ⟨[0, 1, 6, 7, 8, 9, 10], [(2218000, 900), (901, 901), (902, 902)], []⟩ [
      decide (Int.ofNat i < Int.ofNat (List.length (List.map (fun n0 => [I n0]) sv))) = true,
      (0 : Int) ≤ Int.ofNat i,
      Int.ofNat i < Int.ofNat (List.length (List.map (fun n0 => [I n0]) sv)),
      (List.map (fun n0 => [I n0]) sv)[i]? = some [I x],
      IntKind.wrap IntKind.i64 (Int.ofNat ((BitVec.toNat (BitVec.ofInt (64 : Nat) x) &&& (3 : Nat)))) = (2 : Int),
      IntKind.wrap IntKind.u64 (IntKind.wrap IntKind.i64 (Int.ofNat (i + (1 : Nat)))) = Int.ofNat (i + (1 : Nat)),
      Int.ofNat (i % (18446744073709551616 : Nat)) = Int.ofNat i,
      (0 : Int) ≤ (2 : Int),
      (2 : Int) ≤ (3 : Int),
      (3 : Int) ≤ (4 : Int),
      (0 : Int) ≤ Int.ofNat i,
      Int.ofNat i < Int.ofNat (List.length (List.map (fun b0 => [Bo b0]) er)),
      (List.map (fun b0 => [Bo b0]) er)[i]? = some [Bo false],
      (List.length (List.map Sp.row l) + (1 : Nat)) * (112 : Nat) ≤ (140737488355328 : Nat),
      List.map Sp.row l ++ [[V.val (Value.int IntKind.u64 (0 : Int)), V.val (Value.int IntKind.u64 (0 : Int)), V.val (Value.int IntKind.u64 (Int.ofNat (i + (1 : Nat)))), V.val (Value.int IntKind.u64 (Int.ofNat i)), Sg { data := { toList := [(99 : UInt8)] } }, Sg { data := { toList := [(111 : UInt8)] } }, I (0 : Int), I (0 : Int), Bo false, V.sl (2 : Nat) []]] = List.map Sp.row (l ++ [{ hi := (0 : Int), lo := (0 : Int), id := Int.ofNat (i + (1 : Nat)), par := Int.ofNat i, svc := { data := { toList := [(99 : UInt8)] } }, op := { data := { toList := [(111 : UInt8)] } }, start := (0 : Int), dur := (0 : Int), err := false, attrs := [] }]),
      decide (Int.ofNat i > (0 : Int)) = true,
      IntKind.wrap IntKind.i64 (Int.ofNat i + (-1 : Int)) = Int.ofNat (i - (1 : Nat)),
      (0 : Int) ≤ Int.ofNat (i - (1 : Nat)),
      Int.ofNat (i - (1 : Nat)) < Int.ofNat (List.length (List.map (fun n0 => [I n0]) sv)),
      (List.map (fun n0 => [I n0]) sv)[i - (1 : Nat)]? = some [I y],
      IntKind.wrap IntKind.i64 (Int.ofNat ((BitVec.toNat (BitVec.ofInt (64 : Nat) y) &&& (3 : Nat)))) = (3 : Int),
      IntKind.wrap IntKind.i64 (n (14 : Nat) + (1 : Int)) = n (14 : Nat) + (1 : Int),
      (0 : Int) ≤ Int.ofNat i,
      Int.ofNat i < Int.ofNat (List.length (List.map (fun b0 => [Bo b0]) er)),
      (List.map (fun b0 => [Bo b0]) er)[i]? = some [Bo false],
      false = false,
      IntKind.wrap IntKind.i64 (Int.ofNat (i + (1 : Nat))) = Int.ofNat (i + (1 : Nat))] (by kernel_rfl)
    (by
      simp only [allP]
      and_intros <;> first
        | omega
        | with_reducible assumption
        | exact hx
        | exact hk
        | exact hp
        | exact i64_small (by omega)
        | (simp; omega)
        | (simp [hx]; done)
        | (simp [hy]; done)
        | (simp [he]; done)
        | exact i64_small (by simp; omega)
        | (rw [i64_small (by simp; omega)]; exact u64_small (by simp; omega))
        | exact u64_small (by simp; omega)
        | (simp [Sp.row, chSp, U, nm]; done)
        | (rw [Int.add_neg_one]; rw [i64_small (by simp; omega)]; simp; omega)
        | (rw [i64_small (by simp; omega)]; simp; omega)
        | (simp; done)
        | decide)

theorem chGo33t (sv : List Int) (er : List Bool) (l : List Sp) (n bad : Nat → Int) (i : Nat) (x y : Int) (h : i < sv.length) (hs : sv.length ≤ 40) (hr : sv.length ≤ er.length) (hl : l.length ≤ 1000) (hx : sv[i]? = some x) (he : er[i]? = some true) (h0 : 0 < i) (hy : sv[i - 1]? = some y) (hk : low x = 3) (hp : low y = 3) (hn : 0 ≤ n 15 ∧ n 15 ≤ 1000) (hb : 0 ≤ bad 15 ∧ bad 15 ≤ 1000) : CodeC Try.prog 0 136 chB (chS sv er l n bad i) .normal (chS sv er (l ++ [chSp i 3 true]) (upd n 15 (n 15 + 1)) (upd bad 15 (bad 15 + 1)) (i + 1)) :=
  runP hmix [.reg 8 [(3, [], some true)], .reg 10 [(3, [.row [I x]], none), (4, [.be (I 3)], none)], .reg 11 [(3, [.be (U ((i + 1 : Nat) : Int))], none), (5, [.be (U (i : Int))], none), (14, [.row [Bo true]], none), (17, [.beO ((l ++ [chSp i 3 true]).map Sp.row)], none)], .reg 12 [(1, [], some true)], .reg 13 [(2, [.be (I ((i - 1 : Nat) : Int))], none), (4, [.row [I y]], none), (5, [.be (I 3)], none)], .reg 14 [(5, [.be (I (n 15 + 1))], none)], .reg 15 [(3, [.row [Bo true]], some true)], .reg 16 [(5, [.be (I (bad 15 + 1))], none)], .reg 9 [(1, [.be (I ((i + 1 : Nat) : Int))], none)]] ⟨[0, 1, 6, 7, 8, 9, 10], [(2218000, 900), (901, 901), (902, 902)], []⟩ [
      decide (Int.ofNat i < Int.ofNat (List.length (List.map (fun n0 => [I n0]) sv))) = true,
      (0 : Int) ≤ Int.ofNat i,
      Int.ofNat i < Int.ofNat (List.length (List.map (fun n0 => [I n0]) sv)),
      (List.map (fun n0 => [I n0]) sv)[i]? = some [I x],
      IntKind.wrap IntKind.i64 (Int.ofNat ((BitVec.toNat (BitVec.ofInt (64 : Nat) x) &&& (3 : Nat)))) = (3 : Int),
      IntKind.wrap IntKind.u64 (IntKind.wrap IntKind.i64 (Int.ofNat (i + (1 : Nat)))) = Int.ofNat (i + (1 : Nat)),
      Int.ofNat (i % (18446744073709551616 : Nat)) = Int.ofNat i,
      (0 : Int) ≤ (3 : Int),
      (3 : Int) ≤ (4 : Int),
      (4 : Int) ≤ (4 : Int),
      (0 : Int) ≤ Int.ofNat i,
      Int.ofNat i < Int.ofNat (List.length (List.map (fun b0 => [Bo b0]) er)),
      (List.map (fun b0 => [Bo b0]) er)[i]? = some [Bo true],
      (List.length (List.map Sp.row l) + (1 : Nat)) * (112 : Nat) ≤ (140737488355328 : Nat),
      List.map Sp.row l ++ [[V.val (Value.int IntKind.u64 (0 : Int)), V.val (Value.int IntKind.u64 (0 : Int)), V.val (Value.int IntKind.u64 (Int.ofNat (i + (1 : Nat)))), V.val (Value.int IntKind.u64 (Int.ofNat i)), Sg { data := { toList := [(100 : UInt8)] } }, Sg { data := { toList := [(111 : UInt8)] } }, I (0 : Int), I (0 : Int), Bo true, V.sl (2 : Nat) []]] = List.map Sp.row (l ++ [{ hi := (0 : Int), lo := (0 : Int), id := Int.ofNat (i + (1 : Nat)), par := Int.ofNat i, svc := { data := { toList := [(100 : UInt8)] } }, op := { data := { toList := [(111 : UInt8)] } }, start := (0 : Int), dur := (0 : Int), err := true, attrs := [] }]),
      decide (Int.ofNat i > (0 : Int)) = true,
      IntKind.wrap IntKind.i64 (Int.ofNat i + (-1 : Int)) = Int.ofNat (i - (1 : Nat)),
      (0 : Int) ≤ Int.ofNat (i - (1 : Nat)),
      Int.ofNat (i - (1 : Nat)) < Int.ofNat (List.length (List.map (fun n0 => [I n0]) sv)),
      (List.map (fun n0 => [I n0]) sv)[i - (1 : Nat)]? = some [I y],
      IntKind.wrap IntKind.i64 (Int.ofNat ((BitVec.toNat (BitVec.ofInt (64 : Nat) y) &&& (3 : Nat)))) = (3 : Int),
      IntKind.wrap IntKind.i64 (n (15 : Nat) + (1 : Int)) = n (15 : Nat) + (1 : Int),
      (0 : Int) ≤ Int.ofNat i,
      Int.ofNat i < Int.ofNat (List.length (List.map (fun b0 => [Bo b0]) er)),
      (List.map (fun b0 => [Bo b0]) er)[i]? = some [Bo true],
      true = true,
      IntKind.wrap IntKind.i64 (bad (15 : Nat) + (1 : Int)) = bad (15 : Nat) + (1 : Int),
      IntKind.wrap IntKind.i64 (Int.ofNat (i + (1 : Nat))) = Int.ofNat (i + (1 : Nat))] (by kernel_rfl)
    (by
      simp only [allP]
      and_intros <;> first
        | omega
        | with_reducible assumption
        | exact hx
        | exact hk
        | exact hp
        | exact i64_small (by omega)
        | (simp; omega)
        | (simp [hx]; done)
        | (simp [hy]; done)
        | (simp [he]; done)
        | exact i64_small (by simp; omega)
        | (rw [i64_small (by simp; omega)]; exact u64_small (by simp; omega))
        | exact u64_small (by simp; omega)
        | (simp [Sp.row, chSp, U, nm]; done)
        | (rw [Int.add_neg_one]; rw [i64_small (by simp; omega)]; simp; omega)
        | (rw [i64_small (by simp; omega)]; simp; omega)
        | (simp; done)
        | decide)

theorem chGo33f (sv : List Int) (er : List Bool) (l : List Sp) (n bad : Nat → Int) (i : Nat) (x y : Int) (h : i < sv.length) (hs : sv.length ≤ 40) (hr : sv.length ≤ er.length) (hl : l.length ≤ 1000) (hx : sv[i]? = some x) (he : er[i]? = some false) (h0 : 0 < i) (hy : sv[i - 1]? = some y) (hk : low x = 3) (hp : low y = 3) (hn : 0 ≤ n 15 ∧ n 15 ≤ 1000) (hb : 0 ≤ bad 15 ∧ bad 15 ≤ 1000) : CodeC Try.prog 0 136 chB (chS sv er l n bad i) .normal (chS sv er (l ++ [chSp i 3 false]) (upd n 15 (n 15 + 1)) bad (i + 1)) :=
  runP hmix [.reg 8 [(3, [], some true)], .reg 10 [(3, [.row [I x]], none), (4, [.be (I 3)], none)], .reg 11 [(3, [.be (U ((i + 1 : Nat) : Int))], none), (5, [.be (U (i : Int))], none), (14, [.row [Bo false]], none), (17, [.beO ((l ++ [chSp i 3 false]).map Sp.row)], none)], .reg 12 [(1, [], some true)], .reg 13 [(2, [.be (I ((i - 1 : Nat) : Int))], none), (4, [.row [I y]], none), (5, [.be (I 3)], none)], .reg 14 [(5, [.be (I (n 15 + 1))], none)], .reg 15 [(3, [.row [Bo false]], some false)], .reg 9 [(1, [.be (I ((i + 1 : Nat) : Int))], none)]] ⟨[0, 1, 6, 7, 8, 9, 10], [(2218000, 900), (901, 901), (902, 902)], []⟩ [
      decide (Int.ofNat i < Int.ofNat (List.length (List.map (fun n0 => [I n0]) sv))) = true,
      (0 : Int) ≤ Int.ofNat i,
      Int.ofNat i < Int.ofNat (List.length (List.map (fun n0 => [I n0]) sv)),
      (List.map (fun n0 => [I n0]) sv)[i]? = some [I x],
      IntKind.wrap IntKind.i64 (Int.ofNat ((BitVec.toNat (BitVec.ofInt (64 : Nat) x) &&& (3 : Nat)))) = (3 : Int),
      IntKind.wrap IntKind.u64 (IntKind.wrap IntKind.i64 (Int.ofNat (i + (1 : Nat)))) = Int.ofNat (i + (1 : Nat)),
      Int.ofNat (i % (18446744073709551616 : Nat)) = Int.ofNat i,
      (0 : Int) ≤ (3 : Int),
      (3 : Int) ≤ (4 : Int),
      (4 : Int) ≤ (4 : Int),
      (0 : Int) ≤ Int.ofNat i,
      Int.ofNat i < Int.ofNat (List.length (List.map (fun b0 => [Bo b0]) er)),
      (List.map (fun b0 => [Bo b0]) er)[i]? = some [Bo false],
      (List.length (List.map Sp.row l) + (1 : Nat)) * (112 : Nat) ≤ (140737488355328 : Nat),
      List.map Sp.row l ++ [[V.val (Value.int IntKind.u64 (0 : Int)), V.val (Value.int IntKind.u64 (0 : Int)), V.val (Value.int IntKind.u64 (Int.ofNat (i + (1 : Nat)))), V.val (Value.int IntKind.u64 (Int.ofNat i)), Sg { data := { toList := [(100 : UInt8)] } }, Sg { data := { toList := [(111 : UInt8)] } }, I (0 : Int), I (0 : Int), Bo false, V.sl (2 : Nat) []]] = List.map Sp.row (l ++ [{ hi := (0 : Int), lo := (0 : Int), id := Int.ofNat (i + (1 : Nat)), par := Int.ofNat i, svc := { data := { toList := [(100 : UInt8)] } }, op := { data := { toList := [(111 : UInt8)] } }, start := (0 : Int), dur := (0 : Int), err := false, attrs := [] }]),
      decide (Int.ofNat i > (0 : Int)) = true,
      IntKind.wrap IntKind.i64 (Int.ofNat i + (-1 : Int)) = Int.ofNat (i - (1 : Nat)),
      (0 : Int) ≤ Int.ofNat (i - (1 : Nat)),
      Int.ofNat (i - (1 : Nat)) < Int.ofNat (List.length (List.map (fun n0 => [I n0]) sv)),
      (List.map (fun n0 => [I n0]) sv)[i - (1 : Nat)]? = some [I y],
      IntKind.wrap IntKind.i64 (Int.ofNat ((BitVec.toNat (BitVec.ofInt (64 : Nat) y) &&& (3 : Nat)))) = (3 : Int),
      IntKind.wrap IntKind.i64 (n (15 : Nat) + (1 : Int)) = n (15 : Nat) + (1 : Int),
      (0 : Int) ≤ Int.ofNat i,
      Int.ofNat i < Int.ofNat (List.length (List.map (fun b0 => [Bo b0]) er)),
      (List.map (fun b0 => [Bo b0]) er)[i]? = some [Bo false],
      false = false,
      IntKind.wrap IntKind.i64 (Int.ofNat (i + (1 : Nat))) = Int.ofNat (i + (1 : Nat))] (by kernel_rfl)
    (by
      simp only [allP]
      and_intros <;> first
        | omega
        | with_reducible assumption
        | exact hx
        | exact hk
        | exact hp
        | exact i64_small (by omega)
        | (simp; omega)
        | (simp [hx]; done)
        | (simp [hy]; done)
        | (simp [he]; done)
        | exact i64_small (by simp; omega)
        | (rw [i64_small (by simp; omega)]; exact u64_small (by simp; omega))
        | exact u64_small (by simp; omega)
        | (simp [Sp.row, chSp, U, nm]; done)
        | (rw [Int.add_neg_one]; rw [i64_small (by simp; omega)]; simp; omega)
        | (rw [i64_small (by simp; omega)]; simp; omega)
        | (simp; done)
        | decide)

theorem chEnd (sv : List Int) (er : List Bool) (l : List Sp) (n bad : Nat → Int) (i : Nat) (h : sv.length ≤ i) : CodeC Try.prog 0 136 chB (chS sv er l n bad i) (.exit 0) (chS sv er l n bad i) :=
  runP hmix [.reg 8 [(3, [], some false)]] ⟨[0, 1, 6, 7, 8, 9, 10], [(900, 900), (901, 901), (902, 902)], []⟩ [
      decide (Int.ofNat i < Int.ofNat (List.length (List.map (fun n0 => [I n0]) sv))) = false] (by kernel_rfl)
    (by
      simp only [allP]
      and_intros <;> first
        | omega
        | with_reducible assumption
        | (simp; omega)
        | (simp; done)
        | decide)

theorem wiSkip00 (l : List Sp) (n bad : Nat → Int) (w : List Ed)  : CodeC Try.prog 0 136 wiB (wiS l n bad w 0 0) .normal (wiS l n bad w 0 (0 + 1)) :=
  runP hmix [.reg 23 [(1, [.be (I ((0 + 1 : Nat) : Int))], none)]] ⟨[6, 7, 8, 9, 13, 14, 15], [(900, 900), (901, 901), (902, 902), (903, 903)], []⟩ [
      (1 : Int) = (1 : Int)] (by kernel_rfl)
    (by simp [allP])

theorem wiSkip01 (l : List Sp) (n bad : Nat → Int) (w : List Ed) (h : ¬ 0 < n 1) : CodeC Try.prog 0 136 wiB (wiS l n bad w 0 1) .normal (wiS l n bad w 0 (1 + 1)) :=
  runP hmix [.reg 24 [(9, [], some false)], .reg 23 [(1, [.be (I ((1 + 1 : Nat) : Int))], none)]] ⟨[6, 7, 8, 9, 13, 14, 15], [(900, 900), (901, 901), (902, 902), (903, 903)], []⟩ [
      decide (n (1 : Nat) > (0 : Int)) = false,
      (2 : Int) = (2 : Int)] (by kernel_rfl)
    (by
      simp only [allP]
      and_intros <;> first
        | omega
        | with_reducible assumption
        | (simp; omega)
        | (simp; done)
        | decide)

theorem wiAdd01 (l : List Sp) (n bad : Nat → Int) (w : List Ed) (h : 0 < n 1) (hw : w.length ≤ 1000) : CodeC Try.prog 0 136 wiB (wiS l n bad w 0 1) .normal (wiS l n bad (w ++ [Ed.mk (nm 0) (nm 1) (n 1) (bad 1)]) 0 (1 + 1)) :=
  runP hmix [.reg 24 [(9, [], some true)], .reg 25 [(23, [.beO ((w ++ [Ed.mk (nm 0) (nm 1) (n 1) (bad 1)]).map Ed.row)], none)], .reg 23 [(1, [.be (I ((1 + 1 : Nat) : Int))], none)]] ⟨[6, 7, 8, 9, 13, 14, 15], [(900, 900), (901, 901), (902, 902), (5024000, 903)], []⟩ [
      decide (n (1 : Nat) > (0 : Int)) = true,
      (0 : Int) ≤ (0 : Int),
      (0 : Int) ≤ (1 : Int),
      (1 : Int) ≤ (4 : Int),
      (0 : Int) ≤ (1 : Int),
      (1 : Int) ≤ (2 : Int),
      (2 : Int) ≤ (4 : Int),
      (List.length (List.map Ed.row w) + (1 : Nat)) * (48 : Nat) ≤ (140737488355328 : Nat),
      List.map Ed.row w ++ [[Sg { data := { toList := [(97 : UInt8)] } }, Sg { data := { toList := [(98 : UInt8)] } }, I (n (1 : Nat)), I (bad (1 : Nat))]] = List.map Ed.row (w ++ [{ fr := { data := { toList := [(97 : UInt8)] } }, to := { data := { toList := [(98 : UInt8)] } }, cnt := n (1 : Nat), errs := bad (1 : Nat) }]),
      (2 : Int) = (2 : Int)] (by kernel_rfl)
    (by
      simp only [allP]
      and_intros <;> first
        | omega
        | with_reducible assumption
        | (simp; omega)
        | (simp [Ed.row, nm]; done)
        | (simp; done)
        | decide)

theorem wiSkip02 (l : List Sp) (n bad : Nat → Int) (w : List Ed) (h : ¬ 0 < n 2) : CodeC Try.prog 0 136 wiB (wiS l n bad w 0 2) .normal (wiS l n bad w 0 (2 + 1)) :=
  runP hmix [.reg 24 [(9, [], some false)], .reg 23 [(1, [.be (I ((2 + 1 : Nat) : Int))], none)]] ⟨[6, 7, 8, 9, 13, 14, 15], [(900, 900), (901, 901), (902, 902), (903, 903)], []⟩ [
      decide (n (2 : Nat) > (0 : Int)) = false,
      (3 : Int) = (3 : Int)] (by kernel_rfl)
    (by
      simp only [allP]
      and_intros <;> first
        | omega
        | with_reducible assumption
        | (simp; omega)
        | (simp; done)
        | decide)

theorem wiAdd02 (l : List Sp) (n bad : Nat → Int) (w : List Ed) (h : 0 < n 2) (hw : w.length ≤ 1000) : CodeC Try.prog 0 136 wiB (wiS l n bad w 0 2) .normal (wiS l n bad (w ++ [Ed.mk (nm 0) (nm 2) (n 2) (bad 2)]) 0 (2 + 1)) :=
  runP hmix [.reg 24 [(9, [], some true)], .reg 25 [(23, [.beO ((w ++ [Ed.mk (nm 0) (nm 2) (n 2) (bad 2)]).map Ed.row)], none)], .reg 23 [(1, [.be (I ((2 + 1 : Nat) : Int))], none)]] ⟨[6, 7, 8, 9, 13, 14, 15], [(900, 900), (901, 901), (902, 902), (5024000, 903)], []⟩ [
      decide (n (2 : Nat) > (0 : Int)) = true,
      (0 : Int) ≤ (0 : Int),
      (0 : Int) ≤ (1 : Int),
      (1 : Int) ≤ (4 : Int),
      (0 : Int) ≤ (2 : Int),
      (2 : Int) ≤ (3 : Int),
      (3 : Int) ≤ (4 : Int),
      (List.length (List.map Ed.row w) + (1 : Nat)) * (48 : Nat) ≤ (140737488355328 : Nat),
      List.map Ed.row w ++ [[Sg { data := { toList := [(97 : UInt8)] } }, Sg { data := { toList := [(99 : UInt8)] } }, I (n (2 : Nat)), I (bad (2 : Nat))]] = List.map Ed.row (w ++ [{ fr := { data := { toList := [(97 : UInt8)] } }, to := { data := { toList := [(99 : UInt8)] } }, cnt := n (2 : Nat), errs := bad (2 : Nat) }]),
      (3 : Int) = (3 : Int)] (by kernel_rfl)
    (by
      simp only [allP]
      and_intros <;> first
        | omega
        | with_reducible assumption
        | (simp; omega)
        | (simp [Ed.row, nm]; done)
        | (simp; done)
        | decide)

theorem wiSkip03 (l : List Sp) (n bad : Nat → Int) (w : List Ed) (h : ¬ 0 < n 3) : CodeC Try.prog 0 136 wiB (wiS l n bad w 0 3) .normal (wiS l n bad w 0 (3 + 1)) :=
  runP hmix [.reg 24 [(9, [], some false)], .reg 23 [(1, [.be (I ((3 + 1 : Nat) : Int))], none)]] ⟨[6, 7, 8, 9, 13, 14, 15], [(900, 900), (901, 901), (902, 902), (903, 903)], []⟩ [
      decide (n (3 : Nat) > (0 : Int)) = false,
      (4 : Int) = (4 : Int)] (by kernel_rfl)
    (by
      simp only [allP]
      and_intros <;> first
        | omega
        | with_reducible assumption
        | (simp; omega)
        | (simp; done)
        | decide)

theorem wiAdd03 (l : List Sp) (n bad : Nat → Int) (w : List Ed) (h : 0 < n 3) (hw : w.length ≤ 1000) : CodeC Try.prog 0 136 wiB (wiS l n bad w 0 3) .normal (wiS l n bad (w ++ [Ed.mk (nm 0) (nm 3) (n 3) (bad 3)]) 0 (3 + 1)) :=
  runP hmix [.reg 24 [(9, [], some true)], .reg 25 [(23, [.beO ((w ++ [Ed.mk (nm 0) (nm 3) (n 3) (bad 3)]).map Ed.row)], none)], .reg 23 [(1, [.be (I ((3 + 1 : Nat) : Int))], none)]] ⟨[6, 7, 8, 9, 13, 14, 15], [(900, 900), (901, 901), (902, 902), (5024000, 903)], []⟩ [
      decide (n (3 : Nat) > (0 : Int)) = true,
      (0 : Int) ≤ (0 : Int),
      (0 : Int) ≤ (1 : Int),
      (1 : Int) ≤ (4 : Int),
      (0 : Int) ≤ (3 : Int),
      (3 : Int) ≤ (4 : Int),
      (4 : Int) ≤ (4 : Int),
      (List.length (List.map Ed.row w) + (1 : Nat)) * (48 : Nat) ≤ (140737488355328 : Nat),
      List.map Ed.row w ++ [[Sg { data := { toList := [(97 : UInt8)] } }, Sg { data := { toList := [(100 : UInt8)] } }, I (n (3 : Nat)), I (bad (3 : Nat))]] = List.map Ed.row (w ++ [{ fr := { data := { toList := [(97 : UInt8)] } }, to := { data := { toList := [(100 : UInt8)] } }, cnt := n (3 : Nat), errs := bad (3 : Nat) }]),
      (4 : Int) = (4 : Int)] (by kernel_rfl)
    (by
      simp only [allP]
      and_intros <;> first
        | omega
        | with_reducible assumption
        | (simp; omega)
        | (simp [Ed.row, nm]; done)
        | (simp; done)
        | decide)

theorem wiSkip10 (l : List Sp) (n bad : Nat → Int) (w : List Ed) (h : ¬ 0 < n 4) : CodeC Try.prog 0 136 wiB (wiS l n bad w 1 0) .normal (wiS l n bad w 1 (0 + 1)) :=
  runP hmix [.reg 24 [(9, [], some false)], .reg 23 [(1, [.be (I ((0 + 1 : Nat) : Int))], none)]] ⟨[6, 7, 8, 9, 13, 14, 15], [(900, 900), (901, 901), (902, 902), (903, 903)], []⟩ [
      decide (n (4 : Nat) > (0 : Int)) = false,
      (1 : Int) = (1 : Int)] (by kernel_rfl)
    (by
      simp only [allP]
      and_intros <;> first
        | omega
        | with_reducible assumption
        | (simp; omega)
        | (simp; done)
        | decide)

theorem wiAdd10 (l : List Sp) (n bad : Nat → Int) (w : List Ed) (h : 0 < n 4) (hw : w.length ≤ 1000) : CodeC Try.prog 0 136 wiB (wiS l n bad w 1 0) .normal (wiS l n bad (w ++ [Ed.mk (nm 1) (nm 0) (n 4) (bad 4)]) 1 (0 + 1)) :=
  runP hmix [.reg 24 [(9, [], some true)], .reg 25 [(23, [.beO ((w ++ [Ed.mk (nm 1) (nm 0) (n 4) (bad 4)]).map Ed.row)], none)], .reg 23 [(1, [.be (I ((0 + 1 : Nat) : Int))], none)]] ⟨[6, 7, 8, 9, 13, 14, 15], [(900, 900), (901, 901), (902, 902), (5024000, 903)], []⟩ [
      decide (n (4 : Nat) > (0 : Int)) = true,
      (0 : Int) ≤ (1 : Int),
      (1 : Int) ≤ (2 : Int),
      (2 : Int) ≤ (4 : Int),
      (0 : Int) ≤ (0 : Int),
      (0 : Int) ≤ (1 : Int),
      (1 : Int) ≤ (4 : Int),
      (List.length (List.map Ed.row w) + (1 : Nat)) * (48 : Nat) ≤ (140737488355328 : Nat),
      List.map Ed.row w ++ [[Sg { data := { toList := [(98 : UInt8)] } }, Sg { data := { toList := [(97 : UInt8)] } }, I (n (4 : Nat)), I (bad (4 : Nat))]] = List.map Ed.row (w ++ [{ fr := { data := { toList := [(98 : UInt8)] } }, to := { data := { toList := [(97 : UInt8)] } }, cnt := n (4 : Nat), errs := bad (4 : Nat) }]),
      (1 : Int) = (1 : Int)] (by kernel_rfl)
    (by
      simp only [allP]
      and_intros <;> first
        | omega
        | with_reducible assumption
        | (simp; omega)
        | (simp [Ed.row, nm]; done)
        | (simp; done)
        | decide)

theorem wiSkip11 (l : List Sp) (n bad : Nat → Int) (w : List Ed)  : CodeC Try.prog 0 136 wiB (wiS l n bad w 1 1) .normal (wiS l n bad w 1 (1 + 1)) :=
  runP hmix [.reg 23 [(1, [.be (I ((1 + 1 : Nat) : Int))], none)]] ⟨[6, 7, 8, 9, 13, 14, 15], [(900, 900), (901, 901), (902, 902), (903, 903)], []⟩ [
      (2 : Int) = (2 : Int)] (by kernel_rfl)
    (by simp [allP])

theorem wiSkip12 (l : List Sp) (n bad : Nat → Int) (w : List Ed) (h : ¬ 0 < n 6) : CodeC Try.prog 0 136 wiB (wiS l n bad w 1 2) .normal (wiS l n bad w 1 (2 + 1)) :=
  runP hmix [.reg 24 [(9, [], some false)], .reg 23 [(1, [.be (I ((2 + 1 : Nat) : Int))], none)]] ⟨[6, 7, 8, 9, 13, 14, 15], [(900, 900), (901, 901), (902, 902), (903, 903)], []⟩ [
      decide (n (6 : Nat) > (0 : Int)) = false,
      (3 : Int) = (3 : Int)] (by kernel_rfl)
    (by
      simp only [allP]
      and_intros <;> first
        | omega
        | with_reducible assumption
        | (simp; omega)
        | (simp; done)
        | decide)

theorem wiAdd12 (l : List Sp) (n bad : Nat → Int) (w : List Ed) (h : 0 < n 6) (hw : w.length ≤ 1000) : CodeC Try.prog 0 136 wiB (wiS l n bad w 1 2) .normal (wiS l n bad (w ++ [Ed.mk (nm 1) (nm 2) (n 6) (bad 6)]) 1 (2 + 1)) :=
  runP hmix [.reg 24 [(9, [], some true)], .reg 25 [(23, [.beO ((w ++ [Ed.mk (nm 1) (nm 2) (n 6) (bad 6)]).map Ed.row)], none)], .reg 23 [(1, [.be (I ((2 + 1 : Nat) : Int))], none)]] ⟨[6, 7, 8, 9, 13, 14, 15], [(900, 900), (901, 901), (902, 902), (5024000, 903)], []⟩ [
      decide (n (6 : Nat) > (0 : Int)) = true,
      (0 : Int) ≤ (1 : Int),
      (1 : Int) ≤ (2 : Int),
      (2 : Int) ≤ (4 : Int),
      (0 : Int) ≤ (2 : Int),
      (2 : Int) ≤ (3 : Int),
      (3 : Int) ≤ (4 : Int),
      (List.length (List.map Ed.row w) + (1 : Nat)) * (48 : Nat) ≤ (140737488355328 : Nat),
      List.map Ed.row w ++ [[Sg { data := { toList := [(98 : UInt8)] } }, Sg { data := { toList := [(99 : UInt8)] } }, I (n (6 : Nat)), I (bad (6 : Nat))]] = List.map Ed.row (w ++ [{ fr := { data := { toList := [(98 : UInt8)] } }, to := { data := { toList := [(99 : UInt8)] } }, cnt := n (6 : Nat), errs := bad (6 : Nat) }]),
      (3 : Int) = (3 : Int)] (by kernel_rfl)
    (by
      simp only [allP]
      and_intros <;> first
        | omega
        | with_reducible assumption
        | (simp; omega)
        | (simp [Ed.row, nm]; done)
        | (simp; done)
        | decide)

theorem wiSkip13 (l : List Sp) (n bad : Nat → Int) (w : List Ed) (h : ¬ 0 < n 7) : CodeC Try.prog 0 136 wiB (wiS l n bad w 1 3) .normal (wiS l n bad w 1 (3 + 1)) :=
  runP hmix [.reg 24 [(9, [], some false)], .reg 23 [(1, [.be (I ((3 + 1 : Nat) : Int))], none)]] ⟨[6, 7, 8, 9, 13, 14, 15], [(900, 900), (901, 901), (902, 902), (903, 903)], []⟩ [
      decide (n (7 : Nat) > (0 : Int)) = false,
      (4 : Int) = (4 : Int)] (by kernel_rfl)
    (by
      simp only [allP]
      and_intros <;> first
        | omega
        | with_reducible assumption
        | (simp; omega)
        | (simp; done)
        | decide)

theorem wiAdd13 (l : List Sp) (n bad : Nat → Int) (w : List Ed) (h : 0 < n 7) (hw : w.length ≤ 1000) : CodeC Try.prog 0 136 wiB (wiS l n bad w 1 3) .normal (wiS l n bad (w ++ [Ed.mk (nm 1) (nm 3) (n 7) (bad 7)]) 1 (3 + 1)) :=
  runP hmix [.reg 24 [(9, [], some true)], .reg 25 [(23, [.beO ((w ++ [Ed.mk (nm 1) (nm 3) (n 7) (bad 7)]).map Ed.row)], none)], .reg 23 [(1, [.be (I ((3 + 1 : Nat) : Int))], none)]] ⟨[6, 7, 8, 9, 13, 14, 15], [(900, 900), (901, 901), (902, 902), (5024000, 903)], []⟩ [
      decide (n (7 : Nat) > (0 : Int)) = true,
      (0 : Int) ≤ (1 : Int),
      (1 : Int) ≤ (2 : Int),
      (2 : Int) ≤ (4 : Int),
      (0 : Int) ≤ (3 : Int),
      (3 : Int) ≤ (4 : Int),
      (4 : Int) ≤ (4 : Int),
      (List.length (List.map Ed.row w) + (1 : Nat)) * (48 : Nat) ≤ (140737488355328 : Nat),
      List.map Ed.row w ++ [[Sg { data := { toList := [(98 : UInt8)] } }, Sg { data := { toList := [(100 : UInt8)] } }, I (n (7 : Nat)), I (bad (7 : Nat))]] = List.map Ed.row (w ++ [{ fr := { data := { toList := [(98 : UInt8)] } }, to := { data := { toList := [(100 : UInt8)] } }, cnt := n (7 : Nat), errs := bad (7 : Nat) }]),
      (4 : Int) = (4 : Int)] (by kernel_rfl)
    (by
      simp only [allP]
      and_intros <;> first
        | omega
        | with_reducible assumption
        | (simp; omega)
        | (simp [Ed.row, nm]; done)
        | (simp; done)
        | decide)

theorem wiSkip20 (l : List Sp) (n bad : Nat → Int) (w : List Ed) (h : ¬ 0 < n 8) : CodeC Try.prog 0 136 wiB (wiS l n bad w 2 0) .normal (wiS l n bad w 2 (0 + 1)) :=
  runP hmix [.reg 24 [(9, [], some false)], .reg 23 [(1, [.be (I ((0 + 1 : Nat) : Int))], none)]] ⟨[6, 7, 8, 9, 13, 14, 15], [(900, 900), (901, 901), (902, 902), (903, 903)], []⟩ [
      decide (n (8 : Nat) > (0 : Int)) = false,
      (1 : Int) = (1 : Int)] (by kernel_rfl)
    (by
      simp only [allP]
      and_intros <;> first
        | omega
        | with_reducible assumption
        | (simp; omega)
        | (simp; done)
        | decide)

theorem wiAdd20 (l : List Sp) (n bad : Nat → Int) (w : List Ed) (h : 0 < n 8) (hw : w.length ≤ 1000) : CodeC Try.prog 0 136 wiB (wiS l n bad w 2 0) .normal (wiS l n bad (w ++ [Ed.mk (nm 2) (nm 0) (n 8) (bad 8)]) 2 (0 + 1)) :=
  runP hmix [.reg 24 [(9, [], some true)], .reg 25 [(23, [.beO ((w ++ [Ed.mk (nm 2) (nm 0) (n 8) (bad 8)]).map Ed.row)], none)], .reg 23 [(1, [.be (I ((0 + 1 : Nat) : Int))], none)]] ⟨[6, 7, 8, 9, 13, 14, 15], [(900, 900), (901, 901), (902, 902), (5024000, 903)], []⟩ [
      decide (n (8 : Nat) > (0 : Int)) = true,
      (0 : Int) ≤ (2 : Int),
      (2 : Int) ≤ (3 : Int),
      (3 : Int) ≤ (4 : Int),
      (0 : Int) ≤ (0 : Int),
      (0 : Int) ≤ (1 : Int),
      (1 : Int) ≤ (4 : Int),
      (List.length (List.map Ed.row w) + (1 : Nat)) * (48 : Nat) ≤ (140737488355328 : Nat),
      List.map Ed.row w ++ [[Sg { data := { toList := [(99 : UInt8)] } }, Sg { data := { toList := [(97 : UInt8)] } }, I (n (8 : Nat)), I (bad (8 : Nat))]] = List.map Ed.row (w ++ [{ fr := { data := { toList := [(99 : UInt8)] } }, to := { data := { toList := [(97 : UInt8)] } }, cnt := n (8 : Nat), errs := bad (8 : Nat) }]),
      (1 : Int) = (1 : Int)] (by kernel_rfl)
    (by
      simp only [allP]
      and_intros <;> first
        | omega
        | with_reducible assumption
        | (simp; omega)
        | (simp [Ed.row, nm]; done)
        | (simp; done)
        | decide)

theorem wiSkip21 (l : List Sp) (n bad : Nat → Int) (w : List Ed) (h : ¬ 0 < n 9) : CodeC Try.prog 0 136 wiB (wiS l n bad w 2 1) .normal (wiS l n bad w 2 (1 + 1)) :=
  runP hmix [.reg 24 [(9, [], some false)], .reg 23 [(1, [.be (I ((1 + 1 : Nat) : Int))], none)]] ⟨[6, 7, 8, 9, 13, 14, 15], [(900, 900), (901, 901), (902, 902), (903, 903)], []⟩ [
      decide (n (9 : Nat) > (0 : Int)) = false,
      (2 : Int) = (2 : Int)] (by kernel_rfl)
    (by
      simp only [allP]
      and_intros <;> first
        | omega
        | with_reducible assumption
        | (simp; omega)
        | (simp; done)
        | decide)

theorem wiAdd21 (l : List Sp) (n bad : Nat → Int) (w : List Ed) (h : 0 < n 9) (hw : w.length ≤ 1000) : CodeC Try.prog 0 136 wiB (wiS l n bad w 2 1) .normal (wiS l n bad (w ++ [Ed.mk (nm 2) (nm 1) (n 9) (bad 9)]) 2 (1 + 1)) :=
  runP hmix [.reg 24 [(9, [], some true)], .reg 25 [(23, [.beO ((w ++ [Ed.mk (nm 2) (nm 1) (n 9) (bad 9)]).map Ed.row)], none)], .reg 23 [(1, [.be (I ((1 + 1 : Nat) : Int))], none)]] ⟨[6, 7, 8, 9, 13, 14, 15], [(900, 900), (901, 901), (902, 902), (5024000, 903)], []⟩ [
      decide (n (9 : Nat) > (0 : Int)) = true,
      (0 : Int) ≤ (2 : Int),
      (2 : Int) ≤ (3 : Int),
      (3 : Int) ≤ (4 : Int),
      (0 : Int) ≤ (1 : Int),
      (1 : Int) ≤ (2 : Int),
      (2 : Int) ≤ (4 : Int),
      (List.length (List.map Ed.row w) + (1 : Nat)) * (48 : Nat) ≤ (140737488355328 : Nat),
      List.map Ed.row w ++ [[Sg { data := { toList := [(99 : UInt8)] } }, Sg { data := { toList := [(98 : UInt8)] } }, I (n (9 : Nat)), I (bad (9 : Nat))]] = List.map Ed.row (w ++ [{ fr := { data := { toList := [(99 : UInt8)] } }, to := { data := { toList := [(98 : UInt8)] } }, cnt := n (9 : Nat), errs := bad (9 : Nat) }]),
      (2 : Int) = (2 : Int)] (by kernel_rfl)
    (by
      simp only [allP]
      and_intros <;> first
        | omega
        | with_reducible assumption
        | (simp; omega)
        | (simp [Ed.row, nm]; done)
        | (simp; done)
        | decide)

theorem wiSkip22 (l : List Sp) (n bad : Nat → Int) (w : List Ed)  : CodeC Try.prog 0 136 wiB (wiS l n bad w 2 2) .normal (wiS l n bad w 2 (2 + 1)) :=
  runP hmix [.reg 23 [(1, [.be (I ((2 + 1 : Nat) : Int))], none)]] ⟨[6, 7, 8, 9, 13, 14, 15], [(900, 900), (901, 901), (902, 902), (903, 903)], []⟩ [
      (3 : Int) = (3 : Int)] (by kernel_rfl)
    (by simp [allP])

theorem wiSkip23 (l : List Sp) (n bad : Nat → Int) (w : List Ed) (h : ¬ 0 < n 11) : CodeC Try.prog 0 136 wiB (wiS l n bad w 2 3) .normal (wiS l n bad w 2 (3 + 1)) :=
  runP hmix [.reg 24 [(9, [], some false)], .reg 23 [(1, [.be (I ((3 + 1 : Nat) : Int))], none)]] ⟨[6, 7, 8, 9, 13, 14, 15], [(900, 900), (901, 901), (902, 902), (903, 903)], []⟩ [
      decide (n (11 : Nat) > (0 : Int)) = false,
      (4 : Int) = (4 : Int)] (by kernel_rfl)
    (by
      simp only [allP]
      and_intros <;> first
        | omega
        | with_reducible assumption
        | (simp; omega)
        | (simp; done)
        | decide)

theorem wiAdd23 (l : List Sp) (n bad : Nat → Int) (w : List Ed) (h : 0 < n 11) (hw : w.length ≤ 1000) : CodeC Try.prog 0 136 wiB (wiS l n bad w 2 3) .normal (wiS l n bad (w ++ [Ed.mk (nm 2) (nm 3) (n 11) (bad 11)]) 2 (3 + 1)) :=
  runP hmix [.reg 24 [(9, [], some true)], .reg 25 [(23, [.beO ((w ++ [Ed.mk (nm 2) (nm 3) (n 11) (bad 11)]).map Ed.row)], none)], .reg 23 [(1, [.be (I ((3 + 1 : Nat) : Int))], none)]] ⟨[6, 7, 8, 9, 13, 14, 15], [(900, 900), (901, 901), (902, 902), (5024000, 903)], []⟩ [
      decide (n (11 : Nat) > (0 : Int)) = true,
      (0 : Int) ≤ (2 : Int),
      (2 : Int) ≤ (3 : Int),
      (3 : Int) ≤ (4 : Int),
      (0 : Int) ≤ (3 : Int),
      (3 : Int) ≤ (4 : Int),
      (4 : Int) ≤ (4 : Int),
      (List.length (List.map Ed.row w) + (1 : Nat)) * (48 : Nat) ≤ (140737488355328 : Nat),
      List.map Ed.row w ++ [[Sg { data := { toList := [(99 : UInt8)] } }, Sg { data := { toList := [(100 : UInt8)] } }, I (n (11 : Nat)), I (bad (11 : Nat))]] = List.map Ed.row (w ++ [{ fr := { data := { toList := [(99 : UInt8)] } }, to := { data := { toList := [(100 : UInt8)] } }, cnt := n (11 : Nat), errs := bad (11 : Nat) }]),
      (4 : Int) = (4 : Int)] (by kernel_rfl)
    (by
      simp only [allP]
      and_intros <;> first
        | omega
        | with_reducible assumption
        | (simp; omega)
        | (simp [Ed.row, nm]; done)
        | (simp; done)
        | decide)

theorem wiSkip30 (l : List Sp) (n bad : Nat → Int) (w : List Ed) (h : ¬ 0 < n 12) : CodeC Try.prog 0 136 wiB (wiS l n bad w 3 0) .normal (wiS l n bad w 3 (0 + 1)) :=
  runP hmix [.reg 24 [(9, [], some false)], .reg 23 [(1, [.be (I ((0 + 1 : Nat) : Int))], none)]] ⟨[6, 7, 8, 9, 13, 14, 15], [(900, 900), (901, 901), (902, 902), (903, 903)], []⟩ [
      decide (n (12 : Nat) > (0 : Int)) = false,
      (1 : Int) = (1 : Int)] (by kernel_rfl)
    (by
      simp only [allP]
      and_intros <;> first
        | omega
        | with_reducible assumption
        | (simp; omega)
        | (simp; done)
        | decide)

theorem wiAdd30 (l : List Sp) (n bad : Nat → Int) (w : List Ed) (h : 0 < n 12) (hw : w.length ≤ 1000) : CodeC Try.prog 0 136 wiB (wiS l n bad w 3 0) .normal (wiS l n bad (w ++ [Ed.mk (nm 3) (nm 0) (n 12) (bad 12)]) 3 (0 + 1)) :=
  runP hmix [.reg 24 [(9, [], some true)], .reg 25 [(23, [.beO ((w ++ [Ed.mk (nm 3) (nm 0) (n 12) (bad 12)]).map Ed.row)], none)], .reg 23 [(1, [.be (I ((0 + 1 : Nat) : Int))], none)]] ⟨[6, 7, 8, 9, 13, 14, 15], [(900, 900), (901, 901), (902, 902), (5024000, 903)], []⟩ [
      decide (n (12 : Nat) > (0 : Int)) = true,
      (0 : Int) ≤ (3 : Int),
      (3 : Int) ≤ (4 : Int),
      (4 : Int) ≤ (4 : Int),
      (0 : Int) ≤ (0 : Int),
      (0 : Int) ≤ (1 : Int),
      (1 : Int) ≤ (4 : Int),
      (List.length (List.map Ed.row w) + (1 : Nat)) * (48 : Nat) ≤ (140737488355328 : Nat),
      List.map Ed.row w ++ [[Sg { data := { toList := [(100 : UInt8)] } }, Sg { data := { toList := [(97 : UInt8)] } }, I (n (12 : Nat)), I (bad (12 : Nat))]] = List.map Ed.row (w ++ [{ fr := { data := { toList := [(100 : UInt8)] } }, to := { data := { toList := [(97 : UInt8)] } }, cnt := n (12 : Nat), errs := bad (12 : Nat) }]),
      (1 : Int) = (1 : Int)] (by kernel_rfl)
    (by
      simp only [allP]
      and_intros <;> first
        | omega
        | with_reducible assumption
        | (simp; omega)
        | (simp [Ed.row, nm]; done)
        | (simp; done)
        | decide)

theorem wiSkip31 (l : List Sp) (n bad : Nat → Int) (w : List Ed) (h : ¬ 0 < n 13) : CodeC Try.prog 0 136 wiB (wiS l n bad w 3 1) .normal (wiS l n bad w 3 (1 + 1)) :=
  runP hmix [.reg 24 [(9, [], some false)], .reg 23 [(1, [.be (I ((1 + 1 : Nat) : Int))], none)]] ⟨[6, 7, 8, 9, 13, 14, 15], [(900, 900), (901, 901), (902, 902), (903, 903)], []⟩ [
      decide (n (13 : Nat) > (0 : Int)) = false,
      (2 : Int) = (2 : Int)] (by kernel_rfl)
    (by
      simp only [allP]
      and_intros <;> first
        | omega
        | with_reducible assumption
        | (simp; omega)
        | (simp; done)
        | decide)

theorem wiAdd31 (l : List Sp) (n bad : Nat → Int) (w : List Ed) (h : 0 < n 13) (hw : w.length ≤ 1000) : CodeC Try.prog 0 136 wiB (wiS l n bad w 3 1) .normal (wiS l n bad (w ++ [Ed.mk (nm 3) (nm 1) (n 13) (bad 13)]) 3 (1 + 1)) :=
  runP hmix [.reg 24 [(9, [], some true)], .reg 25 [(23, [.beO ((w ++ [Ed.mk (nm 3) (nm 1) (n 13) (bad 13)]).map Ed.row)], none)], .reg 23 [(1, [.be (I ((1 + 1 : Nat) : Int))], none)]] ⟨[6, 7, 8, 9, 13, 14, 15], [(900, 900), (901, 901), (902, 902), (5024000, 903)], []⟩ [
      decide (n (13 : Nat) > (0 : Int)) = true,
      (0 : Int) ≤ (3 : Int),
      (3 : Int) ≤ (4 : Int),
      (4 : Int) ≤ (4 : Int),
      (0 : Int) ≤ (1 : Int),
      (1 : Int) ≤ (2 : Int),
      (2 : Int) ≤ (4 : Int),
      (List.length (List.map Ed.row w) + (1 : Nat)) * (48 : Nat) ≤ (140737488355328 : Nat),
      List.map Ed.row w ++ [[Sg { data := { toList := [(100 : UInt8)] } }, Sg { data := { toList := [(98 : UInt8)] } }, I (n (13 : Nat)), I (bad (13 : Nat))]] = List.map Ed.row (w ++ [{ fr := { data := { toList := [(100 : UInt8)] } }, to := { data := { toList := [(98 : UInt8)] } }, cnt := n (13 : Nat), errs := bad (13 : Nat) }]),
      (2 : Int) = (2 : Int)] (by kernel_rfl)
    (by
      simp only [allP]
      and_intros <;> first
        | omega
        | with_reducible assumption
        | (simp; omega)
        | (simp [Ed.row, nm]; done)
        | (simp; done)
        | decide)

theorem wiSkip32 (l : List Sp) (n bad : Nat → Int) (w : List Ed) (h : ¬ 0 < n 14) : CodeC Try.prog 0 136 wiB (wiS l n bad w 3 2) .normal (wiS l n bad w 3 (2 + 1)) :=
  runP hmix [.reg 24 [(9, [], some false)], .reg 23 [(1, [.be (I ((2 + 1 : Nat) : Int))], none)]] ⟨[6, 7, 8, 9, 13, 14, 15], [(900, 900), (901, 901), (902, 902), (903, 903)], []⟩ [
      decide (n (14 : Nat) > (0 : Int)) = false,
      (3 : Int) = (3 : Int)] (by kernel_rfl)
    (by
      simp only [allP]
      and_intros <;> first
        | omega
        | with_reducible assumption
        | (simp; omega)
        | (simp; done)
        | decide)

theorem wiAdd32 (l : List Sp) (n bad : Nat → Int) (w : List Ed) (h : 0 < n 14) (hw : w.length ≤ 1000) : CodeC Try.prog 0 136 wiB (wiS l n bad w 3 2) .normal (wiS l n bad (w ++ [Ed.mk (nm 3) (nm 2) (n 14) (bad 14)]) 3 (2 + 1)) :=
  runP hmix [.reg 24 [(9, [], some true)], .reg 25 [(23, [.beO ((w ++ [Ed.mk (nm 3) (nm 2) (n 14) (bad 14)]).map Ed.row)], none)], .reg 23 [(1, [.be (I ((2 + 1 : Nat) : Int))], none)]] ⟨[6, 7, 8, 9, 13, 14, 15], [(900, 900), (901, 901), (902, 902), (5024000, 903)], []⟩ [
      decide (n (14 : Nat) > (0 : Int)) = true,
      (0 : Int) ≤ (3 : Int),
      (3 : Int) ≤ (4 : Int),
      (4 : Int) ≤ (4 : Int),
      (0 : Int) ≤ (2 : Int),
      (2 : Int) ≤ (3 : Int),
      (3 : Int) ≤ (4 : Int),
      (List.length (List.map Ed.row w) + (1 : Nat)) * (48 : Nat) ≤ (140737488355328 : Nat),
      List.map Ed.row w ++ [[Sg { data := { toList := [(100 : UInt8)] } }, Sg { data := { toList := [(99 : UInt8)] } }, I (n (14 : Nat)), I (bad (14 : Nat))]] = List.map Ed.row (w ++ [{ fr := { data := { toList := [(100 : UInt8)] } }, to := { data := { toList := [(99 : UInt8)] } }, cnt := n (14 : Nat), errs := bad (14 : Nat) }]),
      (3 : Int) = (3 : Int)] (by kernel_rfl)
    (by
      simp only [allP]
      and_intros <;> first
        | omega
        | with_reducible assumption
        | (simp; omega)
        | (simp [Ed.row, nm]; done)
        | (simp; done)
        | decide)

theorem wiSkip33 (l : List Sp) (n bad : Nat → Int) (w : List Ed)  : CodeC Try.prog 0 136 wiB (wiS l n bad w 3 3) .normal (wiS l n bad w 3 (3 + 1)) :=
  runP hmix [.reg 23 [(1, [.be (I ((3 + 1 : Nat) : Int))], none)]] ⟨[6, 7, 8, 9, 13, 14, 15], [(900, 900), (901, 901), (902, 902), (903, 903)], []⟩ [
      (4 : Int) = (4 : Int)] (by kernel_rfl)
    (by simp [allP])

theorem wiEnd (l : List Sp) (n bad : Nat → Int) (w : List Ed) (p : Nat)  : CodeC Try.prog 0 136 wiB (wiS l n bad w p 4) (.exit 4) (wiS l n bad w p 4) :=
  runP hmix [] ⟨[6, 7, 8, 9, 13, 14, 15], [(900, 900), (901, 901), (902, 902), (903, 903)], []⟩ [
      ] (by kernel_rfl)
    (by simp [allP])

theorem woEnd (l : List Sp) (n bad : Nat → Int) (w : List Ed)  : CodeC Try.prog 0 136 woB (woS l n bad w 4) (.exit 2) (woS l n bad w 4) :=
  runP hmix [] ⟨[6, 7, 8, 9, 13, 14], [(900, 900), (901, 901), (902, 902), (903, 903)], []⟩ [
      ] (by kernel_rfl)
    (by simp [allP])

theorem woGo (l : List Sp) (n bad : Nat → Int) (w v : List Ed) (p : Nat) (hp : p < 4) (hl : LoopC Try.prog 0 136 wiB (wiS l n bad w p 0) (.exit 4) (wiS l n bad v p 4)) : CodeC Try.prog 0 136 woB (woS l n bad w p) .normal (woS l n bad v (p + 1)) :=
  runP hmix [.reg 19 [(1, [], some true)], .cut ⟨[6, 7, 8, 9, 13, 14, 15], [(900, 900), (901, 901), (902, 902), (903, 903)], []⟩ (.exit 4) (wiS l n bad v p 4), .reg 20 [(1, [.be (I ((p + 1 : Nat) : Int))], none)]] ⟨[6, 7, 8, 9, 13, 14], [(900, 900), (901, 901), (902, 902), (903, 903)], []⟩ [
      decide (Int.ofNat p < (4 : Int)) = true,
      LoopC Try.prog (0 : Nat) (136 : Nat) wiB { env := [((6 : Nat), Sg { data := { toList := [(97 : UInt8), (98 : UInt8), (99 : UInt8), (100 : UInt8)] } }), ((7 : Nat), V.own (900 : Nat)), ((8 : Nat), V.ptr (901 : Nat) (0 : Nat) (0 : Nat) (0 : Nat)), ((9 : Nat), V.ptr (902 : Nat) (0 : Nat) (0 : Nat) (0 : Nat)), ((13 : Nat), V.own (903 : Nat)), ((14 : Nat), I (Int.ofNat p)), ((15 : Nat), I (0 : Int))], st := [((900 : Nat), Obj.arr (10 : Nat) (List.map Sp.row l)), ((901 : Nat), Obj.box [I (n (0 : Nat)), I (n (1 : Nat)), I (n (2 : Nat)), I (n (3 : Nat)), I (n (4 : Nat)), I (n (5 : Nat)), I (n (6 : Nat)), I (n (7 : Nat)), I (n (8 : Nat)), I (n (9 : Nat)), I (n (10 : Nat)), I (n (11 : Nat)), I (n (12 : Nat)), I (n (13 : Nat)), I (n (14 : Nat)), I (n (15 : Nat))]), ((902 : Nat), Obj.box [I (bad (0 : Nat)), I (bad (1 : Nat)), I (bad (2 : Nat)), I (bad (3 : Nat)), I (bad (4 : Nat)), I (bad (5 : Nat)), I (bad (6 : Nat)), I (bad (7 : Nat)), I (bad (8 : Nat)), I (bad (9 : Nat)), I (bad (10 : Nat)), I (bad (11 : Nat)), I (bad (12 : Nat)), I (bad (13 : Nat)), I (bad (14 : Nat)), I (bad (15 : Nat))]), ((903 : Nat), Obj.arr (4 : Nat) (List.map Ed.row w))], ids := [(900 : Nat), (901 : Nat), (902 : Nat), (903 : Nat)] } (Ex.exit (4 : Nat)) { env := [((6 : Nat), Sg { data := { toList := [(97 : UInt8), (98 : UInt8), (99 : UInt8), (100 : UInt8)] } }), ((7 : Nat), V.own (900 : Nat)), ((8 : Nat), V.ptr (901 : Nat) (0 : Nat) (0 : Nat) (0 : Nat)), ((9 : Nat), V.ptr (902 : Nat) (0 : Nat) (0 : Nat) (0 : Nat)), ((13 : Nat), V.own (903 : Nat)), ((14 : Nat), I (Int.ofNat p)), ((15 : Nat), I (4 : Int))], st := [((900 : Nat), Obj.arr (10 : Nat) (List.map Sp.row l)), ((901 : Nat), Obj.box [I (n (0 : Nat)), I (n (1 : Nat)), I (n (2 : Nat)), I (n (3 : Nat)), I (n (4 : Nat)), I (n (5 : Nat)), I (n (6 : Nat)), I (n (7 : Nat)), I (n (8 : Nat)), I (n (9 : Nat)), I (n (10 : Nat)), I (n (11 : Nat)), I (n (12 : Nat)), I (n (13 : Nat)), I (n (14 : Nat)), I (n (15 : Nat))]), ((902 : Nat), Obj.box [I (bad (0 : Nat)), I (bad (1 : Nat)), I (bad (2 : Nat)), I (bad (3 : Nat)), I (bad (4 : Nat)), I (bad (5 : Nat)), I (bad (6 : Nat)), I (bad (7 : Nat)), I (bad (8 : Nat)), I (bad (9 : Nat)), I (bad (10 : Nat)), I (bad (11 : Nat)), I (bad (12 : Nat)), I (bad (13 : Nat)), I (bad (14 : Nat)), I (bad (15 : Nat))]), ((903 : Nat), Obj.arr (4 : Nat) (List.map Ed.row v))], ids := [(900 : Nat), (901 : Nat), (902 : Nat), (903 : Nat)] },
      IntKind.wrap IntKind.i64 (Int.ofNat (p + (1 : Nat))) = Int.ofNat (p + (1 : Nat))] (by kernel_rfl)
    (by
      simp only [allP]
      and_intros <;> first
        | omega
        | with_reducible assumption
        | (simp; omega)
        | exact i64_small (by simp; omega)
        | exact hl
        | (simp; done)
        | decide)

end Go.Proofs.Ytieffigehkjifaa

/- edges, the plain law: a table of counts, counted on. -/
namespace Go.Proofs.Ytieffigehkjifaa
open E
set_option maxRecDepth 100000
set_option linter.unusedVariables false
set_option linter.unusedSimpArgs false

def edJ (j : Nat) (a b : Int) : Ed := Ed.mk (nm (j / 4)) (nm (j % 4)) a b
theorem edJ_lt0 : ∀ j : Fin 16, ∀ k : Fin 16, j.val < k.val → cmpD (edJ j.val 0 0) (edJ k.val 0 0) < 0 := of_decide_eq_true (by kernel_rfl)
theorem edJ_lt {j k : Nat} (hj : j < k) (hk : k < 16) (a b c d : Int) : cmpD (edJ j a b) (edJ k c d) < 0 := by
  have := edJ_lt0 ⟨j, by omega⟩ ⟨k, hk⟩ hj
  rwa [show cmpD (edJ j a b) (edJ k c d) = cmpD (edJ j 0 0) (edJ k 0 0) from cmpD_key rfl rfl rfl rfl]
theorem edJ_eq (j : Nat) (a b c d : Int) : cmpD (edJ j a b) (edJ j c d) = 0 := cmpD_zero.2 ⟨rfl, rfl⟩
theorem gE_some {n bad : Nat → Int} {j : Nat} {y : Ed} (h : gE n bad j = some y) : y = edJ j (n j) (bad j) ∧ 0 < n j := by
  unfold gE at h
  cases hc : ((j / 4 != j % 4) && decide (0 < n j)) with
  | false => rw [hc] at h; cases h
  | true =>
    rw [hc] at h
    simp only [Bool.and_eq_true, decide_eq_true_eq] at hc
    simp only [cond_true, Option.some.injEq] at h
    exact ⟨h.symm, hc.2⟩
theorem gE_upd {n bad : Nat → Int} {j k : Nat} (h : j ≠ k) (a b : Int) : gE (upd n k a) (upd bad k b) j = gE n bad j := by
  have : (j == k) = false := by simpa using h
  unfold gE upd
  simp [this]
theorem plus1 {a b : Int} (ha : 0 ≤ a ∧ a ≤ 900) (hb : 0 ≤ b ∧ b ≤ 1) : plusR a b 1000 = a + b := by
  rw [plusR_eq (by unfold inI; omega)]
  unfold plusN
  simp only
  repeat' split
  all_goals omega
theorem errN01 (e : Bool) : 0 ≤ errN e ∧ errN e ≤ 1 := by cases e <;> decide
theorem ahead {key : Ed} {e : Bool} {m : Int} {l : List Ed} (h : ∀ y ∈ l, cmpD key y < 0) : cntR key e m l = bumpE m e key :: l := by
  cases l with
  | nil => rfl
  | cons y ys =>
    have h1 := h y (by simp)
    have h2 := cmpD_flip key y
    rw [cntR, if_neg (by omega), if_pos (by omega)]
theorem fm_congr {α β : Type} {f g : α → Option β} : ∀ {l : List α}, (∀ x ∈ l, f x = g x) → l.filterMap f = l.filterMap g
  | [], _ => rfl
  | x :: l, h => by rw [List.filterMap_cons, List.filterMap_cons, h x (by simp), fm_congr fun y hy => h y (by simp [hy])]
theorem table {n bad : Nat → Int} {k : Nat} {e : Bool} (hk : k < 16) (hd : k / 4 ≠ k % 4) (hn : 0 ≤ n k ∧ n k ≤ 900) (hb : 0 ≤ bad k ∧ bad k ≤ n k) : ∀ js : List Nat, js.Pairwise (· < ·) → (∀ j ∈ js, j < 16) → k ∈ js →
    cntR (edJ k 0 0) e 1000 (js.filterMap (gE n bad)) = js.filterMap (gE (upd n k (n k + 1)) (upd bad k (bad k + errN e)))
  | [], _, _, h => by cases h
  | j :: js, hp, hl, hm => by
    have hrest : ∀ i ∈ js, j < i := fun i hi => List.rel_of_pairwise_cons hp hi
    have hbump : bumpE 1000 e (edJ k (n k) (bad k)) = edJ k (n k + 1) (bad k + errN e) := by
      unfold bumpE edJ
      rw [plus1 hn ⟨by decide, by decide⟩, plus1 ⟨hb.1, by omega⟩ (errN01 e)]
    have hnew : gE (upd n k (n k + 1)) (upd bad k (bad k + errN e)) k = some (edJ k (n k + 1) (bad k + errN e)) := by
      unfold gE upd
      have : decide (0 < n k + 1) = true := by simp; omega
      have h2 : (k / 4 != k % 4) = true := by simpa using hd
      simp [this, h2, edJ]
    by_cases hj : j = k
    · subst hj
      have hsame : js.filterMap (gE (upd n j (n j + 1)) (upd bad j (bad j + errN e))) = js.filterMap (gE n bad) := by
        exact fm_congr fun i hi => gE_upd (by have := hrest i hi; omega) _ _
      rw [List.filterMap_cons, List.filterMap_cons, hnew, hsame]
      cases hg : gE n bad j with
      | some y =>
        obtain ⟨rfl, _⟩ := gE_some hg
        simp only
        rw [cntR, if_pos (edJ_eq _ _ _ _ _), hbump]
      | none =>
        have h0 : n j = 0 := by
          unfold gE at hg
          cases hc : ((j / 4 != j % 4) && decide (0 < n j)) with
          | true => rw [hc] at hg; cases hg
          | false =>
            have : (j / 4 != j % 4) = true := by simpa using hd
            rw [this, Bool.true_and, decide_eq_false_iff_not] at hc
            omega
        have hb0 : bad j = 0 := by omega
        simp only
        rw [ahead (fun y hy => ?_)]
        · rw [h0, hb0] at hbump
          rw [hbump, h0, hb0]
        · obtain ⟨i, hi, hgi⟩ := List.mem_filterMap.1 hy
          obtain ⟨rfl, _⟩ := gE_some hgi
          exact edJ_lt (hrest i hi) (hl i (List.mem_cons_of_mem _ hi)) _ _ _ _
    · have hm' : k ∈ js := by
        rcases List.mem_cons.1 hm with rfl | h
        · exact absurd rfl hj
        · exact h
      have ih := table (e := e) hk hd hn hb js (List.Pairwise.of_cons hp) (fun i hi => hl i (List.mem_cons_of_mem _ hi)) hm'
      have hjk := hrest k hm'
      rw [List.filterMap_cons, List.filterMap_cons, gE_upd hj]
      cases hg : gE n bad j with
      | none => exact ih
      | some y =>
        obtain ⟨rfl, _⟩ := gE_some hg
        have h1 := edJ_lt hjk hk (n j) (bad j) 0 0
        simp only
        rw [cntR, if_neg (by omega), if_neg (by omega), ih]
end Go.Proofs.Ytieffigehkjifaa

/- edges: a chain of calls: the loops put together, and the plain law (written by genQ.py). -/
namespace Go.Proofs.Ytieffigehkjifaa
open E
set_option maxRecDepth 100000
set_option linter.unusedVariables false
set_option linter.unusedSimpArgs false

def lw (x : Int) : Nat := (low x).toNat
theorem lw_all (x : Int) : low x = (lw x : Int) ∧ lw x < 4 := by
  have h : (BitVec.toNat (BitVec.ofInt (64 : Nat) x) &&& (3 : Nat)) < 4 := Nat.lt_of_le_of_lt Nat.and_le_right (by decide)
  have h2 : low x = Int.ofNat (BitVec.toNat (BitVec.ofInt (64 : Nat) x) &&& (3 : Nat)) := by
    unfold low
    refine i64_small ?_
    show -9223372036854775808 ≤ ((_ : Nat) : Int) ∧ ((_ : Nat) : Int) ≤ 9223372036854775807
    omega
  unfold lw
  rw [h2]
  exact ⟨rfl, h⟩
theorem upd0 (b : Nat → Int) (j : Nat) : upd b j (b j + errN false) = b := by
  funext i
  unfold upd
  cases h : i == j with
  | false => rfl
  | true =>
    have : i = j := by simpa using h
    subst this
    rw [cond_true, show errN false = 0 from rfl, Int.add_zero]
theorem chFirst (sv : List Int) (er : List Bool) (l : List Sp) (n bad : Nat → Int) (i : Nat) (x : Int) (e : Bool) (h : i < sv.length) (hs : sv.length ≤ 40) (hr : sv.length ≤ er.length) (hl : l.length ≤ 1000) (hx : sv[i]? = some x) (he : er[i]? = some e) (h0 : i = 0) : ∀ k : Nat, k < 4 → low x = k → CodeC Try.prog 0 136 chB (chS sv er l n bad i) .normal (chS sv er (l ++ [chSp i k e]) n bad (i + 1))
  | 0, _, hk => chFirst0 sv er l n bad i x e h hs hr hl hx he h0 hk
  | 1, _, hk => chFirst1 sv er l n bad i x e h hs hr hl hx he h0 hk
  | 2, _, hk => chFirst2 sv er l n bad i x e h hs hr hl hx he h0 hk
  | 3, _, hk => chFirst3 sv er l n bad i x e h hs hr hl hx he h0 hk
  | _ + 4, h4, _ => absurd h4 (by omega)
theorem chGo0 (sv : List Int) (er : List Bool) (l : List Sp) (n bad : Nat → Int) (i : Nat) (x y : Int) (e : Bool) (h : i < sv.length) (hs : sv.length ≤ 40) (hr : sv.length ≤ er.length) (hl : l.length ≤ 1000) (hx : sv[i]? = some x) (he : er[i]? = some e) (h0 : 0 < i) (hy : sv[i - 1]? = some y) (hp : low y = 0) (hn : ∀ j, 0 ≤ n j ∧ n j ≤ 1000) (hb : ∀ j, 0 ≤ bad j ∧ bad j ≤ 1000) : ∀ k : Nat, k < 4 → low x = k → CodeC Try.prog 0 136 chB (chS sv er l n bad i) .normal (chS sv er (l ++ [chSp i k e]) (upd n (4 * 0 + k) (n (4 * 0 + k) + 1)) (upd bad (4 * 0 + k) (bad (4 * 0 + k) + errN e)) (i + 1))
  | 0, _, hk => by
    cases e with
    | true => exact chGo00t sv er l n bad i x y h hs hr hl hx he h0 hy hk hp (hn _) (hb _)
    | false =>
      rw [upd0]
      exact chGo00f sv er l n bad i x y h hs hr hl hx he h0 hy hk hp (hn _) (hb _)
  | 1, _, hk => by
    cases e with
    | true => exact chGo01t sv er l n bad i x y h hs hr hl hx he h0 hy hk hp (hn _) (hb _)
    | false =>
      rw [upd0]
      exact chGo01f sv er l n bad i x y h hs hr hl hx he h0 hy hk hp (hn _) (hb _)
  | 2, _, hk => by
    cases e with
    | true => exact chGo02t sv er l n bad i x y h hs hr hl hx he h0 hy hk hp (hn _) (hb _)
    | false =>
      rw [upd0]
      exact chGo02f sv er l n bad i x y h hs hr hl hx he h0 hy hk hp (hn _) (hb _)
  | 3, _, hk => by
    cases e with
    | true => exact chGo03t sv er l n bad i x y h hs hr hl hx he h0 hy hk hp (hn _) (hb _)
    | false =>
      rw [upd0]
      exact chGo03f sv er l n bad i x y h hs hr hl hx he h0 hy hk hp (hn _) (hb _)
  | _ + 4, h4, _ => absurd h4 (by omega)
theorem chGo1 (sv : List Int) (er : List Bool) (l : List Sp) (n bad : Nat → Int) (i : Nat) (x y : Int) (e : Bool) (h : i < sv.length) (hs : sv.length ≤ 40) (hr : sv.length ≤ er.length) (hl : l.length ≤ 1000) (hx : sv[i]? = some x) (he : er[i]? = some e) (h0 : 0 < i) (hy : sv[i - 1]? = some y) (hp : low y = 1) (hn : ∀ j, 0 ≤ n j ∧ n j ≤ 1000) (hb : ∀ j, 0 ≤ bad j ∧ bad j ≤ 1000) : ∀ k : Nat, k < 4 → low x = k → CodeC Try.prog 0 136 chB (chS sv er l n bad i) .normal (chS sv er (l ++ [chSp i k e]) (upd n (4 * 1 + k) (n (4 * 1 + k) + 1)) (upd bad (4 * 1 + k) (bad (4 * 1 + k) + errN e)) (i + 1))
  | 0, _, hk => by
    cases e with
    | true => exact chGo10t sv er l n bad i x y h hs hr hl hx he h0 hy hk hp (hn _) (hb _)
    | false =>
      rw [upd0]
      exact chGo10f sv er l n bad i x y h hs hr hl hx he h0 hy hk hp (hn _) (hb _)
  | 1, _, hk => by
    cases e with
    | true => exact chGo11t sv er l n bad i x y h hs hr hl hx he h0 hy hk hp (hn _) (hb _)
    | false =>
      rw [upd0]
      exact chGo11f sv er l n bad i x y h hs hr hl hx he h0 hy hk hp (hn _) (hb _)
  | 2, _, hk => by
    cases e with
    | true => exact chGo12t sv er l n bad i x y h hs hr hl hx he h0 hy hk hp (hn _) (hb _)
    | false =>
      rw [upd0]
      exact chGo12f sv er l n bad i x y h hs hr hl hx he h0 hy hk hp (hn _) (hb _)
  | 3, _, hk => by
    cases e with
    | true => exact chGo13t sv er l n bad i x y h hs hr hl hx he h0 hy hk hp (hn _) (hb _)
    | false =>
      rw [upd0]
      exact chGo13f sv er l n bad i x y h hs hr hl hx he h0 hy hk hp (hn _) (hb _)
  | _ + 4, h4, _ => absurd h4 (by omega)
theorem chGo2 (sv : List Int) (er : List Bool) (l : List Sp) (n bad : Nat → Int) (i : Nat) (x y : Int) (e : Bool) (h : i < sv.length) (hs : sv.length ≤ 40) (hr : sv.length ≤ er.length) (hl : l.length ≤ 1000) (hx : sv[i]? = some x) (he : er[i]? = some e) (h0 : 0 < i) (hy : sv[i - 1]? = some y) (hp : low y = 2) (hn : ∀ j, 0 ≤ n j ∧ n j ≤ 1000) (hb : ∀ j, 0 ≤ bad j ∧ bad j ≤ 1000) : ∀ k : Nat, k < 4 → low x = k → CodeC Try.prog 0 136 chB (chS sv er l n bad i) .normal (chS sv er (l ++ [chSp i k e]) (upd n (4 * 2 + k) (n (4 * 2 + k) + 1)) (upd bad (4 * 2 + k) (bad (4 * 2 + k) + errN e)) (i + 1))
  | 0, _, hk => by
    cases e with
    | true => exact chGo20t sv er l n bad i x y h hs hr hl hx he h0 hy hk hp (hn _) (hb _)
    | false =>
      rw [upd0]
      exact chGo20f sv er l n bad i x y h hs hr hl hx he h0 hy hk hp (hn _) (hb _)
  | 1, _, hk => by
    cases e with
    | true => exact chGo21t sv er l n bad i x y h hs hr hl hx he h0 hy hk hp (hn _) (hb _)
    | false =>
      rw [upd0]
      exact chGo21f sv er l n bad i x y h hs hr hl hx he h0 hy hk hp (hn _) (hb _)
  | 2, _, hk => by
    cases e with
    | true => exact chGo22t sv er l n bad i x y h hs hr hl hx he h0 hy hk hp (hn _) (hb _)
    | false =>
      rw [upd0]
      exact chGo22f sv er l n bad i x y h hs hr hl hx he h0 hy hk hp (hn _) (hb _)
  | 3, _, hk => by
    cases e with
    | true => exact chGo23t sv er l n bad i x y h hs hr hl hx he h0 hy hk hp (hn _) (hb _)
    | false =>
      rw [upd0]
      exact chGo23f sv er l n bad i x y h hs hr hl hx he h0 hy hk hp (hn _) (hb _)
  | _ + 4, h4, _ => absurd h4 (by omega)
theorem chGo3 (sv : List Int) (er : List Bool) (l : List Sp) (n bad : Nat → Int) (i : Nat) (x y : Int) (e : Bool) (h : i < sv.length) (hs : sv.length ≤ 40) (hr : sv.length ≤ er.length) (hl : l.length ≤ 1000) (hx : sv[i]? = some x) (he : er[i]? = some e) (h0 : 0 < i) (hy : sv[i - 1]? = some y) (hp : low y = 3) (hn : ∀ j, 0 ≤ n j ∧ n j ≤ 1000) (hb : ∀ j, 0 ≤ bad j ∧ bad j ≤ 1000) : ∀ k : Nat, k < 4 → low x = k → CodeC Try.prog 0 136 chB (chS sv er l n bad i) .normal (chS sv er (l ++ [chSp i k e]) (upd n (4 * 3 + k) (n (4 * 3 + k) + 1)) (upd bad (4 * 3 + k) (bad (4 * 3 + k) + errN e)) (i + 1))
  | 0, _, hk => by
    cases e with
    | true => exact chGo30t sv er l n bad i x y h hs hr hl hx he h0 hy hk hp (hn _) (hb _)
    | false =>
      rw [upd0]
      exact chGo30f sv er l n bad i x y h hs hr hl hx he h0 hy hk hp (hn _) (hb _)
  | 1, _, hk => by
    cases e with
    | true => exact chGo31t sv er l n bad i x y h hs hr hl hx he h0 hy hk hp (hn _) (hb _)
    | false =>
      rw [upd0]
      exact chGo31f sv er l n bad i x y h hs hr hl hx he h0 hy hk hp (hn _) (hb _)
  | 2, _, hk => by
    cases e with
    | true => exact chGo32t sv er l n bad i x y h hs hr hl hx he h0 hy hk hp (hn _) (hb _)
    | false =>
      rw [upd0]
      exact chGo32f sv er l n bad i x y h hs hr hl hx he h0 hy hk hp (hn _) (hb _)
  | 3, _, hk => by
    cases e with
    | true => exact chGo33t sv er l n bad i x y h hs hr hl hx he h0 hy hk hp (hn _) (hb _)
    | false =>
      rw [upd0]
      exact chGo33f sv er l n bad i x y h hs hr hl hx he h0 hy hk hp (hn _) (hb _)
  | _ + 4, h4, _ => absurd h4 (by omega)
theorem chGo (sv : List Int) (er : List Bool) (l : List Sp) (n bad : Nat → Int) (i : Nat) (x y : Int) (e : Bool) (h : i < sv.length) (hs : sv.length ≤ 40) (hr : sv.length ≤ er.length) (hl : l.length ≤ 1000) (hx : sv[i]? = some x) (he : er[i]? = some e) (h0 : 0 < i) (hy : sv[i - 1]? = some y) (hn : ∀ j, 0 ≤ n j ∧ n j ≤ 1000) (hb : ∀ j, 0 ≤ bad j ∧ bad j ≤ 1000) (k : Nat) (hk4 : k < 4) (hk : low x = k) : ∀ p : Nat, p < 4 → low y = p → CodeC Try.prog 0 136 chB (chS sv er l n bad i) .normal (chS sv er (l ++ [chSp i k e]) (upd n (4 * p + k) (n (4 * p + k) + 1)) (upd bad (4 * p + k) (bad (4 * p + k) + errN e)) (i + 1))
  | 0, _, hp => chGo0 sv er l n bad i x y e h hs hr hl hx he h0 hy hp hn hb k hk4 hk
  | 1, _, hp => chGo1 sv er l n bad i x y e h hs hr hl hx he h0 hy hp hn hb k hk4 hk
  | 2, _, hp => chGo2 sv er l n bad i x y e h hs hr hl hx he h0 hy hp hn hb k hk4 hk
  | 3, _, hp => chGo3 sv er l n bad i x y e h hs hr hl hx he h0 hy hp hn hb k hk4 hk
  | _ + 4, h4, _ => absurd h4 (by omega)

/-! ### the counts -/
def at0 (sv : List Int) (i : Nat) : Int := sv.getD i 0
def ke (sv : List Int) (i : Nat) : Nat := lw (at0 sv i)
def ix (sv : List Int) (i : Nat) : Nat := 4 * ke sv (i - 1) + ke sv i
def bo (er : List Bool) (i : Nat) : Bool := er.getD i false
def cN (sv : List Int) : Nat → Nat → Int
  | 0 => fun _ => 0
  | i + 1 => if i = 0 then fun _ => 0 else upd (cN sv i) (ix sv i) (cN sv i (ix sv i) + 1)
def cB (sv : List Int) (er : List Bool) : Nat → Nat → Int
  | 0 => fun _ => 0
  | i + 1 => if i = 0 then fun _ => 0 else upd (cB sv er i) (ix sv i) (cB sv er i (ix sv i) + errN (bo er i))
def spL (sv : List Int) (er : List Bool) (i : Nat) : List Sp := (List.range i).map fun j => chSp j (ke sv j) (bo er j)
theorem spL_succ (sv : List Int) (er : List Bool) (i : Nat) : spL sv er (i + 1) = spL sv er i ++ [chSp i (ke sv i) (bo er i)] := by
  unfold spL
  rw [List.range_succ, List.map_append]
  rfl
theorem spL_len (sv : List Int) (er : List Bool) (i : Nat) : (spL sv er i).length = i := by simp [spL]
theorem cN_bnd (sv : List Int) (er : List Bool) : ∀ i j, (0 ≤ cN sv i j ∧ cN sv i j ≤ i) ∧ 0 ≤ cB sv er i j ∧ cB sv er i j ≤ cN sv i j
  | 0, j => by simp [cN, cB]
  | i + 1, j => by
    have ih := cN_bnd sv er i j
    have ih2 := cN_bnd sv er i (ix sv i)
    have he := errN01 (bo er i)
    unfold cN cB
    by_cases h0 : i = 0
    · simp only [h0, if_true]; omega
    · simp only [h0, if_false, upd]
      by_cases hj : j = ix sv i
      · simp only [hj, beq_self_eq_true, cond_true]; omega
      · have : (j == ix sv i) = false := by simpa using hj
        simp only [this, cond_false]; omega
theorem ch1 (sv : List Int) (er : List Bool) (hs : sv.length ≤ 40) (hr : sv.length ≤ er.length) (i : Nat) (h : i < sv.length) : CodeC Try.prog 0 136 chB (chS sv er (spL sv er i) (cN sv i) (cB sv er i) i) .normal (chS sv er (spL sv er (i + 1)) (cN sv (i + 1)) (cB sv er (i + 1)) (i + 1)) := by
  have hx : sv[i]? = some (at0 sv i) := by unfold at0; rw [List.getD_eq_getElem?_getD, List.getElem?_eq_getElem h]; rfl
  have he : er[i]? = some (bo er i) := by unfold bo; rw [List.getD_eq_getElem?_getD, List.getElem?_eq_getElem (by omega)]; rfl
  have hk := lw_all (at0 sv i)
  have hl := spL_len sv er i
  rw [spL_succ]
  by_cases h0 : i = 0
  · have := chFirst sv er (spL sv er i) (cN sv i) (cB sv er i) i _ _ h hs hr (by omega) hx he h0 (ke sv i) hk.2 hk.1
    have e1 : cN sv (i + 1) = cN sv i := by subst h0; rfl
    have e2 : cB sv er (i + 1) = cB sv er i := by subst h0; rfl
    rw [e1, e2]
    exact this
  · have hy : sv[i - 1]? = some (at0 sv (i - 1)) := by unfold at0; rw [List.getD_eq_getElem?_getD, List.getElem?_eq_getElem (by omega)]; rfl
    have hp := lw_all (at0 sv (i - 1))
    have b := cN_bnd sv er i
    have e1 : cN sv (i + 1) = upd (cN sv i) (ix sv i) (cN sv i (ix sv i) + 1) := by rw [cN, if_neg h0]
    have e2 : cB sv er (i + 1) = upd (cB sv er i) (ix sv i) (cB sv er i (ix sv i) + errN (bo er i)) := by rw [cB, if_neg h0]
    rw [e1, e2]
    exact chGo sv er (spL sv er i) (cN sv i) (cB sv er i) i _ _ _ h hs hr (by omega) hx he (by omega) hy (fun j => by have := b j; omega) (fun j => by have := b j; omega) (ke sv i) hk.2 hk.1 (ke sv (i - 1)) hp.2 hp.1
theorem chLoop (sv : List Int) (er : List Bool) (hs : sv.length ≤ 40) (hr : sv.length ≤ er.length) : ∀ m i, i + m = sv.length → LoopC Try.prog 0 136 chB (chS sv er (spL sv er i) (cN sv i) (cB sv er i) i) (.exit 0) (chS sv er (spL sv er sv.length) (cN sv sv.length) (cB sv er sv.length) sv.length)
  | 0, i, h => by
    have : i = sv.length := by omega
    subst this
    exact LoopC.last (chEnd _ _ _ _ _ _ (by omega)) (by simp)
  | m + 1, i, h => LoopC.next (ch1 sv er hs hr i (by omega)) (chLoop sv er hs hr m (i + 1) (by omega))

/-! ### what is wanted -/
theorem wi0 (l : List Sp) (n bad : Nat → Int) (w : List Ed) (hw : w.length ≤ 100) : LoopC Try.prog 0 136 wiB (wiS l n bad w 0 0) (.exit 4) (wiS l n bad (w ++ [0, 1, 2, 3].filterMap (gE n bad)) 0 4) := by
  have last : ∀ w : List Ed, LoopC Try.prog 0 136 wiB (wiS l n bad w 0 4) (.exit 4) (wiS l n bad w 0 4) := fun w => LoopC.last (wiEnd l n bad w 0) (by simp)
  have s0 : ∀ (w v : List Ed), w.length ≤ 200 → LoopC Try.prog 0 136 wiB (wiS l n bad (w ++ (gE n bad 0).toList) 0 1) (.exit 4) (wiS l n bad v 0 4) → LoopC Try.prog 0 136 wiB (wiS l n bad w 0 0) (.exit 4) (wiS l n bad v 0 4) := by
    intro w v _ h
    rw [show (gE n bad 0).toList = [] from rfl, List.append_nil] at h
    exact LoopC.next (wiSkip00 l n bad w) h
  have s1 : ∀ (w v : List Ed), w.length ≤ 200 → LoopC Try.prog 0 136 wiB (wiS l n bad (w ++ (gE n bad 1).toList) 0 2) (.exit 4) (wiS l n bad v 0 4) → LoopC Try.prog 0 136 wiB (wiS l n bad w 0 1) (.exit 4) (wiS l n bad v 0 4) := by
    intro w v hw h
    by_cases h0 : 0 < n 1
    · have e : gE n bad 1 = some (Ed.mk (nm 0) (nm 1) (n 1) (bad 1)) := by
        have : decide (0 < n 1) = true := by simpa using h0
        unfold gE
        rw [this]
        rfl
      rw [e] at h
      exact LoopC.next (wiAdd01 l n bad w h0 (by omega)) h
    · have e : gE n bad 1 = none := by
        have : decide (0 < n 1) = false := by simpa using h0
        unfold gE
        rw [this, Bool.and_false]
        rfl
      rw [e, Option.toList_none, List.append_nil] at h
      exact LoopC.next (wiSkip01 l n bad w h0) h
  have s2 : ∀ (w v : List Ed), w.length ≤ 200 → LoopC Try.prog 0 136 wiB (wiS l n bad (w ++ (gE n bad 2).toList) 0 3) (.exit 4) (wiS l n bad v 0 4) → LoopC Try.prog 0 136 wiB (wiS l n bad w 0 2) (.exit 4) (wiS l n bad v 0 4) := by
    intro w v hw h
    by_cases h0 : 0 < n 2
    · have e : gE n bad 2 = some (Ed.mk (nm 0) (nm 2) (n 2) (bad 2)) := by
        have : decide (0 < n 2) = true := by simpa using h0
        unfold gE
        rw [this]
        rfl
      rw [e] at h
      exact LoopC.next (wiAdd02 l n bad w h0 (by omega)) h
    · have e : gE n bad 2 = none := by
        have : decide (0 < n 2) = false := by simpa using h0
        unfold gE
        rw [this, Bool.and_false]
        rfl
      rw [e, Option.toList_none, List.append_nil] at h
      exact LoopC.next (wiSkip02 l n bad w h0) h
  have s3 : ∀ (w v : List Ed), w.length ≤ 200 → LoopC Try.prog 0 136 wiB (wiS l n bad (w ++ (gE n bad 3).toList) 0 4) (.exit 4) (wiS l n bad v 0 4) → LoopC Try.prog 0 136 wiB (wiS l n bad w 0 3) (.exit 4) (wiS l n bad v 0 4) := by
    intro w v hw h
    by_cases h0 : 0 < n 3
    · have e : gE n bad 3 = some (Ed.mk (nm 0) (nm 3) (n 3) (bad 3)) := by
        have : decide (0 < n 3) = true := by simpa using h0
        unfold gE
        rw [this]
        rfl
      rw [e] at h
      exact LoopC.next (wiAdd03 l n bad w h0 (by omega)) h
    · have e : gE n bad 3 = none := by
        have : decide (0 < n 3) = false := by simpa using h0
        unfold gE
        rw [this, Bool.and_false]
        rfl
      rw [e, Option.toList_none, List.append_nil] at h
      exact LoopC.next (wiSkip03 l n bad w h0) h
  have t : ∀ o : Option Ed, o.toList.length ≤ 1 := fun o => by cases o <;> simp
  refine s0 w _ (by omega) (s1 _ _ ?_ (s2 _ _ ?_ (s3 _ _ ?_ ?_)))
  · have := t (gE n bad 0); simp only [List.length_append]; omega
  · have := t (gE n bad 0); have := t (gE n bad 1); simp only [List.length_append]; omega
  · have := t (gE n bad 0); have := t (gE n bad 1); have := t (gE n bad 2); simp only [List.length_append]; omega
  · have fm : [0, 1, 2, 3].filterMap (gE n bad) = (gE n bad 0).toList ++ ((gE n bad 1).toList ++ ((gE n bad 2).toList ++ (gE n bad 3).toList)) := by
      cases h0 : gE n bad 0 <;> cases h1 : gE n bad 1 <;> cases h2 : gE n bad 2 <;> cases h3 : gE n bad 3 <;> simp [h0, h1, h2, h3]
    rw [fm]
    simp only [List.append_assoc]
    exact last _
theorem wi1 (l : List Sp) (n bad : Nat → Int) (w : List Ed) (hw : w.length ≤ 100) : LoopC Try.prog 0 136 wiB (wiS l n bad w 1 0) (.exit 4) (wiS l n bad (w ++ [4, 5, 6, 7].filterMap (gE n bad)) 1 4) := by
  have last : ∀ w : List Ed, LoopC Try.prog 0 136 wiB (wiS l n bad w 1 4) (.exit 4) (wiS l n bad w 1 4) := fun w => LoopC.last (wiEnd l n bad w 1) (by simp)
  have s0 : ∀ (w v : List Ed), w.length ≤ 200 → LoopC Try.prog 0 136 wiB (wiS l n bad (w ++ (gE n bad 4).toList) 1 1) (.exit 4) (wiS l n bad v 1 4) → LoopC Try.prog 0 136 wiB (wiS l n bad w 1 0) (.exit 4) (wiS l n bad v 1 4) := by
    intro w v hw h
    by_cases h0 : 0 < n 4
    · have e : gE n bad 4 = some (Ed.mk (nm 1) (nm 0) (n 4) (bad 4)) := by
        have : decide (0 < n 4) = true := by simpa using h0
        unfold gE
        rw [this]
        rfl
      rw [e] at h
      exact LoopC.next (wiAdd10 l n bad w h0 (by omega)) h
    · have e : gE n bad 4 = none := by
        have : decide (0 < n 4) = false := by simpa using h0
        unfold gE
        rw [this, Bool.and_false]
        rfl
      rw [e, Option.toList_none, List.append_nil] at h
      exact LoopC.next (wiSkip10 l n bad w h0) h
  have s1 : ∀ (w v : List Ed), w.length ≤ 200 → LoopC Try.prog 0 136 wiB (wiS l n bad (w ++ (gE n bad 5).toList) 1 2) (.exit 4) (wiS l n bad v 1 4) → LoopC Try.prog 0 136 wiB (wiS l n bad w 1 1) (.exit 4) (wiS l n bad v 1 4) := by
    intro w v _ h
    rw [show (gE n bad 5).toList = [] from rfl, List.append_nil] at h
    exact LoopC.next (wiSkip11 l n bad w) h
  have s2 : ∀ (w v : List Ed), w.length ≤ 200 → LoopC Try.prog 0 136 wiB (wiS l n bad (w ++ (gE n bad 6).toList) 1 3) (.exit 4) (wiS l n bad v 1 4) → LoopC Try.prog 0 136 wiB (wiS l n bad w 1 2) (.exit 4) (wiS l n bad v 1 4) := by
    intro w v hw h
    by_cases h0 : 0 < n 6
    · have e : gE n bad 6 = some (Ed.mk (nm 1) (nm 2) (n 6) (bad 6)) := by
        have : decide (0 < n 6) = true := by simpa using h0
        unfold gE
        rw [this]
        rfl
      rw [e] at h
      exact LoopC.next (wiAdd12 l n bad w h0 (by omega)) h
    · have e : gE n bad 6 = none := by
        have : decide (0 < n 6) = false := by simpa using h0
        unfold gE
        rw [this, Bool.and_false]
        rfl
      rw [e, Option.toList_none, List.append_nil] at h
      exact LoopC.next (wiSkip12 l n bad w h0) h
  have s3 : ∀ (w v : List Ed), w.length ≤ 200 → LoopC Try.prog 0 136 wiB (wiS l n bad (w ++ (gE n bad 7).toList) 1 4) (.exit 4) (wiS l n bad v 1 4) → LoopC Try.prog 0 136 wiB (wiS l n bad w 1 3) (.exit 4) (wiS l n bad v 1 4) := by
    intro w v hw h
    by_cases h0 : 0 < n 7
    · have e : gE n bad 7 = some (Ed.mk (nm 1) (nm 3) (n 7) (bad 7)) := by
        have : decide (0 < n 7) = true := by simpa using h0
        unfold gE
        rw [this]
        rfl
      rw [e] at h
      exact LoopC.next (wiAdd13 l n bad w h0 (by omega)) h
    · have e : gE n bad 7 = none := by
        have : decide (0 < n 7) = false := by simpa using h0
        unfold gE
        rw [this, Bool.and_false]
        rfl
      rw [e, Option.toList_none, List.append_nil] at h
      exact LoopC.next (wiSkip13 l n bad w h0) h
  have t : ∀ o : Option Ed, o.toList.length ≤ 1 := fun o => by cases o <;> simp
  refine s0 w _ (by omega) (s1 _ _ ?_ (s2 _ _ ?_ (s3 _ _ ?_ ?_)))
  · have := t (gE n bad 4); simp only [List.length_append]; omega
  · have := t (gE n bad 4); have := t (gE n bad 5); simp only [List.length_append]; omega
  · have := t (gE n bad 4); have := t (gE n bad 5); have := t (gE n bad 6); simp only [List.length_append]; omega
  · have fm : [4, 5, 6, 7].filterMap (gE n bad) = (gE n bad 4).toList ++ ((gE n bad 5).toList ++ ((gE n bad 6).toList ++ (gE n bad 7).toList)) := by
      cases h0 : gE n bad 4 <;> cases h1 : gE n bad 5 <;> cases h2 : gE n bad 6 <;> cases h3 : gE n bad 7 <;> simp [h0, h1, h2, h3]
    rw [fm]
    simp only [List.append_assoc]
    exact last _
theorem wi2 (l : List Sp) (n bad : Nat → Int) (w : List Ed) (hw : w.length ≤ 100) : LoopC Try.prog 0 136 wiB (wiS l n bad w 2 0) (.exit 4) (wiS l n bad (w ++ [8, 9, 10, 11].filterMap (gE n bad)) 2 4) := by
  have last : ∀ w : List Ed, LoopC Try.prog 0 136 wiB (wiS l n bad w 2 4) (.exit 4) (wiS l n bad w 2 4) := fun w => LoopC.last (wiEnd l n bad w 2) (by simp)
  have s0 : ∀ (w v : List Ed), w.length ≤ 200 → LoopC Try.prog 0 136 wiB (wiS l n bad (w ++ (gE n bad 8).toList) 2 1) (.exit 4) (wiS l n bad v 2 4) → LoopC Try.prog 0 136 wiB (wiS l n bad w 2 0) (.exit 4) (wiS l n bad v 2 4) := by
    intro w v hw h
    by_cases h0 : 0 < n 8
    · have e : gE n bad 8 = some (Ed.mk (nm 2) (nm 0) (n 8) (bad 8)) := by
        have : decide (0 < n 8) = true := by simpa using h0
        unfold gE
        rw [this]
        rfl
      rw [e] at h
      exact LoopC.next (wiAdd20 l n bad w h0 (by omega)) h
    · have e : gE n bad 8 = none := by
        have : decide (0 < n 8) = false := by simpa using h0
        unfold gE
        rw [this, Bool.and_false]
        rfl
      rw [e, Option.toList_none, List.append_nil] at h
      exact LoopC.next (wiSkip20 l n bad w h0) h
  have s1 : ∀ (w v : List Ed), w.length ≤ 200 → LoopC Try.prog 0 136 wiB (wiS l n bad (w ++ (gE n bad 9).toList) 2 2) (.exit 4) (wiS l n bad v 2 4) → LoopC Try.prog 0 136 wiB (wiS l n bad w 2 1) (.exit 4) (wiS l n bad v 2 4) := by
    intro w v hw h
    by_cases h0 : 0 < n 9
    · have e : gE n bad 9 = some (Ed.mk (nm 2) (nm 1) (n 9) (bad 9)) := by
        have : decide (0 < n 9) = true := by simpa using h0
        unfold gE
        rw [this]
        rfl
      rw [e] at h
      exact LoopC.next (wiAdd21 l n bad w h0 (by omega)) h
    · have e : gE n bad 9 = none := by
        have : decide (0 < n 9) = false := by simpa using h0
        unfold gE
        rw [this, Bool.and_false]
        rfl
      rw [e, Option.toList_none, List.append_nil] at h
      exact LoopC.next (wiSkip21 l n bad w h0) h
  have s2 : ∀ (w v : List Ed), w.length ≤ 200 → LoopC Try.prog 0 136 wiB (wiS l n bad (w ++ (gE n bad 10).toList) 2 3) (.exit 4) (wiS l n bad v 2 4) → LoopC Try.prog 0 136 wiB (wiS l n bad w 2 2) (.exit 4) (wiS l n bad v 2 4) := by
    intro w v _ h
    rw [show (gE n bad 10).toList = [] from rfl, List.append_nil] at h
    exact LoopC.next (wiSkip22 l n bad w) h
  have s3 : ∀ (w v : List Ed), w.length ≤ 200 → LoopC Try.prog 0 136 wiB (wiS l n bad (w ++ (gE n bad 11).toList) 2 4) (.exit 4) (wiS l n bad v 2 4) → LoopC Try.prog 0 136 wiB (wiS l n bad w 2 3) (.exit 4) (wiS l n bad v 2 4) := by
    intro w v hw h
    by_cases h0 : 0 < n 11
    · have e : gE n bad 11 = some (Ed.mk (nm 2) (nm 3) (n 11) (bad 11)) := by
        have : decide (0 < n 11) = true := by simpa using h0
        unfold gE
        rw [this]
        rfl
      rw [e] at h
      exact LoopC.next (wiAdd23 l n bad w h0 (by omega)) h
    · have e : gE n bad 11 = none := by
        have : decide (0 < n 11) = false := by simpa using h0
        unfold gE
        rw [this, Bool.and_false]
        rfl
      rw [e, Option.toList_none, List.append_nil] at h
      exact LoopC.next (wiSkip23 l n bad w h0) h
  have t : ∀ o : Option Ed, o.toList.length ≤ 1 := fun o => by cases o <;> simp
  refine s0 w _ (by omega) (s1 _ _ ?_ (s2 _ _ ?_ (s3 _ _ ?_ ?_)))
  · have := t (gE n bad 8); simp only [List.length_append]; omega
  · have := t (gE n bad 8); have := t (gE n bad 9); simp only [List.length_append]; omega
  · have := t (gE n bad 8); have := t (gE n bad 9); have := t (gE n bad 10); simp only [List.length_append]; omega
  · have fm : [8, 9, 10, 11].filterMap (gE n bad) = (gE n bad 8).toList ++ ((gE n bad 9).toList ++ ((gE n bad 10).toList ++ (gE n bad 11).toList)) := by
      cases h0 : gE n bad 8 <;> cases h1 : gE n bad 9 <;> cases h2 : gE n bad 10 <;> cases h3 : gE n bad 11 <;> simp [h0, h1, h2, h3]
    rw [fm]
    simp only [List.append_assoc]
    exact last _
theorem wi3 (l : List Sp) (n bad : Nat → Int) (w : List Ed) (hw : w.length ≤ 100) : LoopC Try.prog 0 136 wiB (wiS l n bad w 3 0) (.exit 4) (wiS l n bad (w ++ [12, 13, 14, 15].filterMap (gE n bad)) 3 4) := by
  have last : ∀ w : List Ed, LoopC Try.prog 0 136 wiB (wiS l n bad w 3 4) (.exit 4) (wiS l n bad w 3 4) := fun w => LoopC.last (wiEnd l n bad w 3) (by simp)
  have s0 : ∀ (w v : List Ed), w.length ≤ 200 → LoopC Try.prog 0 136 wiB (wiS l n bad (w ++ (gE n bad 12).toList) 3 1) (.exit 4) (wiS l n bad v 3 4) → LoopC Try.prog 0 136 wiB (wiS l n bad w 3 0) (.exit 4) (wiS l n bad v 3 4) := by
    intro w v hw h
    by_cases h0 : 0 < n 12
    · have e : gE n bad 12 = some (Ed.mk (nm 3) (nm 0) (n 12) (bad 12)) := by
        have : decide (0 < n 12) = true := by simpa using h0
        unfold gE
        rw [this]
        rfl
      rw [e] at h
      exact LoopC.next (wiAdd30 l n bad w h0 (by omega)) h
    · have e : gE n bad 12 = none := by
        have : decide (0 < n 12) = false := by simpa using h0
        unfold gE
        rw [this, Bool.and_false]
        rfl
      rw [e, Option.toList_none, List.append_nil] at h
      exact LoopC.next (wiSkip30 l n bad w h0) h
  have s1 : ∀ (w v : List Ed), w.length ≤ 200 → LoopC Try.prog 0 136 wiB (wiS l n bad (w ++ (gE n bad 13).toList) 3 2) (.exit 4) (wiS l n bad v 3 4) → LoopC Try.prog 0 136 wiB (wiS l n bad w 3 1) (.exit 4) (wiS l n bad v 3 4) := by
    intro w v hw h
    by_cases h0 : 0 < n 13
    · have e : gE n bad 13 = some (Ed.mk (nm 3) (nm 1) (n 13) (bad 13)) := by
        have : decide (0 < n 13) = true := by simpa using h0
        unfold gE
        rw [this]
        rfl
      rw [e] at h
      exact LoopC.next (wiAdd31 l n bad w h0 (by omega)) h
    · have e : gE n bad 13 = none := by
        have : decide (0 < n 13) = false := by simpa using h0
        unfold gE
        rw [this, Bool.and_false]
        rfl
      rw [e, Option.toList_none, List.append_nil] at h
      exact LoopC.next (wiSkip31 l n bad w h0) h
  have s2 : ∀ (w v : List Ed), w.length ≤ 200 → LoopC Try.prog 0 136 wiB (wiS l n bad (w ++ (gE n bad 14).toList) 3 3) (.exit 4) (wiS l n bad v 3 4) → LoopC Try.prog 0 136 wiB (wiS l n bad w 3 2) (.exit 4) (wiS l n bad v 3 4) := by
    intro w v hw h
    by_cases h0 : 0 < n 14
    · have e : gE n bad 14 = some (Ed.mk (nm 3) (nm 2) (n 14) (bad 14)) := by
        have : decide (0 < n 14) = true := by simpa using h0
        unfold gE
        rw [this]
        rfl
      rw [e] at h
      exact LoopC.next (wiAdd32 l n bad w h0 (by omega)) h
    · have e : gE n bad 14 = none := by
        have : decide (0 < n 14) = false := by simpa using h0
        unfold gE
        rw [this, Bool.and_false]
        rfl
      rw [e, Option.toList_none, List.append_nil] at h
      exact LoopC.next (wiSkip32 l n bad w h0) h
  have s3 : ∀ (w v : List Ed), w.length ≤ 200 → LoopC Try.prog 0 136 wiB (wiS l n bad (w ++ (gE n bad 15).toList) 3 4) (.exit 4) (wiS l n bad v 3 4) → LoopC Try.prog 0 136 wiB (wiS l n bad w 3 3) (.exit 4) (wiS l n bad v 3 4) := by
    intro w v _ h
    rw [show (gE n bad 15).toList = [] from rfl, List.append_nil] at h
    exact LoopC.next (wiSkip33 l n bad w) h
  have t : ∀ o : Option Ed, o.toList.length ≤ 1 := fun o => by cases o <;> simp
  refine s0 w _ (by omega) (s1 _ _ ?_ (s2 _ _ ?_ (s3 _ _ ?_ ?_)))
  · have := t (gE n bad 12); simp only [List.length_append]; omega
  · have := t (gE n bad 12); have := t (gE n bad 13); simp only [List.length_append]; omega
  · have := t (gE n bad 12); have := t (gE n bad 13); have := t (gE n bad 14); simp only [List.length_append]; omega
  · have fm : [12, 13, 14, 15].filterMap (gE n bad) = (gE n bad 12).toList ++ ((gE n bad 13).toList ++ ((gE n bad 14).toList ++ (gE n bad 15).toList)) := by
      cases h0 : gE n bad 12 <;> cases h1 : gE n bad 13 <;> cases h2 : gE n bad 14 <;> cases h3 : gE n bad 15 <;> simp [h0, h1, h2, h3]
    rw [fm]
    simp only [List.append_assoc]
    exact last _
def wantE (n bad : Nat → Int) : List Ed := (List.range 16).filterMap (gE n bad)
theorem woLoop (l : List Sp) (n bad : Nat → Int) : LoopC Try.prog 0 136 woB (woS l n bad [] 0) (.exit 2) (woS l n bad (wantE n bad) 4) := by
  have t : ∀ (js : List Nat), (js.filterMap (gE n bad)).length ≤ js.length := fun js => List.length_filterMap_le _ _
  have fm : wantE n bad = [] ++ [0, 1, 2, 3].filterMap (gE n bad) ++ [4, 5, 6, 7].filterMap (gE n bad) ++ [8, 9, 10, 11].filterMap (gE n bad) ++ [12, 13, 14, 15].filterMap (gE n bad) := by
    rw [List.nil_append, ← List.filterMap_append, ← List.filterMap_append, ← List.filterMap_append]
    rfl
  rw [fm]
  have a0 := t [0, 1, 2, 3]
  have a1 := t [4, 5, 6, 7]
  have a2 := t [8, 9, 10, 11]
  simp only [List.length_cons, List.length_nil] at a0 a1 a2
  refine LoopC.next (woGo l n bad _ _ 0 (by omega) (wi0 l n bad _ ?_)) (LoopC.next (woGo l n bad _ _ 1 (by omega) (wi1 l n bad _ ?_)) (LoopC.next (woGo l n bad _ _ 2 (by omega) (wi2 l n bad _ ?_)) (LoopC.next (woGo l n bad _ _ 3 (by omega) (wi3 l n bad _ ?_)) (LoopC.last (woEnd l n bad _) (by simp)))))
  all_goals (simp only [List.length_append, List.length_nil]; omega)

/-! ### the calls of a chain -/
theorem chRight : ∀ (j k : Nat) (e : Bool), rightS (chSp j k e) = true
  | j, 0, e => rfl
  | j, 1, e => rfl
  | j, 2, e => rfl
  | j, k + 3, e => rfl
theorem callM_ch (s : Sp) (hh : s.hi = 0) (hl : s.lo = 0) (t k : Nat) (e : Bool) : callM s (chSp t k e) = (((t + 1 : Nat) : Int) == s.par) := by
  unfold callM
  rw [chRight, show (decide ((chSp t k e).hi = s.hi) && (decide ((chSp t k e).lo = s.lo) && true)) = true by simp [chSp, hh, hl]]
  rw [cond_true, show (chSp t k e).id = ((t + 1 : Nat) : Int) from rfl]
  cases ((t + 1 : Nat) : Int) == s.par <;> rfl
theorem find_ch (sv : List Int) (er : List Bool) (s : Sp) (hh : s.hi = 0) (hl : s.lo = 0) (t : Nat) (hp : s.par = ((t + 1 : Nat) : Int)) : ∀ i, (spL sv er i).find? (callM s) = if t < i then some (chSp t (ke sv t) (bo er t)) else none
  | 0 => rfl
  | i + 1 => by
    rw [spL_succ, List.find?_append, find_ch sv er s hh hl t hp i]
    by_cases h : t < i
    · rw [if_pos h, if_pos (by omega)]; rfl
    · rw [if_neg h, Option.none_or, List.find?_cons, callM_ch s hh hl, hp]
      by_cases h2 : t = i
      · subst h2
        rw [beq_self_eq_true, if_pos (by omega)]
      · rw [if_neg (by omega), show (((i + 1 : Nat) : Int) == ((t + 1 : Nat) : Int)) = false by simp; omega]
        rfl
theorem find_ch0 (sv : List Int) (er : List Bool) (s : Sp) (hh : s.hi = 0) (hl : s.lo = 0) (hp : s.par = 0) : ∀ i, (spL sv er i).find? (callM s) = none
  | 0 => rfl
  | i + 1 => by
    rw [spL_succ, List.find?_append, find_ch0 sv er s hh hl hp i, Option.none_or, List.find?_cons, callM_ch s hh hl, hp, show (((i + 1 : Nat) : Int) == (0 : Int)) = false by simp; omega]
    rfl
theorem nm_ne : ∀ p : Fin 4, ∀ k : Fin 4, ((nm p.val).toList == (nm k.val).toList) = (p.val == k.val) := of_decide_eq_true (by kernel_rfl)
theorem ev0 (sv : List Int) (er : List Bool) (m : Nat) : evK (spL sv er m) (chSp 0 (ke sv 0) (bo er 0)) = none := by
  unfold evK callerS
  rw [chRight, find_ch0 sv er _ rfl rfl rfl]
  rfl
theorem ev1 (sv : List Int) (er : List Bool) (m i : Nat) (h0 : i ≠ 0) (h : i < m) : evK (spL sv er m) (chSp i (ke sv i) (bo er i)) = if ke sv (i - 1) = ke sv i then none else some ((nm (ke sv (i - 1)), nm (ke sv i)), bo er i) := by
  unfold evK callerS
  rw [chRight, find_ch sv er _ rfl rfl (i - 1) (show ((i : Nat) : Int) = _ by congr 1; omega), if_pos (by omega)]
  have h1 := (lw_all (at0 sv (i - 1))).2
  have h2 := (lw_all (at0 sv i)).2
  have e := nm_ne ⟨ke sv (i - 1), h1⟩ ⟨ke sv i, h2⟩
  simp only at e
  simp only [chSp, cond_true]
  rw [e]
  by_cases hk : ke sv (i - 1) = ke sv i
  · rw [if_pos hk, show (ke sv (i - 1) == ke sv i) = true by simpa using hk]; rfl
  · rw [if_neg hk, show (ke sv (i - 1) == ke sv i) = false by simpa using hk]; rfl
theorem wantE_0 (bad : Nat → Int) : wantE (fun _ => 0) bad = [] := rfl
/-- A call of oneself counts for nothing. -/
theorem wantE_self (n bad : Nat → Int) (k : Nat) (h : k / 4 = k % 4) (a b : Int) : wantE (upd n k a) (upd bad k b) = wantE n bad := by
  refine fm_congr fun j hj => ?_
  by_cases hjk : j = k
  · subst hjk
    unfold gE
    rw [show (j / 4 != j % 4) = false by simpa using h]
    rfl
  · exact gE_upd hjk a b
theorem chEvents (sv : List Int) (er : List Bool) (m : Nat) (hm : m ≤ 40) : ∀ i, i ≤ m → (evs (spL sv er m) (spL sv er i)).foldl (cntK 1000) [] = wantE (cN sv i) (cB sv er i)
  | 0, _ => rfl
  | i + 1, h => by
    have ih := chEvents sv er m hm i (by omega)
    have b := cN_bnd sv er i (ix sv i)
    rw [spL_succ]
    unfold evs at ih ⊢
    rw [List.filterMap_append, List.foldl_append, ih]
    by_cases h0 : i = 0
    · subst h0
      rw [List.filterMap_cons, ev0]
      rfl
    · have e1 : cN sv (i + 1) = upd (cN sv i) (ix sv i) (cN sv i (ix sv i) + 1) := by rw [cN, if_neg h0]
      have e2 : cB sv er (i + 1) = upd (cB sv er i) (ix sv i) (cB sv er i (ix sv i) + errN (bo er i)) := by rw [cB, if_neg h0]
      have h1 := (lw_all (at0 sv (i - 1))).2
      have h2 := (lw_all (at0 sv i)).2
      have d1 : ix sv i / 4 = ke sv (i - 1) := by unfold ix ke at *; omega
      have d2 : ix sv i % 4 = ke sv i := by unfold ix ke at *; omega
      have d3 : ix sv i < 16 := by unfold ix ke at *; omega
      rw [List.filterMap_cons, ev1 sv er m i h0 (by omega), e1, e2]
      by_cases hk : ke sv (i - 1) = ke sv i
      · rw [if_pos hk, wantE_self _ _ _ (by rw [d1, d2, hk])]
        rfl
      · rw [if_neg hk]
        simp only [List.filterMap_nil, List.foldl_cons, List.foldl_nil]
        unfold wantE
        rw [← table (e := bo er i) d3 (by rw [d1, d2]; exact hk) (by omega) (by omega) (List.range 16) List.pairwise_lt_range (fun j hj => List.mem_range.1 hj) (List.mem_range.2 d3)]
        unfold cntK edJ
        rw [d1, d2]
theorem chLaw (sv : List Int) (er : List Bool) (h : sv.length ≤ 40) : addE [] (spL sv er sv.length) 1000 = wantE (cN sv sv.length) (cB sv er sv.length) := by
  rw [addE_eq sorted_nil]
  exact chEvents sv er _ h _ (Nat.le_refl _)
end Go.Proofs.Ytieffigehkjifaa

