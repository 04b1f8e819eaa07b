/- the reference's reader. -/
import Derived.Test.YtdomjccibhgbjaaBlTornP4
namespace Go.Proofs.Ytdomjccibhgbjaa
open E
set_option maxRecDepth 100000
set_option linter.unusedVariables false
set_option linter.unusedSimpArgs false

def rwS (s : RS) : RS := bif s.2 || !getOk s.1 then (s.1, true) else (s.1.drop (getK s.1), false)
def rnS (top : Int) (s : RS) : RS := bif decide (wideV s > top) then ((rwS s).1, true) else rwS s
def gtOk (l : List UInt8) : Bool := getOk l && !decide ((getN l : Int) > ((l.length - getK l : Nat) : Int))
def gtV (l : List UInt8) : ByteArray := bif gtOk l then ofB ((l.take (getK l + getN l)).drop (getK l)) else ofB []
def gtK (l : List UInt8) : Nat := bif gtOk l then getK l + getN l else 0
def rtV (s : RS) : ByteArray := bif s.2 || !gtOk s.1 then ofB [] else gtV s.1
def rtS (s : RS) : RS := bif s.2 || !gtOk s.1 then (s.1, true) else (s.1.drop (gtK s.1), false)
theorem gtOk_le {l : List UInt8} (h : gtOk l = true) : getK l + getN l ≤ l.length := by
  have := getK_le l
  unfold gtOk at h
  simp only [Bool.and_eq_true, Bool.not_eq_true', decide_eq_false_iff_not] at h
  omega
theorem gtK_le (l : List UInt8) : gtK l ≤ l.length := by
  unfold gtK
  cases h : gtOk l with
  | true => simpa using gtOk_le h
  | false => simp
theorem rwS_len (s : RS) : (rwS s).1.length ≤ s.1.length := by
  unfold rwS
  cases s.2 || !getOk s.1 <;> simp
theorem rnS_len (top : Int) (s : RS) : (rnS top s).1.length ≤ s.1.length := by
  have := rwS_len s
  unfold rnS
  cases decide (wideV s > top) <;> simp <;> exact this
theorem rtS_len (s : RS) : (rtS s).1.length ≤ s.1.length := by
  unfold rtS
  cases s.2 || !gtOk s.1 <;> simp
theorem cGetText_0 (l : List UInt8) (hs : l.length ≤ 70000000) (tq0 : (!getOk l) = true) : Contract Try.prog 101 [.sl 1 (l.map bR)] [] (.tup [Sg { data := { toList := [] } }, I 0, Bo false]) ([]) :=
 vcS hmix [.reg 1 [(1, [.call [] [] (.tup [U ((getN l : Nat) : Int), I ((getK l : Nat) : Int), Bo (getOk l)]) []], none)], .reg 2 [(2, [], some true), (5, [.be (I (l.length : Int))], none), (7, [.be (I ((l.length - getK l : Nat) : Int))], none), (8, [.be (U ((l.length - getK l : Nat) : Int))], none)]] [] [⟨cGetRf l hs⟩, ⟨tq0⟩]

theorem cGetText_1 (l : List UInt8) (hs : l.length ≤ 70000000) (tq0 : (!getOk l) = false) (tq1 : (decide (Int.ofNat (getN l) > Int.ofNat (List.length l - getK l))) = true) : Contract Try.prog 101 [.sl 1 (l.map bR)] [] (.tup [Sg { data := { toList := [] } }, I 0, Bo false]) ([]) :=
 vcS hmix [.reg 1 [(1, [.call [] [] (.tup [U ((getN l : Nat) : Int), I ((getK l : Nat) : Int), Bo (getOk l)]) []], none)], .reg 2 [(2, [], some false), (5, [.be (I (l.length : Int))], none), (7, [.be (I ((l.length - getK l : Nat) : Int))], none), (8, [.be (U ((l.length - getK l : Nat) : Int))], none), (10, [], some true)]] [] [⟨cGetRf l hs⟩, ⟨tq0⟩, ⟨lenm bR l⟩, ⟨(by have q := getK_le l; rw [i64_small (by simp only [Int.ofNat_eq_natCast]; omega)]; simp only [Int.ofNat_eq_natCast]; omega : IntKind.wrap IntKind.i64 (Int.ofNat (List.length l) + -Int.ofNat (getK l)) = Int.ofNat (List.length l - getK l))⟩, ⟨(by rw [Nat.mod_eq_of_lt (by omega)] : Int.ofNat ((List.length l - getK l) % 18446744073709551616) = Int.ofNat (List.length l - getK l))⟩, ⟨tq1⟩]

theorem cGetText_2 (l : List UInt8) (hs : l.length ≤ 70000000) (tq0 : (!getOk l) = false) (tq1 : (decide (Int.ofNat (getN l) > Int.ofNat (List.length l - getK l))) = false) : Contract Try.prog 101 [.sl 1 (l.map bR)] [] (.tup [Sg (ofB (List.drop (getK l) (List.take (getK l + getN l) l))), I (Int.ofNat (getK l + getN l)), Bo true]) ([]) :=
 vcS hmix [.reg 1 [(1, [.call [] [] (.tup [U ((getN l : Nat) : Int), I ((getK l : Nat) : Int), Bo (getOk l)]) []], none)], .reg 2 [(2, [], some false), (5, [.be (I (l.length : Int))], none), (7, [.be (I ((l.length - getK l : Nat) : Int))], none), (8, [.be (U ((l.length - getK l : Nat) : Int))], none), (10, [], some false)], .reg 4 [(4, [.be (I ((getN l : Nat) : Int))], none), (5, [.be (I ((getK l + getN l : Nat) : Int))], none), (6, [.be (.sl 1 (((l.take (getK l + getN l)).drop (getK l)).map bR))], none), (7, [.str (ofB ((l.take (getK l + getN l)).drop (getK l)))], none), (10, [.be (I ((getN l : Nat) : Int))], none), (11, [.be (I ((getK l + getN l : Nat) : Int))], none)]] [] [⟨cGetRf l hs⟩, ⟨tq0⟩, ⟨lenm bR l⟩, ⟨(by have q := getK_le l; rw [i64_small (by simp only [Int.ofNat_eq_natCast]; omega)]; simp only [Int.ofNat_eq_natCast]; omega : IntKind.wrap IntKind.i64 (Int.ofNat (List.length l) + -Int.ofNat (getK l)) = Int.ofNat (List.length l - getK l))⟩, ⟨(by rw [Nat.mod_eq_of_lt (by omega)] : Int.ofNat ((List.length l - getK l) % 18446744073709551616) = Int.ofNat (List.length l - getK l))⟩, ⟨tq1⟩, ⟨(by have d0 := tq0; have d1 := tq1; try simp only [Int.ofNat_eq_natCast, List.length_map, Bool.not_eq_true', Bool.not_eq_false', decide_eq_true_eq, decide_eq_false_iff_not] at d0 d1; have q := getK_le l; exact i64_of (by simp only [Int.ofNat_eq_natCast]; omega) (by simp only [Int.ofNat_eq_natCast]; omega) : IntKind.wrap IntKind.i64 (Int.ofNat (getN l)) = Int.ofNat (getN l))⟩, ⟨(by have d0 := tq0; have d1 := tq1; try simp only [Int.ofNat_eq_natCast, List.length_map, Bool.not_eq_true', Bool.not_eq_false', decide_eq_true_eq, decide_eq_false_iff_not] at d0 d1; have q := getK_le l; exact i64_of (by simp only [Int.ofNat_eq_natCast]; omega) (by simp only [Int.ofNat_eq_natCast]; omega) : IntKind.wrap IntKind.i64 (Int.ofNat (getK l + getN l)) = Int.ofNat (getK l + getN l))⟩, ⟨nn (getK l)⟩, ⟨(by have q := getK_le l; simp; omega : Int.ofNat (getK l) ≤ Int.ofNat (getK l + getN l))⟩, ⟨(by have d0 := tq0; have d1 := tq1; try simp only [Int.ofNat_eq_natCast, List.length_map, Bool.not_eq_true', Bool.not_eq_false', decide_eq_true_eq, decide_eq_false_iff_not] at d0 d1; have q := getK_le l; simp; omega : Int.ofNat (getK l + getN l) ≤ Int.ofNat (List.length (List.map bR l)))⟩, ⟨(by rw [List.map_drop, List.map_take] : List.drop (getK l) (List.take (getK l + getN l) (List.map bR l)) = List.map bR (List.drop (getK l) (List.take (getK l + getN l) l)))⟩, ⟨(by exact ofB_rows _ : List.map bR (List.drop (getK l) (List.take (getK l + getN l) l)) = strRows (ofB (List.drop (getK l) (List.take (getK l + getN l) l))))⟩, ⟨(by have d0 := tq0; have d1 := tq1; try simp only [Int.ofNat_eq_natCast, List.length_map, Bool.not_eq_true', Bool.not_eq_false', decide_eq_true_eq, decide_eq_false_iff_not] at d0 d1; have q := getK_le l; exact i64_of (by simp only [Int.ofNat_eq_natCast]; omega) (by simp only [Int.ofNat_eq_natCast]; omega) : IntKind.wrap IntKind.i64 (Int.ofNat (getN l)) = Int.ofNat (getN l))⟩, ⟨(by have d0 := tq0; have d1 := tq1; try simp only [Int.ofNat_eq_natCast, List.length_map, Bool.not_eq_true', Bool.not_eq_false', decide_eq_true_eq, decide_eq_false_iff_not] at d0 d1; have q := getK_le l; exact i64_of (by simp only [Int.ofNat_eq_natCast]; omega) (by simp only [Int.ofNat_eq_natCast]; omega) : IntKind.wrap IntKind.i64 (Int.ofNat (getK l + getN l)) = Int.ofNat (getK l + getN l))⟩]

theorem cGetText (l : List UInt8) (hs : l.length ≤ 70000000) : Contract Try.prog 101 [.sl 1 (l.map bR)] [] (.tup [Sg (gtV l), I ((gtK l : Nat) : Int), Bo (gtOk l)]) [] := by
  rcases tf (!getOk l) with tq0 | tq0
  · exact Contract.cast (by (try simp only [Int.ofNat_eq_natCast, List.length_map, Bool.not_eq_true', Bool.not_eq_false', decide_eq_true_eq, decide_eq_false_iff_not] at tq0); simp [gtOk, gtV, gtK, ofB, tq0]) rfl (cGetText_0 l hs tq0)
  · rcases tf (decide (Int.ofNat (getN l) > Int.ofNat (List.length l - getK l))) with tq1 | tq1
    · exact Contract.cast (by (try simp only [Int.ofNat_eq_natCast, List.length_map, Bool.not_eq_true', Bool.not_eq_false', decide_eq_true_eq, decide_eq_false_iff_not] at tq0 tq1); simp [gtOk, gtV, gtK, ofB, tq0, tq1]) rfl (cGetText_1 l hs tq0 tq1)
    · exact Contract.cast (by (try simp only [Int.ofNat_eq_natCast, List.length_map, Bool.not_eq_true', Bool.not_eq_false', decide_eq_true_eq, decide_eq_false_iff_not] at tq0 tq1); simp [gtOk, gtV, gtK, ofB, tq0, tq1]) rfl (cGetText_2 l hs tq0 tq1)

theorem cNumRf_0 (s : RS) (hs : s.1.length ≤ 70000000) (tq0 : (Prod.snd s) = true) : Contract Try.prog 21 [.ptr 0 0 0 0] [rdO s] (V.val (Value.int IntKind.u64 (0 : Int))) ([some (Obj.box [V.sl (1 : Nat) (List.map bR (Prod.fst s)), Bo true])]) :=
 vcS hmix [.reg 1 [(4, [.call [] [] (.tup [U ((getN s.1 : Nat) : Int), I ((getK s.1 : Nat) : Int), Bo (getOk s.1)]) []], none)], .reg 2 [(4, [], some true)]] [] [⟨(by exact cGetRf s.1 hs : Contract Try.prog 50 [.sl 1 (List.map bR (Prod.fst s))] [] (.tup [(U (Int.ofNat (getN (Prod.fst s)))), I (Int.ofNat (getK (Prod.fst s))), Bo (getOk (Prod.fst s))]) [])⟩, ⟨(by omega : Prod.snd s = true)⟩]

theorem cNumRf_1 (s : RS) (hs : s.1.length ≤ 70000000) (tq0 : (Prod.snd s) = false) (tq1 : (!getOk (Prod.fst s)) = true) : Contract Try.prog 21 [.ptr 0 0 0 0] [rdO s] (V.val (Value.int IntKind.u64 (0 : Int))) ([some (Obj.box [V.sl (1 : Nat) (List.map bR (Prod.fst s)), Bo true])]) :=
 vcS hmix [.reg 1 [(4, [.call [] [] (.tup [U ((getN s.1 : Nat) : Int), I ((getK s.1 : Nat) : Int), Bo (getOk s.1)]) []], none)], .reg 2 [(4, [], some false), (7, [], some true)]] [] [⟨(by exact cGetRf s.1 hs : Contract Try.prog 50 [.sl 1 (List.map bR (Prod.fst s))] [] (.tup [(U (Int.ofNat (getN (Prod.fst s)))), I (Int.ofNat (getK (Prod.fst s))), Bo (getOk (Prod.fst s))]) [])⟩, ⟨(by omega : Prod.snd s = false)⟩, ⟨(by omega : (!getOk (Prod.fst s)) = true)⟩]

theorem cNumRf_2 (s : RS) (hs : s.1.length ≤ 70000000) (tq0 : (Prod.snd s) = false) (tq1 : (!getOk (Prod.fst s)) = false) : Contract Try.prog 21 [.ptr 0 0 0 0] [rdO s] ((U (Int.ofNat (getN (Prod.fst s))))) ([some (.box [.sl 1 (List.map bR (List.drop (getK (Prod.fst s)) (Prod.fst s))), Bo (Prod.snd s)])]) :=
 vcS hmix [.reg 1 [(4, [.call [] [] (.tup [U ((getN s.1 : Nat) : Int), I ((getK s.1 : Nat) : Int), Bo (getOk s.1)]) []], none)], .reg 2 [(4, [], some false), (7, [], some false)], .reg 5 [(6, [.be (.sl 1 ((s.1.drop (getK s.1)).map bR))], none)]] [] [⟨cGetRf s.1 hs⟩, ⟨tq0⟩, ⟨tq1⟩, ⟨(by simp : 0 ≤ Int.ofNat (getK (Prod.fst s)))⟩, ⟨(by have q := getK_le s.1; simp; omega : Int.ofNat (getK (Prod.fst s)) ≤ Int.ofNat (List.length (List.map bR (Prod.fst s))))⟩, ⟨(by omega : Int.ofNat (List.length (List.map bR (Prod.fst s))) ≤ Int.ofNat (List.length (List.map bR (Prod.fst s))))⟩, ⟨(by rw [List.take_length, List.map_drop] : List.drop (getK (Prod.fst s)) (List.take (List.length (List.map bR (Prod.fst s))) (List.map bR (Prod.fst s))) = List.map bR (List.drop (getK (Prod.fst s)) (Prod.fst s)))⟩]

theorem cNumRf (s : RS) (hs : s.1.length ≤ 70000000) : Contract Try.prog 21 [.ptr 0 0 0 0] [rdO s] (U (wideV s)) [some (rdO (rwS s))] := by
  rcases tf (Prod.snd s) with tq0 | tq0
  · exact Contract.cast (by
      first
        | (simp only [wideV, rwS, rdO, tq0, cond_true, cond_false]; rfl)) (by
      first
        | (simp only [wideV, rwS, rdO, tq0, cond_true, cond_false]; rfl)) (cNumRf_0 s hs tq0)
  · rcases tf (!getOk (Prod.fst s)) with tq1 | tq1
    · exact Contract.cast (by
        first
          | (simp only [wideV, rwS, rdO, tq0, tq1, cond_true, cond_false]; rfl)) (by
        first
          | (simp only [wideV, rwS, rdO, tq0, tq1, cond_true, cond_false]; rfl)) (cNumRf_1 s hs tq0 tq1)
    · exact Contract.cast (by
        first
          | (simp only [wideV, rwS, rdO, tq0, tq1, cond_true, cond_false]; rfl)) (by
        first
          | (simp only [wideV, rwS, rdO, tq0, tq1, cond_true, cond_false]; rfl)) (cNumRf_2 s hs tq0 tq1)

theorem cIntRf_0 (top : Int) (s : RS) (hs : s.1.length ≤ 70000000) (h0 : 0 ≤ top) (h1 : top ≤ 1000000000000000) (tq0 : (decide (wideV s > top)) = true) : Contract Try.prog 39 [.ptr 0 0 0 0, I top] [rdO s] (I 0) ([some (.box [.sl 1 (List.map bR (Prod.fst (rwS s))), Bo true])]) :=
 vcS hmix [.reg 1 [(1, [.call [0] [] (U (wideV s)) [some (rdO (rwS s))]], none)], .reg 2 [(2, [.be (U top)], none), (3, [], some true)]] [] [⟨cNumRf s hs⟩, ⟨u64_of h0 (by omega)⟩, ⟨tq0⟩]

theorem cIntRf_1 (top : Int) (s : RS) (hs : s.1.length ≤ 70000000) (h0 : 0 ≤ top) (h1 : top ≤ 1000000000000000) (tq0 : (decide (wideV s > top)) = false) : Contract Try.prog 39 [.ptr 0 0 0 0, I top] [rdO s] (I (wideV s)) ([some (.box [.sl 1 (List.map bR (Prod.fst (rwS s))), Bo (Prod.snd (rwS s))])]) :=
 vcS hmix [.reg 1 [(1, [.call [0] [] (U (wideV s)) [some (rdO (rwS s))]], none)], .reg 2 [(2, [.be (U top)], none), (3, [], some false)], .reg 5 [(1, [.be (I (wideV s))], none)]] [] [⟨cNumRf s hs⟩, ⟨u64_of h0 (by omega)⟩, ⟨tq0⟩, ⟨(by have d0 := tq0; try simp only [Int.ofNat_eq_natCast, List.length_map, Bool.not_eq_true', Bool.not_eq_false', decide_eq_true_eq, decide_eq_false_iff_not] at d0; have q := wideV_bnd s; exact i64_of q.1 (by omega) : IntKind.wrap IntKind.i64 (wideV s) = wideV s)⟩]

theorem cIntRf (top : Int) (s : RS) (hs : s.1.length ≤ 70000000) (h0 : 0 ≤ top) (h1 : top ≤ 1000000000000000) : Contract Try.prog 39 [.ptr 0 0 0 0, I top] [rdO s] (I (numV top s)) [some (rdO (rnS top s))] := by
  rcases tf (decide (wideV s > top)) with tq0 | tq0
  · exact Contract.cast (by simp only [numV, rnS, rdO, tq0, cond_true, cond_false]) (by simp only [numV, rnS, rdO, tq0, cond_true, cond_false]) (cIntRf_0 top s hs h0 h1 tq0)
  · exact Contract.cast (by simp only [numV, rnS, rdO, tq0, cond_true, cond_false]) (by simp only [numV, rnS, rdO, tq0, cond_true, cond_false]) (cIntRf_1 top s hs h0 h1 tq0)

theorem cTextRf_0 (s : RS) (hs : s.1.length ≤ 70000000) (tq0 : (Prod.snd s) = true) : Contract Try.prog 89 [.ptr 0 0 0 0] [rdO s] (Sg { data := { toList := [] } }) ([some (.box [.sl 1 (List.map bR (Prod.fst s)), Bo true])]) :=
 vcS hmix [.reg 1 [(4, [.call [] [] (.tup [Sg (gtV s.1), I ((gtK s.1 : Nat) : Int), Bo (gtOk s.1)]) []], none)], .reg 2 [(4, [], some true)]] [] [⟨cGetText s.1 hs⟩, ⟨tq0⟩]

theorem cTextRf_1 (s : RS) (hs : s.1.length ≤ 70000000) (tq0 : (Prod.snd s) = false) (tq1 : (!gtOk (Prod.fst s)) = true) : Contract Try.prog 89 [.ptr 0 0 0 0] [rdO s] (Sg { data := { toList := [] } }) ([some (.box [.sl 1 (List.map bR (Prod.fst s)), Bo true])]) :=
 vcS hmix [.reg 1 [(4, [.call [] [] (.tup [Sg (gtV s.1), I ((gtK s.1 : Nat) : Int), Bo (gtOk s.1)]) []], none)], .reg 2 [(4, [], some false), (7, [], some true)]] [] [⟨cGetText s.1 hs⟩, ⟨tq0⟩, ⟨tq1⟩]

theorem cTextRf_2 (s : RS) (hs : s.1.length ≤ 70000000) (tq0 : (Prod.snd s) = false) (tq1 : (!gtOk (Prod.fst s)) = false) : Contract Try.prog 89 [.ptr 0 0 0 0] [rdO s] (Sg (gtV (Prod.fst s))) ([some (.box [.sl 1 (List.map bR (List.drop (gtK (Prod.fst s)) (Prod.fst s))), Bo (Prod.snd s)])]) :=
 vcS hmix [.reg 1 [(4, [.call [] [] (.tup [Sg (gtV s.1), I ((gtK s.1 : Nat) : Int), Bo (gtOk s.1)]) []], none)], .reg 2 [(4, [], some false), (7, [], some false)], .reg 5 [(6, [.be (.sl 1 ((s.1.drop (gtK s.1)).map bR))], none)]] [] [⟨cGetText s.1 hs⟩, ⟨tq0⟩, ⟨tq1⟩, ⟨(by simp : 0 ≤ Int.ofNat (gtK (Prod.fst s)))⟩, ⟨(by have q := gtK_le s.1; simp; omega : Int.ofNat (gtK (Prod.fst s)) ≤ Int.ofNat (List.length (List.map bR (Prod.fst s))))⟩, ⟨(by omega : Int.ofNat (List.length (List.map bR (Prod.fst s))) ≤ Int.ofNat (List.length (List.map bR (Prod.fst s))))⟩, ⟨(by rw [List.take_length, List.map_drop] : List.drop (gtK (Prod.fst s)) (List.take (List.length (List.map bR (Prod.fst s))) (List.map bR (Prod.fst s))) = List.map bR (List.drop (gtK (Prod.fst s)) (Prod.fst s)))⟩]

theorem cTextRf (s : RS) (hs : s.1.length ≤ 70000000) : Contract Try.prog 89 [.ptr 0 0 0 0] [rdO s] (Sg (rtV s)) [some (rdO (rtS s))] := by
  rcases tf (Prod.snd s) with tq0 | tq0
  · exact Contract.cast (by simp only [rtV, rtS, rdO, ofB, tq0, cond_true, cond_false]; rfl) (by simp only [rtV, rtS, rdO, ofB, tq0, cond_true, cond_false]; rfl) (cTextRf_0 s hs tq0)
  · rcases tf (!gtOk (Prod.fst s)) with tq1 | tq1
    · exact Contract.cast (by simp only [rtV, rtS, rdO, ofB, tq0, tq1, cond_true, cond_false]; rfl) (by simp only [rtV, rtS, rdO, ofB, tq0, tq1, cond_true, cond_false]; rfl) (cTextRf_1 s hs tq0 tq1)
    · exact Contract.cast (by simp only [rtV, rtS, rdO, ofB, tq0, tq1, cond_true, cond_false]; rfl) (by simp only [rtV, rtS, rdO, ofB, tq0, tq1, cond_true, cond_false]; rfl) (cTextRf_2 s hs tq0 tq1)

theorem openRS (l : List UInt8) (hs : l.length < 4) : Contract Try.prog 38 [.sl 1 (l.map bR)] [] (.tup [.sl 1 [], Bo false]) [] :=
 vcS hmix [.reg 2 [(1, [], some true)]] [] [⟨(by rw [i64_small (by simp; omega)]; simp; omega : decide (IntKind.wrap IntKind.i64 (Int.ofNat (List.length (List.map bR l)) + (-4)) < 0) = true)⟩]

theorem openRL_0 (l : List UInt8) (hs : 4 ≤ l.length) (hm : l.length ≤ 70000000) (tq0 : (!ByteArray.toList (ofB (fourB (crcM (List.take (List.length l - (4 : Nat)) l)))) == ByteArray.toList (ofB (List.drop (List.length l - (4 : Nat)) l))) = true) : Contract Try.prog 38 [.sl 1 (l.map bR)] [] (V.tup [V.sl (1 : Nat) [], Bo false]) ([]) :=
  vcP hmix [.reg 1 [(2, [.be (I ((l.length - 4 : Nat) : Int))], none)], .reg 2 [(1, [], some false), (5, [.be (.sl 1 ((l.take (l.length - 4)).map bR))], none), (6, [.call [] [] (U4 ((crcM (l.take (l.length - 4)) : Nat) : Int)) []], none), (7, [.call [] [] (.sl 1 ((fourB (crcM (l.take (l.length - 4)))).map bR)) []], none), (8, [.str (ofB (fourB (crcM (l.take (l.length - 4)))))], none), (11, [.be (.sl 1 ((l.drop (l.length - 4)).map bR))], none), (12, [.str (ofB (l.drop (l.length - 4)))], none), (14, [], some true)]] [] [
      IntKind.wrap IntKind.i64 (Int.ofNat (List.length (List.map bR l)) + (-4 : Int)) = Int.ofNat (List.length l - (4 : Nat)),
      false = false,
      (0 : Int) ≤ (0 : Int),
      (0 : Int) ≤ Int.ofNat (List.length l - (4 : Nat)),
      Int.ofNat (List.length l - (4 : Nat)) ≤ Int.ofNat (List.length (List.map bR l)),
      List.take (List.length l - (4 : Nat)) (List.map bR l) = List.map bR (List.take (List.length l - (4 : Nat)) l),
      Contract Try.prog (61 : Nat) [V.sl (1 : Nat) (List.map bR (List.take (List.length l - (4 : Nat)) l))] [] (V.val (Value.int IntKind.u32 (Int.ofNat (crcM (List.take (List.length l - (4 : Nat)) l))))) [],
      Contract Try.prog (60 : Nat) [V.val (Value.int IntKind.u32 (Int.ofNat (crcM (List.take (List.length l - (4 : Nat)) l))))] [] (V.sl (1 : Nat) (List.map bR (fourB (crcM (List.take (List.length l - (4 : Nat)) l))))) [],
      List.map bR (fourB (crcM (List.take (List.length l - (4 : Nat)) l))) = strRows (ofB (fourB (crcM (List.take (List.length l - (4 : Nat)) l)))),
      (0 : Int) ≤ Int.ofNat (List.length l - (4 : Nat)),
      Int.ofNat (List.length l - (4 : Nat)) ≤ Int.ofNat (List.length (List.map bR l)),
      Int.ofNat (List.length (List.map bR l)) ≤ Int.ofNat (List.length (List.map bR l)),
      List.drop (List.length l - (4 : Nat)) (List.take (List.length (List.map bR l)) (List.map bR l)) = List.map bR (List.drop (List.length l - (4 : Nat)) l),
      List.map bR (List.drop (List.length l - (4 : Nat)) l) = strRows (ofB (List.drop (List.length l - (4 : Nat)) l)),
      (!ByteArray.toList (ofB (fourB (crcM (List.take (List.length l - (4 : Nat)) l)))) == ByteArray.toList (ofB (List.drop (List.length l - (4 : Nat)) l))) = true] (by kernel_rfl)
    (by
      have d0 := tq0
      try simp only [Int.ofNat_eq_natCast, List.length_map, Bool.not_eq_true', Bool.not_eq_false', decide_eq_true_eq, decide_eq_false_iff_not] at d0
      simp only [allP]
      and_intros <;> first
        | omega
        | exact rSum _ (by simp; omega)
        | exact cFour _ (crcM_lt _)
        | exact ofB_rows _
        | (rw [i64_small (by simp; omega)]; simp; omega)
        | (simp [List.map_take]; done)
        | (rw [List.take_length, List.map_drop]; done))

theorem openRL_1 (l : List UInt8) (hs : 4 ≤ l.length) (hm : l.length ≤ 70000000) (tq0 : (!ByteArray.toList (ofB (fourB (crcM (List.take (List.length l - (4 : Nat)) l)))) == ByteArray.toList (ofB (List.drop (List.length l - (4 : Nat)) l))) = false) : Contract Try.prog 38 [.sl 1 (l.map bR)] [] (V.tup [V.sl (1 : Nat) (List.map bR (List.take (List.length l - (4 : Nat)) l)), Bo true]) ([]) :=
  vcP hmix [.reg 1 [(2, [.be (I ((l.length - 4 : Nat) : Int))], none)], .reg 2 [(1, [], some false), (5, [.be (.sl 1 ((l.take (l.length - 4)).map bR))], none), (6, [.call [] [] (U4 ((crcM (l.take (l.length - 4)) : Nat) : Int)) []], none), (7, [.call [] [] (.sl 1 ((fourB (crcM (l.take (l.length - 4)))).map bR)) []], none), (8, [.str (ofB (fourB (crcM (l.take (l.length - 4)))))], none), (11, [.be (.sl 1 ((l.drop (l.length - 4)).map bR))], none), (12, [.str (ofB (l.drop (l.length - 4)))], none), (14, [], some false)], .reg 4 [(2, [.be (.sl 1 ((l.take (l.length - 4)).map bR))], none)]] [] [
      IntKind.wrap IntKind.i64 (Int.ofNat (List.length (List.map bR l)) + (-4 : Int)) = Int.ofNat (List.length l - (4 : Nat)),
      false = false,
      (0 : Int) ≤ (0 : Int),
      (0 : Int) ≤ Int.ofNat (List.length l - (4 : Nat)),
      Int.ofNat (List.length l - (4 : Nat)) ≤ Int.ofNat (List.length (List.map bR l)),
      List.take (List.length l - (4 : Nat)) (List.map bR l) = List.map bR (List.take (List.length l - (4 : Nat)) l),
      Contract Try.prog (61 : Nat) [V.sl (1 : Nat) (List.map bR (List.take (List.length l - (4 : Nat)) l))] [] (V.val (Value.int IntKind.u32 (Int.ofNat (crcM (List.take (List.length l - (4 : Nat)) l))))) [],
      Contract Try.prog (60 : Nat) [V.val (Value.int IntKind.u32 (Int.ofNat (crcM (List.take (List.length l - (4 : Nat)) l))))] [] (V.sl (1 : Nat) (List.map bR (fourB (crcM (List.take (List.length l - (4 : Nat)) l))))) [],
      List.map bR (fourB (crcM (List.take (List.length l - (4 : Nat)) l))) = strRows (ofB (fourB (crcM (List.take (List.length l - (4 : Nat)) l)))),
      (0 : Int) ≤ Int.ofNat (List.length l - (4 : Nat)),
      Int.ofNat (List.length l - (4 : Nat)) ≤ Int.ofNat (List.length (List.map bR l)),
      Int.ofNat (List.length (List.map bR l)) ≤ Int.ofNat (List.length (List.map bR l)),
      List.drop (List.length l - (4 : Nat)) (List.take (List.length (List.map bR l)) (List.map bR l)) = List.map bR (List.drop (List.length l - (4 : Nat)) l),
      List.map bR (List.drop (List.length l - (4 : Nat)) l) = strRows (ofB (List.drop (List.length l - (4 : Nat)) l)),
      (!ByteArray.toList (ofB (fourB (crcM (List.take (List.length l - (4 : Nat)) l)))) == ByteArray.toList (ofB (List.drop (List.length l - (4 : Nat)) l))) = false,
      (0 : Int) ≤ (0 : Int),
      (0 : Int) ≤ Int.ofNat (List.length l - (4 : Nat)),
      Int.ofNat (List.length l - (4 : Nat)) ≤ Int.ofNat (List.length (List.map bR l)),
      List.take (List.length l - (4 : Nat)) (List.map bR l) = List.map bR (List.take (List.length l - (4 : Nat)) l)] (by kernel_rfl)
    (by
      have d0 := tq0
      try simp only [Int.ofNat_eq_natCast, List.length_map, Bool.not_eq_true', Bool.not_eq_false', decide_eq_true_eq, decide_eq_false_iff_not] at d0
      simp only [allP]
      and_intros <;> first
        | omega
        | exact rSum _ (by simp; omega)
        | exact cFour _ (crcM_lt _)
        | exact ofB_rows _
        | (rw [i64_small (by simp; omega)]; simp; omega)
        | (simp [List.map_take]; done)
        | (rw [List.take_length, List.map_drop]; done))

theorem openRL (l : List UInt8) (hs : 4 ≤ l.length) (hm : l.length ≤ 70000000) : Contract Try.prog 38 [.sl 1 (l.map bR)] [] (.tup [.sl 1 ((bif ByteArray.toList (ofB (fourB (crcM (l.take (l.length - 4))))) == ByteArray.toList (ofB (l.drop (l.length - 4))) then l.take (l.length - 4) else []).map bR), Bo (ByteArray.toList (ofB (fourB (crcM (l.take (l.length - 4))))) == ByteArray.toList (ofB (l.drop (l.length - 4))))]) [] := by
  rcases tf (!ByteArray.toList (ofB (fourB (crcM (List.take (List.length l - (4 : Nat)) l)))) == ByteArray.toList (ofB (List.drop (List.length l - (4 : Nat)) l))) with tq0 | tq0
  · exact Contract.cast (by (try simp only [Int.ofNat_eq_natCast, List.length_map, Bool.not_eq_true', Bool.not_eq_false', decide_eq_true_eq, decide_eq_false_iff_not] at tq0); simp [tq0]) rfl (openRL_0 l hs hm tq0)
  · exact Contract.cast (by (try simp only [Int.ofNat_eq_natCast, List.length_map, Bool.not_eq_true', Bool.not_eq_false', decide_eq_true_eq, decide_eq_false_iff_not] at tq0); simp [tq0]) rfl (openRL_1 l hs hm tq0)

theorem tl_beq (a b : ByteArray) : (a.toList == b.toList) = (a == b) := by
  rw [Bool.eq_iff_iff, beq_iff_eq, beq_iff_eq]
  exact ⟨toList_inj, fun h => by rw [h]⟩
theorem ofB_inj {a b : List UInt8} (h : ofB a = ofB b) : a = b := by
  have := congrArg (fun x : ByteArray => x.data.toList) h
  simpa [ofB] using this
theorem ofB_beq (a b : List UInt8) : (ofB a == ofB b) = (a == b) := by
  rw [Bool.eq_iff_iff, beq_iff_eq, beq_iff_eq]
  exact ⟨ofB_inj, fun h => by rw [h]⟩
theorem cOpenR (l : List UInt8) (hm : l.length ≤ 70000000) : Contract Try.prog 38 [.sl 1 (l.map bR)] [] (.tup [.sl 1 ((bif openOk l then l.take (l.length - 4) else []).map bR), Bo (openOk l)]) [] := by
  by_cases h4 : 4 ≤ l.length
  · have h := openRL l h4 hm
    have e : (ByteArray.toList (ofB (fourB (crcM (l.take (l.length - 4))))) == ByteArray.toList (ofB (l.drop (l.length - 4)))) = openOk l := by
      unfold openOk
      rw [show decide (4 ≤ l.length) = true by simpa using h4, Bool.true_and, tl_beq, ofB_beq, Bool.eq_iff_iff, beq_iff_eq, beq_iff_eq]
      exact ⟨fun h => h.symm, fun h => h.symm⟩
    rw [e] at h
    exact h
  · have h := openRS l (by omega)
    have e : openOk l = false := by unfold openOk; simp; omega
    rw [e]
    exact h
end Go.Proofs.Ytdomjccibhgbjaa

/- A function that gives an owned slice on, called with nil. -/
namespace Go.Proofs.Ytdomjccibhgbjaa.E
open Go

/-- Nil is an owned slice without rows. -/
theorem Contract.nil0 {P : Program} {f : FuncId} {args : List V} {n m : Nat} {rows : List (List V)}
    (h : Contract P f (.own 0 :: args) [.arr n []] (.own 1) [none, some (.arr m rows)]) (hi : idsL args = []) : Contract P f (.nil :: args) [] (.own 0) [some (.arr m rows)] := by
  refine ⟨h.goes, fun w G X τ vals hm hX ha => ?_⟩
  have hno : ∀ b, ¬ X b := fun b hb => by obtain ⟨i, o, h, _⟩ := hX b hb; simp [objsAt] at h
  have only : ∀ i p, objsAt [E.Obj.arr n []] i = some p → i = 0 ∧ p = .arr n [] := by
    intro i p hp
    cases i with
    | zero => simp [objsAt] at hp; exact ⟨rfl, hp.symm⟩
    | succ i => simp [objsAt] at hp
  let τ1 : Nat → Gh := fun _ => ⟨none, none, 0, 0⟩
  refine Calls.mono (h.calls w G X τ1 vals ⟨hm.gold, ?_, ?_, ?_⟩ (fun b hb => absurd hb (hno b)) ?_) ?_
  · intro i p hp
    obtain ⟨rfl, rfl⟩ := only i p hp
    exact ⟨rfl, Nat.le_refl _, .inl ⟨rfl, rfl, rfl⟩⟩
  · intro i p b hp hb
    cases hb
  · intro i j p q b _ _ hb
    cases hb
  · cases hv : vals.toList with
    | nil => rw [hv] at ha; simp only [repL] at ha
    | cons x xs =>
      rw [hv] at ha
      simp only [repL] at ha ⊢
      refine ⟨?_, repL_mono (fun b hb => ⟨hb, rfl⟩) args xs (fun i hi' => by rw [hi] at hi'; cases hi') ha.2⟩
      have h1 := ha.1
      simp only [V.rep, V.repI] at h1
      simp only [V.rep, h1]
      rfl
  · rintro e w' ⟨v, G', τ', rfl, h1, h2, h3, h4⟩
    refine ⟨v, G', fun i => τ' (i + 1), rfl, h1, fun i hi => by simp at hi, ?_, h4.gold, ?_, ?_, ?_⟩
    · simpa only [V.rep] using h3
    · intro i p hp
      cases i with
      | zero =>
        simp [objsAt'] at hp
        subst hp
        have := h4.ok 1 _ rfl
        simpa only [Obj.ok] using this
      | succ i => simp [objsAt'] at hp
    · intro i p b hp hb
      cases i with
      | zero => exact h4.own 1 _ b rfl hb
      | succ i => simp [objsAt'] at hp
    · intro i j p q b hp hq _ _
      cases i with
      | zero =>
        cases j with
        | zero => rfl
        | succ j => simp [objsAt'] at hq
      | succ i => simp [objsAt'] at hp

end Go.Proofs.Ytdomjccibhgbjaa.E

/- the reference's numbers and texts, written. -/
namespace Go.Proofs.Ytdomjccibhgbjaa
open E
set_option maxRecDepth 100000
set_option linter.unusedVariables false
set_option linter.unusedSimpArgs false

def rpS (R : List UInt8) (n : Nat) : SL := ⟨[(0, .own 900), (1, U (n : Int))], [(900, .arr 1 (R.map bR))], [900, 0]⟩
def psS (R : List UInt8) (l : List Int) (i : Nat) : SL := ⟨[(0, .own 900), (1, .sl 1 (l.map iRow)), (5, I (i : Int))], [(900, .arr 1 (R.map bR))], [900, 0]⟩
noncomputable def rpB : Code := codeAt Try.prog 22 [true, false, false, false]

noncomputable def psB : Code := codeAt Try.prog 28 [true, false, true, false, false]

theorem and127 (n : Nat) : [V.val (Value.int IntKind.u8 (Int.ofNat (((n % 18446744073709551616 &&& 127) % 18446744073709551616 % 256 % 256 ||| 128) % 256)))] = bR (UInt8.ofNat (n % 128 + 128)) := by
  have h := or128a ⟨n % 128, by omega⟩
  have e : (n % 18446744073709551616 &&& 127) % 18446744073709551616 % 256 % 256 = n % 128 := by
    rw [show (127 : Nat) = 2 ^ 7 - 1 from rfl, Nat.and_two_pow_sub_one_eq_mod]
    omega
  rw [e, b8 (by omega)]
  simp only at h
  rw [h]
  simp
theorem rpGo (R : List UInt8) (n : Nat) (hR : R.length ≤ 100000000) (hn : n < 18446744073709551616) (hb : 128 ≤ n)  : CodeC Try.prog 1 21 rpB (rpS R n) .normal (rpS (R ++ [UInt8.ofNat (n % 128 + 128)]) (n / 128)) :=
 runS hmix [.reg 1 [(1, [], some true)], .reg 2 [(6, [.beO ((R ++ [UInt8.ofNat (n % 128 + 128)]).map bR)], none)], .reg 3 [(1, [.be (U ((n / 128 : Nat) : Int))], none)]] ⟨[0, 1], [(407000, 900)], []⟩ [⟨(by simp; omega : decide (Int.ofNat n > 127) = true)⟩, ⟨(by simp; omega : (List.length (List.map bR R) + 1) * 1 ≤ 140737488355328)⟩, ⟨(by rw [List.map_append]; exact congrArg _ (congrArg (fun r => [r]) (and127 n)) : List.map bR R ++ [[V.val (Value.int IntKind.u8 (Int.ofNat (((((n % 18446744073709551616) &&& 127) % 18446744073709551616 % 256 % 256) ||| 128) % 256)))]] = List.map bR (R ++ [UInt8.ofNat (n % 128 + 128)]))⟩, ⟨(by rw [Int.fdiv_eq_ediv_of_nonneg _ (by decide)]; rfl : Int.fdiv (Int.ofNat n) 128 = Int.ofNat (n / 128))⟩]

theorem rpE (R : List UInt8) (n : Nat) (hb : n < 128)  : CodeC Try.prog 1 21 rpB (rpS R n) (.exit 0) (rpS R n) :=
 runS hmix [.reg 1 [(1, [], some false)]] ⟨[0, 1], [(900, 900)], []⟩ [⟨(by simp; omega : decide (Int.ofNat n > 127) = false)⟩]

theorem rpAll : ∀ (k : Nat) (R : List UInt8) (n : Nat), n < 128 ^ (k + 1) → n < 18446744073709551616 → R.length + k ≤ 100000000 → ∃ n', n' < 128 ∧ R ++ vintF k n = (R ++ (vintF k n).dropLast) ++ [UInt8.ofNat n'] ∧ LoopC Try.prog 1 21 rpB (rpS R n) (.exit 0) (rpS (R ++ (vintF k n).dropLast) n')
  | 0, R, n, h, _, _ => ⟨n, by simpa using h, by simp [vintF], by
    have : (vintF 0 n).dropLast = [] := rfl
    rw [this, List.append_nil]
    exact LoopC.last (rpE R n (by simpa using h)) (by simp)⟩
  | k + 1, R, n, h, hn, hR => by
    by_cases hb : n < 128
    · have e : vintF (k + 1) n = [UInt8.ofNat n] := by unfold vintF; simp [hb]
      rw [e]
      refine ⟨n, hb, by simp, ?_⟩
      have : ([UInt8.ofNat n] : List UInt8).dropLast = [] := rfl
      rw [this, List.append_nil]
      exact LoopC.last (rpE R n hb) (by simp)
    · have e : vintF (k + 1) n = UInt8.ofNat (n % 128 + 128) :: vintF k (n / 128) := by rw [vintF]; simp [hb]
      have hlt : n / 128 < 128 ^ (k + 1) := by
        rw [Nat.div_lt_iff_lt_mul (by decide)]
        rw [Nat.pow_succ] at h
        exact h
      obtain ⟨n', h1, h2, h3⟩ := rpAll k (R ++ [UInt8.ofNat (n % 128 + 128)]) (n / 128) hlt (by omega) (by simp; omega)
      have hne : vintF k (n / 128) ≠ [] := by
        cases k with
        | zero => simp [vintF]
        | succ k => unfold vintF; cases decide (n / 128 < 128) <;> simp
      refine ⟨n', h1, ?_, ?_⟩
      · rw [e, List.dropLast_cons_of_ne_nil hne]
        simpa using h2
      · rw [e, List.dropLast_cons_of_ne_nil hne]
        have := LoopC.next (rpGo R n (by omega) hn (by omega)) h3
        simpa using this
theorem rput0 (R Q : List UInt8) (n m : Nat) (hm : m < 128) (hQ : Q.length ≤ 100000000) (hl : LoopC Try.prog 1 21 rpB (rpS R n) (.exit 0) (rpS Q m)) : Contract Try.prog 22 [.own 0, U (n : Int)] [.arr 1 (R.map bR)] (.own 1) [none, some (.arr 1 ((Q ++ [UInt8.ofNat m]).map bR))] :=
 vcS hmix [.cut ⟨[0, 1], [(0, 900)], []⟩ (.exit 0) (rpS Q m), .reg 4 [(4, [.beO ((Q ++ [UInt8.ofNat m]).map bR)], none)]] [805000] [⟨hl⟩, ⟨(by simp; omega : (List.length (List.map bR Q) + 1) * 1 ≤ 140737488355328)⟩, ⟨(by rw [List.map_append]; exact congrArg _ (congrArg (fun r => [r]) (bmod m hm)) : List.map bR Q ++ [[V.val (Value.int IntKind.u8 (Int.ofNat (m % 256)))]] = List.map bR (Q ++ [UInt8.ofNat m]))⟩]

theorem cPutR (R : List UInt8) (n : Int) (hn : isU n) (hR : R.length ≤ 99000000) : Contract Try.prog 22 [.own 0, U n] [.arr 1 (R.map bR)] (.own 1) [none, some (.arr 1 ((R ++ vintI n).map bR))] := by
  obtain ⟨h1, h2⟩ := hn
  obtain ⟨m, rfl⟩ : ∃ m : Nat, n = (m : Int) := ⟨n.toNat, by omega⟩
  have hm : m < 18446744073709551616 := by omega
  obtain ⟨n', k1, k2, k3⟩ := rpAll 9 R m (Nat.lt_of_lt_of_le hm (by decide)) hm (by omega)
  have hlen := vintI_len (m : Int)
  have e : R ++ vintI (m : Int) = (R ++ (vintF 9 m).dropLast) ++ [UInt8.ofNat n'] := k2
  rw [e]
  exact rput0 R _ m n' k1 (by have := congrArg List.length e; simp at this ⊢; omega) k3
theorem cPutN (n : Int) (hn : isU n) : Contract Try.prog 22 [.nil, U n] [] (.own 0) [some (.arr 1 ((vintI n).map bR))] :=
  Contract.nil0 (cPutR [] n hn (by simp)) rfl
theorem cTextW (R : List UInt8) (s : ByteArray) (hu : s.size ≤ 1000000) (hR : R.length ≤ 90000000) : Contract Try.prog 83 [.own 0, Sg s] [.arr 1 (R.map bR)] (.own 1) [none, some (.arr 1 ((R ++ textB s).map bR))] :=
 vcS hmix [.reg 1 [(3, [.be (U (s.size : Int))], none), (4, [.call [0] [] (.own 1) [none, some (.arr 1 ((R ++ vintI (s.size : Int)).map bR))]], none), (6, [.beO ((R ++ textB s).map bR)], none)]] [207000] [⟨(by have q := vintI_len (s.size : Int); simp [strRows]; have w : s.data.size = s.size := rfl; omega : Int.ofNat (ByteArray.size s % 18446744073709551616) = Int.ofNat (ByteArray.size s))⟩, ⟨cPutR R (s.size : Int) (by unfold isU; omega) (by omega)⟩, ⟨(by have q := vintI_len (s.size : Int); simp [strRows]; have w : s.data.size = s.size := rfl; omega : (List.length (List.map bR (R ++ vintI (Int.ofNat (ByteArray.size s)))) + List.length (strRows s)) * 1 ≤ 140737488355328)⟩, ⟨(by rw [show strRows s = s.data.toList.map bR from rfl, ← List.map_append, List.append_assoc]; rfl : List.map bR (R ++ vintI (Int.ofNat (ByteArray.size s))) ++ strRows s = List.map bR (R ++ textB s))⟩]

theorem cBitW_0 (b : Bool)  (tq0 : (b) = true) : Contract Try.prog 58 [Bo b] [] (V.val (Value.int IntKind.u64 (1 : Int))) ([]) :=
 vcS hmix [.reg 1 [(0, [], some true)]] [] [⟨(by omega : b = true)⟩]

theorem cBitW_1 (b : Bool)  (tq0 : (b) = false) : Contract Try.prog 58 [Bo b] [] (V.val (Value.int IntKind.u64 (0 : Int))) ([]) :=
 vcS hmix [.reg 1 [(0, [], some false)]] [] [⟨(by omega : b = false)⟩]

theorem cBitW (b : Bool)  : Contract Try.prog 58 [Bo b] [] (U (bif b then 1 else 0)) [] := by
  rcases tf (b) with tq0 | tq0
  · exact Contract.cast (by
      first
        | (simp only [tq0, cond_true, cond_false]; rfl)) (by
      first
        | rfl) (cBitW_0 b  tq0)
  · exact Contract.cast (by
      first
        | (simp only [tq0, cond_true, cond_false]; rfl)) (by
      first
        | rfl) (cBitW_1 b  tq0)

theorem cTraceW_0 (R : List UInt8) (hi lo : Int) (h1 : isU hi) (h2 : isU lo) (hR : R.length ≤ 90000000) : Contract Try.prog 30 [.own 0, .agg [U hi, U lo]] [.arr 1 (R.map bR)] (.own 1) ([none, some (.arr 1 (List.map bR (R ++ vintI hi ++ vintI lo)))]) :=
 vcS hmix [.reg 1 [(3, [.call [0] [] (.own 1) [none, some (.arr 1 ((R ++ vintI hi).map bR))]], none), (6, [.call [204001] [] (.own 1) [none, some (.arr 1 (((R ++ vintI hi) ++ vintI lo).map bR))]], none)]] [207001] [⟨cPutR R hi h1 (by omega)⟩, ⟨(by exact cPutR _ lo h2 (by have := vintI_len hi; simp only [List.length_append]; omega) : Contract Try.prog 22 [.own 0, (U lo)] [.arr 1 (List.map bR (R ++ vintI hi))] (.own 1) [none, some (.arr 1 (List.map bR (R ++ vintI hi ++ vintI lo)))])⟩]

theorem cTraceW (R : List UInt8) (hi lo : Int) (h1 : isU hi) (h2 : isU lo) (hR : R.length ≤ 90000000) : Contract Try.prog 30 [.own 0, .agg [U hi, U lo]] [.arr 1 (R.map bR)] (.own 1) [none, some (.arr 1 ((R ++ [hi, lo].flatMap vintI).map bR))] := by
  exact Contract.cast rfl (by simp [List.flatMap_cons, List.flatMap_nil]) (cTraceW_0 R hi lo h1 h2 hR )

theorem psGo (R : List UInt8) (l : List Int) (x : Int) (i : Nat) (hx : l[i]? = some x) (hi : i < l.length) (hu : isU x) (hs : l.length ≤ 1000000) (hR : R.length ≤ 98000000)  : CodeC Try.prog 1 20 psB (psS R l i) .normal (psS (R ++ vintI x) l (i + 1)) :=
 runS hmix [.reg 2 [(3, [], some true)], .reg 4 [(4, [.row (iRow x)], none), (5, [.be (U x)], none), (6, [.call [900] [] (.own 1) [none, some (.arr 1 ((R ++ vintI x).map bR))]], none)], .reg 3 [(1, [.be (I ((i + 1 : Nat) : Int))], none)]] ⟨[0, 1, 5], [(807001, 900)], []⟩ [⟨dltm iRow hi⟩, ⟨nn i⟩, ⟨ltm iRow hi⟩, ⟨gtm iRow hx⟩, ⟨u64_mod hu⟩, ⟨cPutR R x hu (by omega)⟩, ⟨w64 (i + 1) (by omega)⟩]

theorem psE (R : List UInt8) (l : List Int) (i : Nat) (h : l.length ≤ i)  : CodeC Try.prog 1 20 psB (psS R l i) (.exit 0) (psS R l i) :=
 runS hmix [.reg 2 [(3, [], some false)]] ⟨[0, 1, 5], [(900, 900)], []⟩ [⟨dgem iRow h⟩]

theorem psAll (l : List Int) (hs : l.length ≤ 1000000) (hu : ∀ x ∈ l, isU x) : ∀ (m i : Nat) (R : List UInt8), i + m = l.length → R.length + 10 * m ≤ 98000000 → LoopC Try.prog 1 20 psB (psS R l i) (.exit 0) (psS (R ++ (l.drop i).flatMap vintI) l l.length)
  | 0, i, R, h, _ => by
    have : i = l.length := by omega
    subst this
    rw [List.drop_length]
    simp only [List.flatMap_nil, List.append_nil]
    exact LoopC.last (psE R l _ (Nat.le_refl _)) (by simp)
  | m + 1, i, R, h, hR => by
    have hi : i < l.length := by omega
    have hlen := vintI_len l[i]
    have ih := psAll l hs hu m (i + 1) (R ++ vintI l[i]) (by omega) (by simp; omega)
    rw [List.drop_eq_getElem_cons hi, List.flatMap_cons, ← List.append_assoc]
    exact LoopC.next (psGo R l l[i] i (List.getElem?_eq_getElem hi) hi (hu _ (List.getElem_mem hi)) hs (by omega)) ih
theorem puts0 (R Q : List UInt8) (l : List Int) (hl : LoopC Try.prog 1 20 psB (psS R l 0) (.exit 0) (psS Q l l.length)) : Contract Try.prog 28 [.own 0, .sl 1 (l.map iRow)] [.arr 1 (R.map bR)] (.own 1) [none, some (.arr 1 ((Q).map bR))] :=
 vcS hmix [.cut ⟨[0, 1, 5], [(0, 900)], []⟩ (.exit 0) (psS Q l l.length)] [900] [⟨hl⟩]

theorem cPutsW (R : List UInt8) (l : List Int) (hu : ∀ x ∈ l, isU x) (hs : l.length ≤ 1000000) (hR : R.length + 10 * l.length ≤ 98000000) : Contract Try.prog 28 [.own 0, .sl 1 (l.map iRow)] [.arr 1 (R.map bR)] (.own 1) [none, some (.arr 1 ((R ++ l.flatMap vintI).map bR))] :=
  puts0 R _ l (by have := psAll l hs hu l.length 0 R (by omega) hR; rw [List.drop_zero] at this; exact this)
theorem cPutsN (l : List Int) (hu : ∀ x ∈ l, isU x) (hs : l.length ≤ 1000000) : Contract Try.prog 28 [.nil, .sl 1 (l.map iRow)] [] (.own 0) [some (.arr 1 ((l.flatMap vintI).map bR))] :=
  Contract.nil0 (cPutsW [] l hu hs (by simp; omega)) rfl
end Go.Proofs.Ytdomjccibhgbjaa

/- the reference's spans, episodes and blocks, written. -/
namespace Go.Proofs.Ytdomjccibhgbjaa
open E
set_option maxRecDepth 100000
set_option linter.unusedVariables false
set_option linter.unusedSimpArgs false

def asS (R : List UInt8) (s : Sp) (i : Nat) : SL := ⟨[(0, .own 900), (3, .ptr 1000 0 0 0), (5, I (i : Int))], [(900, .arr 1 (R.map bR)), (1000, .box s.row)], [900, 1000, 0]⟩
def bdS (R : List UInt8) (e : Ep) (i : Nat) : SL := ⟨[(0, .own 900), (3, .ptr 1000 0 0 0), (5, I (i : Int))], [(900, .arr 1 (R.map bR)), (1000, .box e.row)], [900, 1000, 0]⟩
def bbS (H D : List UInt8) (b : Bk) (i : Nat) : SL := ⟨[(1, .ptr 1000 0 0 0), (3, .own 900), (4, .own 901), (5, I (i : Int))], [(1000, .box b.row), (900, .arr 1 (H.map bR)), (901, .arr 1 (D.map bR))], [1000, 900, 901]⟩
noncomputable def asB : Code := codeAt Try.prog 59 [true, true, true, true, true, false, true, false, false]

noncomputable def bdB : Code := codeAt Try.prog 29 [true, true, true, false, true, false, false]

noncomputable def bbB : Code := codeAt Try.prog 9 [true, true, true, true, false, true, false, false]

theorem asGo (R : List UInt8) (s : Sp) (x : At) (i : Nat) (hx : s.attrs[i]? = some x) (hi : i < s.attrs.length) (hu : x.key.size ≤ 16 ∧ x.val.size ≤ 16) (hs : s.attrs.length ≤ 4) (hR : R.length ≤ 70000000)  : CodeC Try.prog 1 70 asB (asS R s i) .normal (asS (R ++ attB x) s (i + 1)) :=
 runS hmix [.reg 6 [(4, [], some true)], .reg 8 [(6, [.row (At.row x)], none), (7, [.call [900] [] (.own 1) [none, some (.arr 1 ((R ++ textB x.key).map bR))]], none), (13, [.row (At.row x)], none), (14, [.call [1608001] [] (.own 1) [none, some (.arr 1 ((R ++ attB x).map bR))]], none)], .reg 7 [(1, [.be (I ((i + 1 : Nat) : Int))], none)]] ⟨[0, 3, 5], [(1615001, 900), (1000, 1000)], []⟩ [⟨dltm At.row hi⟩, ⟨nn i⟩, ⟨ltm At.row hi⟩, ⟨gtm At.row hx⟩, ⟨cTextW R x.key (by omega) (by omega)⟩, ⟨nn i⟩, ⟨ltm At.row hi⟩, ⟨gtm At.row hx⟩, ⟨(by have w := cTextW (R ++ textB x.key) x.val (by omega) (by have := textB_len x.key; simp only [List.length_append]; omega); rw [List.append_assoc] at w; simp [attB] at w ⊢; exact w : Contract Try.prog 83 [.own 0, Sg (At.val x)] [.arr 1 (List.map bR (R ++ textB (At.key x)))] (.own 1) [none, some (.arr 1 (List.map bR (R ++ attB x)))])⟩, ⟨w64 (i + 1) (by omega)⟩]

theorem asE (R : List UInt8) (s : Sp) (i : Nat) (h : s.attrs.length ≤ i)  : CodeC Try.prog 1 70 asB (asS R s i) (.exit 0) (asS R s i) :=
 runS hmix [.reg 6 [(4, [], some false)]] ⟨[0, 3, 5], [(900, 900), (1000, 1000)], []⟩ [⟨dgem At.row h⟩]

theorem asAll (s : Sp) (hs : s.attrs.length ≤ 4) (hu : ∀ a ∈ s.attrs, a.key.size ≤ 16 ∧ a.val.size ≤ 16) : ∀ (m i : Nat) (R : List UInt8), i + m = s.attrs.length → R.length + 52 * m ≤ 70000000 → LoopC Try.prog 1 70 asB (asS R s i) (.exit 0) (asS (R ++ (s.attrs.drop i).flatMap attB) s s.attrs.length)
  | 0, i, R, h, _ => by
    have : i = s.attrs.length := by omega
    subst this
    rw [List.drop_length]
    simp only [List.flatMap_nil, List.append_nil]
    exact LoopC.last (asE R s _ (Nat.le_refl _)) (by simp)
  | m + 1, i, R, h, hR => by
    have hi : i < s.attrs.length := by omega
    have hq := hu _ (List.getElem_mem hi)
    have hlen := attB_len hq
    have ih := asAll s hs hu m (i + 1) (R ++ attB s.attrs[i]) (by omega) (by simp; omega)
    rw [List.drop_eq_getElem_cons hi, List.flatMap_cons, ← List.append_assoc]
    exact LoopC.next (asGo R s s.attrs[i] i (List.getElem?_eq_getElem hi) hi hq hs (by omega)) ih
theorem add0 (R Q : List UInt8) (s : Sp) (h : wfS s) (h1 : s.svc.size ≤ 16) (h2 : s.op.size ≤ 16) (h3 : 0 ≤ s.start ∧ s.start ≤ 1099511627776) (h4 : 0 ≤ s.dur ∧ s.dur ≤ 1073741824) (h5 : s.attrs.length ≤ 4) (hR : R.length ≤ 60000000) (hl : LoopC Try.prog 1 70 asB (asS ((((((((((R ++ vintI s.hi) ++ vintI s.lo) ++ vintI s.id) ++ vintI s.par) ++ textB s.svc) ++ textB s.op) ++ vintI s.start) ++ vintI s.dur) ++ flagB s.err) ++ vintI (s.attrs.length : Int)) s 0) (.exit 0) (asS Q s s.attrs.length)) : Contract Try.prog 59 [.own 0, s.v] [.arr 1 (R.map bR)] (.own 1) [none, some (.arr 1 ((Q).map bR))] :=
 vcS hmix [.reg 1 [(4, [.call [0] [] (.own 1) [none, some (.arr 1 (((R ++ vintI s.hi)).map bR))]], none), (8, [.call [205001] [] (.own 1) [none, some (.arr 1 ((((R ++ vintI s.hi) ++ vintI s.lo)).map bR))]], none), (11, [.call [209001] [] (.own 1) [none, some (.arr 1 (((((R ++ vintI s.hi) ++ vintI s.lo) ++ vintI s.id)).map bR))]], none), (14, [.call [212001] [] (.own 1) [none, some (.arr 1 ((((((R ++ vintI s.hi) ++ vintI s.lo) ++ vintI s.id) ++ vintI s.par)).map bR))]], none)], .reg 2 [(3, [.call [215001] [] (.own 1) [none, some (.arr 1 (((((((R ++ vintI s.hi) ++ vintI s.lo) ++ vintI s.id) ++ vintI s.par) ++ textB s.svc)).map bR))]], none), (6, [.call [404001] [] (.own 1) [none, some (.arr 1 ((((((((R ++ vintI s.hi) ++ vintI s.lo) ++ vintI s.id) ++ vintI s.par) ++ textB s.svc) ++ textB s.op)).map bR))]], none)], .reg 3 [(3, [.be (U s.start)], none), (4, [.call [407001] [] (.own 1) [none, some (.arr 1 (((((((((R ++ vintI s.hi) ++ vintI s.lo) ++ vintI s.id) ++ vintI s.par) ++ textB s.svc) ++ textB s.op) ++ vintI s.start)).map bR))]], none), (7, [.be (U s.dur)], none), (8, [.call [605001] [] (.own 1) [none, some (.arr 1 ((((((((((R ++ vintI s.hi) ++ vintI s.lo) ++ vintI s.id) ++ vintI s.par) ++ textB s.svc) ++ textB s.op) ++ vintI s.start) ++ vintI s.dur)).map bR))]], none), (11, [.call [] [] (U (bif s.err then 1 else 0)) []], none), (12, [.call [609001] [] (.own 1) [none, some (.arr 1 (((((((((((R ++ vintI s.hi) ++ vintI s.lo) ++ vintI s.id) ++ vintI s.par) ++ textB s.svc) ++ textB s.op) ++ vintI s.start) ++ vintI s.dur) ++ flagB s.err)).map bR))]], none)], .reg 4 [(3, [.be (I (s.attrs.length : Int))], none), (4, [.be (U (s.attrs.length : Int))], none), (5, [.call [613001] [] (.own 1) [none, some (.arr 1 ((((((((((((R ++ vintI s.hi) ++ vintI s.lo) ++ vintI s.id) ++ vintI s.par) ++ textB s.svc) ++ textB s.op) ++ vintI s.start) ++ vintI s.dur) ++ flagB s.err) ++ vintI (s.attrs.length : Int))).map bR))]], none)], .cut ⟨[0, 3, 5], [(806001, 900), (1000, 1000)], []⟩ (.exit 0) (asS Q s s.attrs.length)] [900] [⟨cPutR R s.hi h.1 (by omega)⟩, ⟨(by exact cPutR _ s.lo h.2.1 (by have q0 := vintI_len s.hi; have q1 := vintI_len s.lo; have q2 := vintI_len s.id; have q3 := vintI_len s.par; have q4 := textB_len s.svc; have q5 := textB_len s.op; have q6 := vintI_len s.start; have q7 := vintI_len s.dur; have q8 := flagB_len s.err; have q9 := vintI_len (s.attrs.length : Int); simp only [List.length_append]; omega) : Contract Try.prog 22 [.own 0, (U (Sp.lo s))] [.arr 1 (List.map bR (R ++ vintI (Sp.hi s)))] (.own 1) [none, some (.arr 1 (List.map bR (R ++ vintI (Sp.hi s) ++ vintI (Sp.lo s))))])⟩, ⟨(by exact cPutR _ s.id h.2.2.1 (by have q0 := vintI_len s.hi; have q1 := vintI_len s.lo; have q2 := vintI_len s.id; have q3 := vintI_len s.par; have q4 := textB_len s.svc; have q5 := textB_len s.op; have q6 := vintI_len s.start; have q7 := vintI_len s.dur; have q8 := flagB_len s.err; have q9 := vintI_len (s.attrs.length : Int); simp only [List.length_append]; omega) : Contract Try.prog 22 [.own 0, (U (Sp.id s))] [.arr 1 (List.map bR (R ++ vintI (Sp.hi s) ++ vintI (Sp.lo s)))] (.own 1) [none, some (.arr 1 (List.map bR (R ++ vintI (Sp.hi s) ++ vintI (Sp.lo s) ++ vintI (Sp.id s))))])⟩, ⟨(by exact cPutR _ s.par h.2.2.2 (by have q0 := vintI_len s.hi; have q1 := vintI_len s.lo; have q2 := vintI_len s.id; have q3 := vintI_len s.par; have q4 := textB_len s.svc; have q5 := textB_len s.op; have q6 := vintI_len s.start; have q7 := vintI_len s.dur; have q8 := flagB_len s.err; have q9 := vintI_len (s.attrs.length : Int); simp only [List.length_append]; omega) : Contract Try.prog 22 [.own 0, (U (Sp.par s))] [.arr 1 (List.map bR (R ++ vintI (Sp.hi s) ++ vintI (Sp.lo s) ++ vintI (Sp.id s)))] (.own 1) [none, some (.arr 1 (List.map bR (R ++ vintI (Sp.hi s) ++ vintI (Sp.lo s) ++ vintI (Sp.id s) ++ vintI (Sp.par s))))])⟩, ⟨(by exact cTextW _ s.svc (by omega) (by have q0 := vintI_len s.hi; have q1 := vintI_len s.lo; have q2 := vintI_len s.id; have q3 := vintI_len s.par; have q4 := textB_len s.svc; have q5 := textB_len s.op; have q6 := vintI_len s.start; have q7 := vintI_len s.dur; have q8 := flagB_len s.err; have q9 := vintI_len (s.attrs.length : Int); simp only [List.length_append]; omega) : Contract Try.prog 83 [.own 0, Sg (Sp.svc s)] [.arr 1 (List.map bR (R ++ vintI (Sp.hi s) ++ vintI (Sp.lo s) ++ vintI (Sp.id s) ++ vintI (Sp.par s)))] (.own 1) [none, some (.arr 1 (List.map bR (R ++ vintI (Sp.hi s) ++ vintI (Sp.lo s) ++ vintI (Sp.id s) ++ vintI (Sp.par s) ++ textB (Sp.svc s))))])⟩, ⟨(by exact cTextW _ s.op (by omega) (by have q0 := vintI_len s.hi; have q1 := vintI_len s.lo; have q2 := vintI_len s.id; have q3 := vintI_len s.par; have q4 := textB_len s.svc; have q5 := textB_len s.op; have q6 := vintI_len s.start; have q7 := vintI_len s.dur; have q8 := flagB_len s.err; have q9 := vintI_len (s.attrs.length : Int); simp only [List.length_append]; omega) : Contract Try.prog 83 [.own 0, Sg (Sp.op s)] [.arr 1 (List.map bR (R ++ vintI (Sp.hi s) ++ vintI (Sp.lo s) ++ vintI (Sp.id s) ++ vintI (Sp.par s) ++ textB (Sp.svc s)))] (.own 1) [none, some (.arr 1 (List.map bR (R ++ vintI (Sp.hi s) ++ vintI (Sp.lo s) ++ vintI (Sp.id s) ++ vintI (Sp.par s) ++ textB (Sp.svc s) ++ textB (Sp.op s))))])⟩, ⟨u64_mod ⟨h3.1, by omega⟩⟩, ⟨(by exact cPutR _ s.start (by unfold isU; omega) (by have q0 := vintI_len s.hi; have q1 := vintI_len s.lo; have q2 := vintI_len s.id; have q3 := vintI_len s.par; have q4 := textB_len s.svc; have q5 := textB_len s.op; have q6 := vintI_len s.start; have q7 := vintI_len s.dur; have q8 := flagB_len s.err; have q9 := vintI_len (s.attrs.length : Int); simp only [List.length_append]; omega) : Contract Try.prog 22 [.own 0, (U (Sp.start s))] [.arr 1 (List.map bR (R ++ vintI (Sp.hi s) ++ vintI (Sp.lo s) ++ vintI (Sp.id s) ++ vintI (Sp.par s) ++ textB (Sp.svc s) ++ textB (Sp.op s)))] (.own 1) [none, some (.arr 1 (List.map bR (R ++ vintI (Sp.hi s) ++ vintI (Sp.lo s) ++ vintI (Sp.id s) ++ vintI (Sp.par s) ++ textB (Sp.svc s) ++ textB (Sp.op s) ++ vintI (Sp.start s))))])⟩, ⟨u64_mod ⟨h4.1, by omega⟩⟩, ⟨(by exact cPutR _ s.dur (by unfold isU; omega) (by have q0 := vintI_len s.hi; have q1 := vintI_len s.lo; have q2 := vintI_len s.id; have q3 := vintI_len s.par; have q4 := textB_len s.svc; have q5 := textB_len s.op; have q6 := vintI_len s.start; have q7 := vintI_len s.dur; have q8 := flagB_len s.err; have q9 := vintI_len (s.attrs.length : Int); simp only [List.length_append]; omega) : Contract Try.prog 22 [.own 0, (U (Sp.dur s))] [.arr 1 (List.map bR (R ++ vintI (Sp.hi s) ++ vintI (Sp.lo s) ++ vintI (Sp.id s) ++ vintI (Sp.par s) ++ textB (Sp.svc s) ++ textB (Sp.op s) ++ vintI (Sp.start s)))] (.own 1) [none, some (.arr 1 (List.map bR (R ++ vintI (Sp.hi s) ++ vintI (Sp.lo s) ++ vintI (Sp.id s) ++ vintI (Sp.par s) ++ textB (Sp.svc s) ++ textB (Sp.op s) ++ vintI (Sp.start s) ++ vintI (Sp.dur s))))])⟩, ⟨cBitW s.err⟩, ⟨(by exact cPutR _ (bif s.err then 1 else 0) (by unfold isU; cases s.err <;> simp) (by have q0 := vintI_len s.hi; have q1 := vintI_len s.lo; have q2 := vintI_len s.id; have q3 := vintI_len s.par; have q4 := textB_len s.svc; have q5 := textB_len s.op; have q6 := vintI_len s.start; have q7 := vintI_len s.dur; have q8 := flagB_len s.err; have q9 := vintI_len (s.attrs.length : Int); simp only [List.length_append]; omega) : Contract Try.prog 22 [.own 0, (U (bif Sp.err s then 1 else 0))] [.arr 1 (List.map bR (R ++ vintI (Sp.hi s) ++ vintI (Sp.lo s) ++ vintI (Sp.id s) ++ vintI (Sp.par s) ++ textB (Sp.svc s) ++ textB (Sp.op s) ++ vintI (Sp.start s) ++ vintI (Sp.dur s)))] (.own 1) [none, some (.arr 1 (List.map bR (R ++ vintI (Sp.hi s) ++ vintI (Sp.lo s) ++ vintI (Sp.id s) ++ vintI (Sp.par s) ++ textB (Sp.svc s) ++ textB (Sp.op s) ++ vintI (Sp.start s) ++ vintI (Sp.dur s) ++ flagB (Sp.err s))))])⟩, ⟨lenm At.row (Sp.attrs s)⟩, ⟨(by rw [Nat.mod_eq_of_lt (by omega)] : Int.ofNat (List.length (Sp.attrs s) % 18446744073709551616) = Int.ofNat (List.length (Sp.attrs s)))⟩, ⟨(by exact cPutR _ (s.attrs.length : Int) (isU_nat (by omega)) (by have q0 := vintI_len s.hi; have q1 := vintI_len s.lo; have q2 := vintI_len s.id; have q3 := vintI_len s.par; have q4 := textB_len s.svc; have q5 := textB_len s.op; have q6 := vintI_len s.start; have q7 := vintI_len s.dur; have q8 := flagB_len s.err; have q9 := vintI_len (s.attrs.length : Int); simp only [List.length_append]; omega) : Contract Try.prog 22 [.own 0, (U (Int.ofNat (List.length (Sp.attrs s))))] [.arr 1 (List.map bR (R ++ vintI (Sp.hi s) ++ vintI (Sp.lo s) ++ vintI (Sp.id s) ++ vintI (Sp.par s) ++ textB (Sp.svc s) ++ textB (Sp.op s) ++ vintI (Sp.start s) ++ vintI (Sp.dur s) ++ flagB (Sp.err s)))] (.own 1) [none, some (.arr 1 (List.map bR (R ++ vintI (Sp.hi s) ++ vintI (Sp.lo s) ++ vintI (Sp.id s) ++ vintI (Sp.par s) ++ textB (Sp.svc s) ++ textB (Sp.op s) ++ vintI (Sp.start s) ++ vintI (Sp.dur s) ++ flagB (Sp.err s) ++ vintI (Int.ofNat (List.length (Sp.attrs s))))))])⟩, ⟨hl⟩]

theorem cAddW (R : List UInt8) (s : Sp) (h : okS s) (hR : R.length ≤ 60000000) : Contract Try.prog 59 [.own 0, s.v] [.arr 1 (R.map bR)] (.own 1) [none, some (.arr 1 ((R ++ spanB s).map bR))] := by
  obtain ⟨h1, h2, h3, h4, h5, h6⟩ := right_of h.2
  have hh := spanH_len h.2
  have e : ((((((((((R ++ vintI s.hi) ++ vintI s.lo) ++ vintI s.id) ++ vintI s.par) ++ textB s.svc) ++ textB s.op) ++ vintI s.start) ++ vintI s.dur) ++ flagB s.err) ++ vintI (s.attrs.length : Int)) = R ++ spanH s := by unfold spanH; simp
  refine add0 R _ s h.1 h1 h2 h3 h4 h5 hR ?_
  rw [e]
  have := asAll s h5 h6 s.attrs.length 0 (R ++ spanH s) (by omega) (by rw [List.length_append]; omega)
  rw [List.drop_zero, List.append_assoc] at this
  exact this

theorem bdGo (R : List UInt8) (e : Ep) (x : Sp) (i : Nat) (hx : e.spans[i]? = some x) (hi : i < e.spans.length) (hu : okS x) (hs : e.spans.length ≤ 100000000) (hR : R.length ≤ 60000000)  : CodeC Try.prog 1 40 bdB (bdS R e i) .normal (bdS (R ++ spanB x) e (i + 1)) :=
 runS hmix [.reg 4 [(4, [], some true)], .reg 6 [(5, [.row (Sp.row x)], none), (6, [.call [900] [] (.own 1) [none, some (.arr 1 ((R ++ spanB x).map bR))]], none)], .reg 5 [(1, [.be (I ((i + 1 : Nat) : Int))], none)]] ⟨[0, 3, 5], [(1207001, 900), (1000, 1000)], []⟩ [⟨dltm Sp.row hi⟩, ⟨nn i⟩, ⟨ltm Sp.row hi⟩, ⟨gtm Sp.row hx⟩, ⟨cAddW R x hu hR⟩, ⟨w64 (i + 1) (by omega)⟩]

theorem bdE (R : List UInt8) (e : Ep) (i : Nat) (h : e.spans.length ≤ i)  : CodeC Try.prog 1 40 bdB (bdS R e i) (.exit 0) (bdS R e i) :=
 runS hmix [.reg 4 [(4, [], some false)]] ⟨[0, 3, 5], [(900, 900), (1000, 1000)], []⟩ [⟨dgem Sp.row h⟩]

theorem bdAll (e : Ep) (hs : e.spans.length ≤ 100000000) (hu : ∀ s ∈ e.spans, okS s) : ∀ (m i : Nat) (R : List UInt8), i + m = e.spans.length → R.length + ((e.spans.drop i).flatMap spanB).length ≤ 60000000 → LoopC Try.prog 1 40 bdB (bdS R e i) (.exit 0) (bdS (R ++ (e.spans.drop i).flatMap spanB) e e.spans.length)
  | 0, i, R, h, _ => by
    have : i = e.spans.length := by omega
    subst this
    rw [List.drop_length]
    simp only [List.flatMap_nil, List.append_nil]
    exact LoopC.last (bdE R e _ (Nat.le_refl _)) (by simp)
  | m + 1, i, R, h, hR => by
    have hi : i < e.spans.length := by omega
    have hq := hu _ (List.getElem_mem hi)
    rw [List.drop_eq_getElem_cons hi, List.flatMap_cons] at hR ⊢
    rw [List.length_append] at hR
    have ih := bdAll e hs hu m (i + 1) (R ++ spanB e.spans[i]) (by omega) (by rw [List.length_append]; omega)
    rw [← List.append_assoc]
    exact LoopC.next (bdGo R e e.spans[i] i (List.getElem?_eq_getElem hi) hi hq hs (by omega)) ih
theorem body0 (R Q : List UInt8) (e : Ep) (h3 : isU e.first) (h4 : isU e.last) (h5 : e.spans.length ≤ 100000000) (hR : R.length ≤ 60000000) (hl : LoopC Try.prog 1 40 bdB (bdS ((((R ++ vintI e.first) ++ vintI e.last) ++ flagB e.sure) ++ vintI (e.spans.length : Int)) e 0) (.exit 0) (bdS Q e e.spans.length)) : Contract Try.prog 29 [.own 0, e.v] [.arr 1 (R.map bR)] (.own 1) [none, some (.arr 1 ((Q).map bR))] :=
 vcS hmix [.reg 1 [(3, [.be (U e.first)], none), (4, [.call [0] [] (.own 1) [none, some (.arr 1 (((R ++ vintI e.first)).map bR))]], none), (7, [.be (U e.last)], none), (8, [.call [205001] [] (.own 1) [none, some (.arr 1 ((((R ++ vintI e.first) ++ vintI e.last)).map bR))]], none)], .reg 2 [(3, [.call [] [] (U (bif e.sure then 1 else 0)) []], none), (4, [.call [209001] [] (.own 1) [none, some (.arr 1 (((((R ++ vintI e.first) ++ vintI e.last) ++ flagB e.sure)).map bR))]], none), (7, [.be (I (e.spans.length : Int))], none), (8, [.be (U (e.spans.length : Int))], none), (9, [.call [405001] [] (.own 1) [none, some (.arr 1 ((((((R ++ vintI e.first) ++ vintI e.last) ++ flagB e.sure) ++ vintI (e.spans.length : Int))).map bR))]], none)], .cut ⟨[0, 3, 5], [(410001, 900), (1000, 1000)], []⟩ (.exit 0) (bdS Q e e.spans.length)] [900] [⟨u64_mod h3⟩, ⟨cPutR R e.first h3 (by omega)⟩, ⟨u64_mod h4⟩, ⟨(by exact cPutR _ e.last h4 (by have q0 := vintI_len e.first; have q1 := vintI_len e.last; have q2 := flagB_len e.sure; simp only [List.length_append]; omega) : Contract Try.prog 22 [.own 0, (U (Ep.last e))] [.arr 1 (List.map bR (R ++ vintI (Ep.first e)))] (.own 1) [none, some (.arr 1 (List.map bR (R ++ vintI (Ep.first e) ++ vintI (Ep.last e))))])⟩, ⟨cBitW e.sure⟩, ⟨(by exact cPutR _ (bif e.sure then 1 else 0) (by unfold isU; cases e.sure <;> simp) (by have q0 := vintI_len e.first; have q1 := vintI_len e.last; have q2 := flagB_len e.sure; simp only [List.length_append]; omega) : Contract Try.prog 22 [.own 0, (U (bif Ep.sure e then 1 else 0))] [.arr 1 (List.map bR (R ++ vintI (Ep.first e) ++ vintI (Ep.last e)))] (.own 1) [none, some (.arr 1 (List.map bR (R ++ vintI (Ep.first e) ++ vintI (Ep.last e) ++ flagB (Ep.sure e))))])⟩, ⟨lenm Sp.row (Ep.spans e)⟩, ⟨(by rw [Nat.mod_eq_of_lt (by omega)] : Int.ofNat (List.length (Ep.spans e) % 18446744073709551616) = Int.ofNat (List.length (Ep.spans e)))⟩, ⟨(by exact cPutR _ (e.spans.length : Int) (isU_nat (by omega)) (by have q0 := vintI_len e.first; have q1 := vintI_len e.last; have q2 := flagB_len e.sure; simp only [List.length_append]; omega) : Contract Try.prog 22 [.own 0, (U (Int.ofNat (List.length (Ep.spans e))))] [.arr 1 (List.map bR (R ++ vintI (Ep.first e) ++ vintI (Ep.last e) ++ flagB (Ep.sure e)))] (.own 1) [none, some (.arr 1 (List.map bR (R ++ vintI (Ep.first e) ++ vintI (Ep.last e) ++ flagB (Ep.sure e) ++ vintI (Int.ofNat (List.length (Ep.spans e))))))])⟩, ⟨hl⟩]

theorem cBodyW (R : List UInt8) (e : Ep) (h3 : isU e.first) (h4 : isU e.last) (hs : e.spans.length ≤ 100000000) (hu : ∀ s ∈ e.spans, okS s) (hR : R.length + (epB e).length ≤ 50000000) : Contract Try.prog 29 [.own 0, e.v] [.arr 1 (R.map bR)] (.own 1) [none, some (.arr 1 ((R ++ epB e).map bR))] := by
  have hh := epH_len e
  have q : ((((R ++ vintI e.first) ++ vintI e.last) ++ flagB e.sure) ++ vintI (e.spans.length : Int)) = R ++ epH e := by unfold epH; simp
  have hL : (epB e).length = (epH e).length + (e.spans.flatMap spanB).length := by unfold epB; rw [List.length_append]
  refine body0 R _ e h3 h4 hs (by omega) ?_
  rw [q]
  have := bdAll e hs hu e.spans.length 0 (R ++ epH e) (by omega) (by rw [List.drop_zero, List.length_append]; omega)
  rw [List.drop_zero, List.append_assoc] at this
  exact this
theorem cBodyN (e : Ep) (h3 : isU e.first) (h4 : isU e.last) (hs : e.spans.length ≤ 100000000) (hu : ∀ s ∈ e.spans, okS s) (hR : (epB e).length ≤ 50000000) : Contract Try.prog 29 [.nil, e.v] [] (.own 0) [some (.arr 1 ((epB e).map bR))] :=
  Contract.nil0 (cBodyW [] e h3 h4 hs hu (by simpa using hR)) rfl

theorem bb0 (H D : List UInt8) (b : Bk) (x : Ep) (i : Nat) (hx : b.eps[i]? = some x) (hi : i < b.eps.length) (hq : isU x.hi ∧ isU x.lo ∧ isU x.first ∧ isU x.last ∧ x.spans.length ≤ 100000000 ∧ ∀ s ∈ x.spans, okS s) (he : (epB x).length ≤ 50000000) (hs : b.eps.length ≤ 1000000) (hH : H.length ≤ 40000000) (hD : D.length ≤ 40000000)  : CodeC Try.prog 0 53 bbB (bbS H D b i) .normal (bbS ((H ++ [x.hi, x.lo].flatMap vintI) ++ vintI ((epB x).length : Int)) (D ++ epB x) b (i + 1)) :=
 runS hmix [.reg 6 [(4, [], some true)], .reg 8 [(4, [.row (Ep.row x)], none), (5, [.idx 0, .call [] [] (.own 0) [some (.arr 1 ((epB x).map bR))]], none)], .reg 9 [(6, [.row (Ep.row x)], none), (7, [.call [900] [] (.own 1) [none, some (.arr 1 ((H ++ [x.hi, x.lo].flatMap vintI).map bR))]], none), (9, [.be (I ((epB x).length : Int))], none), (10, [.be (U ((epB x).length : Int))], none), (11, [.call [1808001] [] (.own 1) [none, some (.arr 1 (((H ++ [x.hi, x.lo].flatMap vintI) ++ vintI ((epB x).length : Int)).map bR))]], none)], .reg 10 [(2, [.beO ((D ++ epB x).map bR)], none)], .reg 7 [(1, [.be (I ((i + 1 : Nat) : Int))], none)]] ⟨[1, 3, 4, 5], [(1000, 1000), (1812001, 900), (2003000, 901)], []⟩ [⟨dltm Ep.row hi⟩, ⟨nn i⟩, ⟨ltm Ep.row hi⟩, ⟨gtm Ep.row hx⟩, ⟨cBodyN x hq.2.2.1 hq.2.2.2.1 hq.2.2.2.2.1 hq.2.2.2.2.2 he⟩, ⟨nn i⟩, ⟨ltm Ep.row hi⟩, ⟨gtm Ep.row hx⟩, ⟨cTraceW H x.hi x.lo hq.1 hq.2.1 (by omega)⟩, ⟨lenm bR (epB x)⟩, ⟨(by rw [Nat.mod_eq_of_lt (by omega)] : Int.ofNat (List.length (epB x) % 18446744073709551616) = Int.ofNat (List.length (epB x)))⟩, ⟨(by exact cPutR _ _ (isU_nat (by omega)) (by have := vintI_len x.hi; have := vintI_len x.lo; simp only [List.flatMap_cons, List.flatMap_nil, List.append_nil, List.length_append]; omega) : Contract Try.prog 22 [.own 0, (U (Int.ofNat (List.length (epB x))))] [.arr 1 (List.map bR (H ++ List.flatMap vintI [Ep.hi x, Ep.lo x]))] (.own 1) [none, some (.arr 1 (List.map bR (H ++ List.flatMap vintI [Ep.hi x, Ep.lo x] ++ vintI (Int.ofNat (List.length (epB x))))))])⟩, ⟨(by simp; omega : (List.length (List.map bR D) + List.length (List.map bR (epB x))) * 1 ≤ 140737488355328)⟩, ⟨(by rw [List.map_append] : List.map bR D ++ List.map bR (epB x) = List.map bR (D ++ epB x))⟩, ⟨w64 (i + 1) (by omega)⟩]

theorem bbGo (H D : List UInt8) (b : Bk) (x : Ep) (i : Nat) (hx : b.eps[i]? = some x) (hi : i < b.eps.length) (hq : isU x.hi ∧ isU x.lo ∧ isU x.first ∧ isU x.last ∧ x.spans.length ≤ 100000000 ∧ ∀ s ∈ x.spans, okS s) (he : (epB x).length ≤ 50000000) (hs : b.eps.length ≤ 1000000) (hH : H.length ≤ 40000000) (hD : D.length ≤ 40000000) : CodeC Try.prog 0 53 bbB (bbS H D b i) .normal (bbS (H ++ entB x) (D ++ epB x) b (i + 1)) := by
  have := bb0 H D b x i hx hi hq he hs hH hD
  have e : (H ++ [x.hi, x.lo].flatMap vintI) ++ vintI ((epB x).length : Int) = H ++ entB x := by unfold entB; rw [List.append_assoc]
  rw [e] at this
  exact this
theorem bbE (H D : List UInt8) (b : Bk) (i : Nat) (h : b.eps.length ≤ i)  : CodeC Try.prog 0 53 bbB (bbS H D b i) (.exit 0) (bbS H D b i) :=
 runS hmix [.reg 6 [(4, [], some false)]] ⟨[1, 3, 4, 5], [(1000, 1000), (900, 900), (901, 901)], []⟩ [⟨dgem Ep.row h⟩]

theorem bbAll (b : Bk) (hs : b.eps.length ≤ 1000000) (hq : ∀ x ∈ b.eps, isU x.hi ∧ isU x.lo ∧ isU x.first ∧ isU x.last ∧ x.spans.length ≤ 100000000 ∧ ∀ s ∈ x.spans, okS s) : ∀ (m i : Nat) (H D : List UInt8), i + m = b.eps.length → H.length + 30 * m ≤ 40000000 → D.length + ((b.eps.drop i).flatMap epB).length ≤ 40000000 → LoopC Try.prog 0 53 bbB (bbS H D b i) (.exit 0) (bbS (H ++ (b.eps.drop i).flatMap entB) (D ++ (b.eps.drop i).flatMap epB) b b.eps.length)
  | 0, i, H, D, h, _, _ => by
    have : i = b.eps.length := by omega
    subst this
    rw [List.drop_length]
    simp only [List.flatMap_nil, List.append_nil]
    exact LoopC.last (bbE H D b _ (Nat.le_refl _)) (by simp)
  | m + 1, i, H, D, h, hH, hD => by
    have hi : i < b.eps.length := by omega
    have hx := hq _ (List.getElem_mem hi)
    have h1 := entB_len b.eps[i]
    rw [List.drop_eq_getElem_cons hi, List.flatMap_cons] at hD
    rw [List.length_append] at hD
    have ih := bbAll b hs hq m (i + 1) (H ++ entB b.eps[i]) (D ++ epB b.eps[i]) (by omega) (by rw [List.length_append]; omega) (by rw [List.length_append]; omega)
    rw [List.drop_eq_getElem_cons hi, List.flatMap_cons, List.flatMap_cons, ← List.append_assoc, ← List.append_assoc]
    exact LoopC.next (bbGo H D b b.eps[i] i (List.getElem?_eq_getElem hi) hi hx (by omega) hs (by omega) (by omega)) ih
theorem bbN (b : Bk) (hs : b.eps.length ≤ 1000000) (hm : ∀ e ∈ b.eps, e.spans.length ≤ 1048576) (hr : rightB b = false) : Contract Try.prog 9 [b.v] [] (.own 0) [some (.arr 1 [])] :=
 vcS hmix [.reg 1 [(1, [.call [] [] (Bo (rightB b)) []], none), (2, [], some true)], .reg 2 [(0, [.idx 1], none)]] [401000] [⟨cRightB b (by omega) hm⟩, ⟨(by simp [hr] : (!rightB b) = true)⟩]

theorem bbY (b : Bk) (H D : List UInt8) (hs : b.eps.length ≤ 1000000) (hm : ∀ e ∈ b.eps, e.spans.length ≤ 1048576) (hr : rightB b = true) (h1 : isU b.num) (h2 : isU b.born) (h3 : isU b.tier) (hH : H.length ≤ 30000000) (hD : D.length ≤ 30000000) (hl : LoopC Try.prog 0 53 bbB (bbS (headB b) [] b 0) (.exit 0) (bbS H D b b.eps.length)) : Contract Try.prog 9 [b.v] [] (.own 0) [some (.arr 1 ((sealB (H ++ D)).map bR))] :=
  vcP hmix [.reg 1 [(1, [.call [] [] (Bo (rightB b)) []], none), (2, [], some false)], .reg 3 [(8, [.be (I (b.eps.length : Int))], none), (9, [.beO ([b.num, b.born, b.tier, (b.eps.length : Int)].map iRow)], none), (10, [.idx 0, .call [] [610000] (.own 0) [some (.arr 1 ((headB b).map bR))]], none)], .cut ⟨[1, 3, 4, 5], [(1000, 1000), (611001, 900)], [.slot 4 901 1]⟩ (.exit 0) (bbS H D b b.eps.length), .reg 11 [(2, [.beO ((H ++ D).map bR)], none), (3, [.call [] [2203000] (.own 0) [some (.arr 1 ((sealB (H ++ D)).map bR))]], none)]] [2204001] [
      Contract Try.prog (19 : Nat) [V.agg [I (Bk.num b), I (Bk.born b), I (Bk.tier b), V.sl (6 : Nat) (List.map Ep.row (Bk.eps b))]] [] (Bo (rightB b)) [],
      (!rightB b) = false,
      Int.ofNat (List.length (List.map Ep.row (Bk.eps b))) = Int.ofNat (List.length (Bk.eps b)),
      [[I (Bk.num b)], [I (Bk.born b)], [I (Bk.tier b)], [I (Int.ofNat (List.length (Bk.eps b)))]] = [iRow (Bk.num b), iRow (Bk.born b), iRow (Bk.tier b), iRow (Int.ofNat (List.length (Bk.eps b)))],
      Contract Try.prog (28 : Nat) [V.nil, V.sl (1 : Nat) [iRow (Bk.num b), iRow (Bk.born b), iRow (Bk.tier b), iRow (Int.ofNat (List.length (Bk.eps b)))]] [] (V.own (0 : Nat)) [some (Obj.arr (1 : Nat) (List.map bR (headB b)))],
      LoopC Try.prog (0 : Nat) (53 : Nat) bbB { env := [((1 : Nat), V.ptr (1000 : Nat) (0 : Nat) (0 : Nat) (0 : Nat)), ((3 : Nat), V.own (900 : Nat)), ((4 : Nat), V.own (901 : Nat)), ((5 : Nat), I (0 : Int))], st := [((1000 : Nat), Obj.box [I (Bk.num b), I (Bk.born b), I (Bk.tier b), V.sl (6 : Nat) (List.map Ep.row (Bk.eps b))]), ((900 : Nat), Obj.arr (1 : Nat) (List.map bR (headB b))), ((901 : Nat), Obj.arr (1 : Nat) [])], ids := [(1000 : Nat), (900 : Nat), (901 : Nat)] } (Ex.exit (0 : Nat)) { env := [((1 : Nat), V.ptr (1000 : Nat) (0 : Nat) (0 : Nat) (0 : Nat)), ((3 : Nat), V.own (900 : Nat)), ((4 : Nat), V.own (901 : Nat)), ((5 : Nat), I (Int.ofNat (List.length (Bk.eps b))))], st := [((1000 : Nat), Obj.box (Bk.row b)), ((900 : Nat), Obj.arr (1 : Nat) (List.map bR H)), ((901 : Nat), Obj.arr (1 : Nat) (List.map bR D))], ids := [(1000 : Nat), (900 : Nat), (901 : Nat)] },
      (List.length (List.map bR H) + List.length (List.map bR D)) * (1 : Nat) ≤ (140737488355328 : Nat),
      List.map bR H ++ List.map bR D = List.map bR (H ++ D),
      Contract Try.prog (31 : Nat) [V.sl (1 : Nat) (List.map bR (H ++ D))] [] (V.own (0 : Nat)) [some (Obj.arr (1 : Nat) (List.map bR (sealB (H ++ D))))]] (by kernel_rfl)
    (by
      simp only [allP]
      and_intros <;> first
        | exact cRightB b (by omega) hm
        | exact hl
        | (simp [hr]; done)
        | exact cPutsN [b.num, b.born, b.tier, (b.eps.length : Int)] (by intro y hy; rcases List.mem_cons.1 hy with rfl | hy; exact h1; rcases List.mem_cons.1 hy with rfl | hy; exact h2; rcases List.mem_cons.1 hy with rfl | hy; exact h3; rcases List.mem_cons.1 hy with rfl | hy; exact isU_nat (by omega); cases hy) (by simp)
        | exact cSealed (H ++ D) (by rw [List.length_append]; omega)
        | exact rfl
        | (simp; omega))

theorem cBlockBytesO (b : Bk) (hs : b.eps.length ≤ 900000) (hm : ∀ e ∈ b.eps, e.spans.length ≤ 1048576) (hw : ∀ e ∈ b.eps, wfE e) (hD : rightM b = true → (b.eps.flatMap epB).length ≤ 20000000) : Contract Try.prog 9 [b.v] [] (.own 0) [some (.arr 1 ((bytesB b).map bR))] := by
  cases hr : rightM b with
  | false =>
    have := bbN b (by omega) hm (by rw [rightB_eq]; exact hr)
    unfold bytesB
    rw [hr]
    exact this
  | true =>
    obtain ⟨h1, h2, h3, h4⟩ := rightM_num hr
    have hq : ∀ x ∈ b.eps, isU x.hi ∧ isU x.lo ∧ isU x.first ∧ isU x.last ∧ x.spans.length ≤ 100000000 ∧ ∀ s ∈ x.spans, okS s := fun e he => by
      obtain ⟨k1, k2, k3⟩ := episode_ok (h4 e he)
      obtain ⟨w1, w2, w3⟩ := hw e he
      exact ⟨w1, w2, k1, k2, Nat.le_trans (hm e he) (by omega), fun s hs => ⟨w3 s hs, k3 s hs⟩⟩
    have l1 := headB_len b
    have l2 := flat_len3 (f := entB) (B := 30) (n := b.eps.length) (Nat.le_refl _) fun e _ => entB_len e
    have l3 := hD hr
    have hl := bbAll b (by omega) hq b.eps.length 0 (headB b) [] (by omega) (by omega) (by rw [List.drop_zero, List.length_nil]; omega)
    rw [List.drop_zero, List.nil_append] at hl
    have := bbY b _ _ (by omega) hm (by rw [rightB_eq]; exact hr) h1 h2 h3 (by rw [List.length_append]; omega) (by omega) hl
    unfold bytesB
    rw [hr]
    exact this
theorem cBlockBytes (b : Bk) (hs : b.eps.length ≤ 900000) (hm : ∀ e ∈ b.eps, e.spans.length ≤ 1048576) (hw : ∀ e ∈ b.eps, wfE e) (hD : rightM b = true → (b.eps.flatMap epB).length ≤ 20000000) : Contract Try.prog 9 [b.v] [] (.sl 1 ((bytesB b).map bR)) [] :=
  Contract.froze (cBlockBytesO b hs hm hw hD)
end Go.Proofs.Ytdomjccibhgbjaa

/- the reference's span, read. -/
namespace Go.Proofs.Ytdomjccibhgbjaa
open E
set_option maxRecDepth 100000
set_option linter.unusedVariables false
set_option linter.unusedSimpArgs false

def sb1 (s : RS) : RS := rwS s
def sb2 (s : RS) : RS := rwS (sb1 s)
def sb3 (s : RS) : RS := rwS (sb2 s)
def sb4 (s : RS) : RS := rwS (sb3 s)
def sb5 (s : RS) : RS := rtS (sb4 s)
def sb6 (s : RS) : RS := rtS (sb5 s)
def sb7 (s : RS) : RS := rnS 1099511627776 (sb6 s)
def sb8 (s : RS) : RS := rnS 1073741824 (sb7 s)
def sb9 (s : RS) : RS := rnS 1 (sb8 s)
def sb10 (s : RS) : RS := rnS 4 (sb9 s)
def rattF : Nat → RS → List At → List At × RS
  | 0, q, R => (R, q)
  | k + 1, q, R => bif q.2 then (R, q) else rattF k (rtS (rtS q)) (R ++ [⟨rtV q, rtV (rtS q)⟩])
def rsP (s : RS) : Sp := ⟨wideV s, wideV (sb1 s), wideV (sb2 s), wideV (sb3 s), rtV (sb4 s), rtV (sb5 s), numV 1099511627776 (sb6 s), numV 1073741824 (sb7 s), numV 1 (sb8 s) == 1, []⟩
def rspV (s : RS) : Sp := { rsP s with attrs := (rattF (numV 4 (sb9 s)).toNat (sb10 s) []).1 }
def rspQ (s : RS) : RS := (rattF (numV 4 (sb9 s)).toNat (sb10 s) []).2
def rspS (s : RS) : RS := ((rspQ s).1, (rspQ s).2 || !rightS (rspV s))
def gbS (p : Sp) (q : RS) (R : List At) (n : Int) (i : Nat) : SL := ⟨[(0, .ptr 0 0 0 0), (2, .ptr 1000 0 0 0), (3, .ptr 219000 0 0 0), (4, I n), (5, I i)], [(0, rdO q), (1000, .box [U 0, U 0, U 0, U 0, Sg ⟨#[]⟩, Sg ⟨#[]⟩, I 0, I 0, Bo false, .nil]), (219000, .box [U p.hi, U p.lo, U p.id, U p.par, Sg p.svc, Sg p.op, I p.start, I p.dur, Bo p.err, .own 900]), (900, .arr 2 (R.map At.row))], [0, 1000, 219000, 900, 0]⟩
noncomputable def gbB : Code := codeAt Try.prog 69 [true, true, true, true, false, true, false, false]

theorem gbGo (p : Sp) (q : RS) (R : List At) (n : Int) (i : Nat) (hi : (i : Int) < n) (hb : q.2 = false) (hn : n ≤ 1000) (hq : q.1.length ≤ 70000000) (hR : R.length ≤ 1000)  : CodeC Try.prog 1 65 gbB (gbS p q R n i) .normal (gbS p (rtS (rtS q)) (R ++ [(⟨rtV q, rtV (rtS q)⟩ : At)]) n (i + 1)) :=
 runS hmix [.reg 5 [(2, [], some true), (9, [], some true)], .reg 7 [(3, [.call [0] [] (Sg (rtV q)) [some (rdO (rtS q))]], none), (5, [.call [0] [] (Sg (rtV (rtS q))) [some (rdO (rtS (rtS q)))]], none), (8, [.beO ((R ++ [(⟨rtV q, rtV (rtS q)⟩ : At)]).map At.row)], none)], .reg 6 [(1, [.be (I ((i + 1 : Nat) : Int))], none)]] ⟨[0, 2, 3, 4, 5], [(0, 0), (1000, 1000), (219000, 219000), (1409000, 900)], []⟩ [⟨(by simp; omega : decide (Int.ofNat i < n) = true)⟩, ⟨(by simp [hb] : (!Prod.snd q) = true)⟩, ⟨cTextRf q hq⟩, ⟨cTextRf (rtS q) (Nat.le_trans (rtS_len q) hq)⟩, ⟨(by simp; omega : (List.length (List.map At.row R) + 1) * 32 ≤ 140737488355328)⟩, ⟨(by rw [List.map_append]; rfl : List.map At.row R ++ [[Sg (rtV q), Sg (rtV (rtS q))]] = List.map At.row (R ++ [{ key := rtV q, val := rtV (rtS q) }]))⟩, ⟨w64 (i + 1) (by omega)⟩]

theorem gbBa (p : Sp) (q : RS) (R : List At) (n : Int) (i : Nat) (hi : (i : Int) < n) (hb : q.2 = true)  : CodeC Try.prog 1 65 gbB (gbS p q R n i) (.exit 0) (gbS p q R n i) :=
 runS hmix [.reg 5 [(2, [], some true), (9, [], some false)]] ⟨[0, 2, 3, 4, 5], [(0, 0), (1000, 1000), (219000, 219000), (900, 900)], []⟩ [⟨(by simp; omega : decide (Int.ofNat i < n) = true)⟩, ⟨(by simp [hb] : (!Prod.snd q) = false)⟩]

theorem gbE (p : Sp) (q : RS) (R : List At) (n : Int) (i : Nat) (hi : n ≤ (i : Int))  : CodeC Try.prog 1 65 gbB (gbS p q R n i) (.exit 0) (gbS p q R n i) :=
 runS hmix [.reg 5 [(2, [], some false)]] ⟨[0, 2, 3, 4, 5], [(0, 0), (1000, 1000), (219000, 219000), (900, 900)], []⟩ [⟨(by simp; omega : decide (Int.ofNat i < n) = false)⟩]

theorem gbAll (p : Sp) (n : Int) (hn : n ≤ 1000) : ∀ (m i : Nat) (q : RS) (R : List At), (i : Int) + m = n → q.1.length ≤ 70000000 → R.length ≤ i → ∃ i', LoopC Try.prog 1 65 gbB (gbS p q R n i) (.exit 0) (gbS p (rattF m q R).2 (rattF m q R).1 n i')
  | 0, i, q, R, h, hq, hR => ⟨i, LoopC.last (gbE p q R n i (by omega)) (by simp)⟩
  | m + 1, i, q, R, h, hq, hR => by
    rw [rattF]
    cases hb : q.2 with
    | true => exact ⟨i, LoopC.last (gbBa p q R n i (by omega) hb) (by simp)⟩
    | false =>
      obtain ⟨i', ih⟩ := gbAll p n hn m (i + 1) (rtS (rtS q)) (R ++ [(⟨rtV q, rtV (rtS q)⟩ : At)]) (by omega) (Nat.le_trans (rtS_len _) (Nat.le_trans (rtS_len q) hq)) (by simp; omega)
      exact ⟨i', LoopC.next (gbGo p q R n i (by omega) hb hn hq (by omega)) ih⟩
theorem rattF_len : ∀ (m : Nat) (q : RS) (R : List At), (rattF m q R).1.length ≤ R.length + m ∧ (rattF m q R).2.1.length ≤ q.1.length
  | 0, q, R => ⟨Nat.le_refl _, Nat.le_refl _⟩
  | m + 1, q, R => by
    have := rattF_len m (rtS (rtS q)) (R ++ [(⟨rtV q, rtV (rtS q)⟩ : At)])
    have h1 := rtS_len q
    have h2 := rtS_len (rtS q)
    rw [rattF]
    cases q.2 with
    | true => simp
    | false =>
      simp only [cond_false, List.length_append, List.length_cons, List.length_nil] at this ⊢
      omega
theorem sb1_len (s : RS) : (sb1 s).1.length ≤ s.1.length := rwS_len s
theorem sb2_len (s : RS) : (sb2 s).1.length ≤ s.1.length := Nat.le_trans (rwS_len (sb1 s)) (sb1_len s)
theorem sb3_len (s : RS) : (sb3 s).1.length ≤ s.1.length := Nat.le_trans (rwS_len (sb2 s)) (sb2_len s)
theorem sb4_len (s : RS) : (sb4 s).1.length ≤ s.1.length := Nat.le_trans (rwS_len (sb3 s)) (sb3_len s)
theorem sb5_len (s : RS) : (sb5 s).1.length ≤ s.1.length := Nat.le_trans (rtS_len (sb4 s)) (sb4_len s)
theorem sb6_len (s : RS) : (sb6 s).1.length ≤ s.1.length := Nat.le_trans (rtS_len (sb5 s)) (sb5_len s)
theorem sb7_len (s : RS) : (sb7 s).1.length ≤ s.1.length := Nat.le_trans (rnS_len _ (sb6 s)) (sb6_len s)
theorem sb8_len (s : RS) : (sb8 s).1.length ≤ s.1.length := Nat.le_trans (rnS_len _ (sb7 s)) (sb7_len s)
theorem sb9_len (s : RS) : (sb9 s).1.length ≤ s.1.length := Nat.le_trans (rnS_len _ (sb8 s)) (sb8_len s)
theorem sb10_len (s : RS) : (sb10 s).1.length ≤ s.1.length := Nat.le_trans (rnS_len _ (sb9 s)) (sb9_len s)
theorem rsp0_0 (s q : RS) (R : List At) (i : Nat) (hs : s.1.length ≤ 70000000) (hl : LoopC Try.prog 1 65 gbB (gbS (rsP s) (sb10 s) [] (numV 4 (sb9 s)) 0) (.exit 0) (gbS (rsP s) q R (numV 4 (sb9 s)) i)) (tq0 : (Prod.snd q) = true) : Contract Try.prog 69 [.ptr 0 0 0 0] [rdO s] (.agg [(U (Sp.hi (rsP s))), (U (Sp.lo (rsP s))), (U (Sp.id (rsP s))), (U (Sp.par (rsP s))), Sg (Sp.svc (rsP s)), Sg (Sp.op (rsP s)), I (Sp.start (rsP s)), I (Sp.dur (rsP s)), Bo (Sp.err (rsP s)), .own 1]) ([some (.box [.sl 1 (List.map bR (Prod.fst q)), Bo true]), some (.arr 2 (List.map At.row R))]) :=
 vcS hmix [.reg 1 [(1, [.call [0] [] (U (wideV s)) [some (rdO (sb1 s))]], none), (3, [.call [0] [] (U (wideV (sb1 s))) [some (rdO (sb2 s))]], none), (6, [.call [0] [] (U (wideV (sb2 s))) [some (rdO (sb3 s))]], none), (8, [.call [0] [] (U (wideV (sb3 s))) [some (rdO (sb4 s))]], none), (10, [.call [0] [] (Sg (rtV (sb4 s))) [some (rdO (sb5 s))]], none), (12, [.call [0] [] (Sg (rtV (sb5 s))) [some (rdO (sb6 s))]], none), (14, [.call [0] [] (I (numV 1099511627776 (sb6 s))) [some (rdO (sb7 s))]], none), (16, [.call [0] [] (I (numV 1073741824 (sb7 s))) [some (rdO (sb8 s))]], none)], .reg 2 [(1, [.call [0] [] (I (numV 1 (sb8 s))) [some (rdO (sb9 s))]], none)], .reg 3 [(1, [.call [0] [] (I (numV 4 (sb9 s))) [some (rdO (sb10 s))]], none)], .cut ⟨[0, 2, 3, 4, 5], [(0, 0), (1000, 1000), (219000, 219000)], [.cell 219000 9 900 2]⟩ (.exit 0) (gbS (rsP s) q R (numV 4 (sb9 s)) i), .reg 8 [(5, [], some true), (7, [.call [] [] (Bo (rightS { rsP s with attrs := R })) []], none)]] [900] [⟨cNumRf s hs⟩, ⟨cNumRf (sb1 s) (Nat.le_trans (sb1_len s) hs)⟩, ⟨cNumRf (sb2 s) (Nat.le_trans (sb2_len s) hs)⟩, ⟨cNumRf (sb3 s) (Nat.le_trans (sb3_len s) hs)⟩, ⟨cTextRf (sb4 s) (Nat.le_trans (sb4_len s) hs)⟩, ⟨cTextRf (sb5 s) (Nat.le_trans (sb5_len s) hs)⟩, ⟨(by exact cIntRf _ (sb6 s) (Nat.le_trans (sb6_len s) hs) (by decide) (by decide) : Contract Try.prog 39 [.ptr 0 0 0 0, I 1099511627776] [.box [.sl 1 (List.map bR (Prod.fst (sb6 s))), Bo (Prod.snd (sb6 s))]] (I (numV 1099511627776 (sb6 s))) [some (.box [.sl 1 (List.map bR (Prod.fst (sb7 s))), Bo (Prod.snd (sb7 s))])])⟩, ⟨(by exact cIntRf _ (sb7 s) (Nat.le_trans (sb7_len s) hs) (by decide) (by decide) : Contract Try.prog 39 [.ptr 0 0 0 0, I 1073741824] [.box [.sl 1 (List.map bR (Prod.fst (sb7 s))), Bo (Prod.snd (sb7 s))]] (I (numV 1073741824 (sb7 s))) [some (.box [.sl 1 (List.map bR (Prod.fst (sb8 s))), Bo (Prod.snd (sb8 s))])])⟩, ⟨(by exact cIntRf _ (sb8 s) (Nat.le_trans (sb8_len s) hs) (by decide) (by decide) : Contract Try.prog 39 [.ptr 0 0 0 0, I 1] [.box [.sl 1 (List.map bR (Prod.fst (sb8 s))), Bo (Prod.snd (sb8 s))]] (I (numV 1 (sb8 s))) [some (.box [.sl 1 (List.map bR (Prod.fst (sb9 s))), Bo (Prod.snd (sb9 s))])])⟩, ⟨(by exact cIntRf _ (sb9 s) (Nat.le_trans (sb9_len s) hs) (by decide) (by decide) : Contract Try.prog 39 [.ptr 0 0 0 0, I 4] [.box [.sl 1 (List.map bR (Prod.fst (sb9 s))), Bo (Prod.snd (sb9 s))]] (I (numV 4 (sb9 s))) [some (.box [.sl 1 (List.map bR (Prod.fst (sb10 s))), Bo (Prod.snd (sb10 s))])])⟩, ⟨hl⟩, ⟨tq0⟩]

theorem rsp0_1 (s q : RS) (R : List At) (i : Nat) (hs : s.1.length ≤ 70000000) (hl : LoopC Try.prog 1 65 gbB (gbS (rsP s) (sb10 s) [] (numV 4 (sb9 s)) 0) (.exit 0) (gbS (rsP s) q R (numV 4 (sb9 s)) i)) (tq0 : (Prod.snd q) = false) : Contract Try.prog 69 [.ptr 0 0 0 0] [rdO s] (.agg [(U (Sp.hi (rsP s))), (U (Sp.lo (rsP s))), (U (Sp.id (rsP s))), (U (Sp.par (rsP s))), Sg (Sp.svc (rsP s)), Sg (Sp.op (rsP s)), I (Sp.start (rsP s)), I (Sp.dur (rsP s)), Bo (Sp.err (rsP s)), .own 1]) ([some (.box [.sl 1 (List.map bR (Prod.fst q)), Bo !rightS { hi := Sp.hi (rsP s), lo := Sp.lo (rsP s), id := Sp.id (rsP s), par := Sp.par (rsP s), svc := Sp.svc (rsP s), op := Sp.op (rsP s), start := Sp.start (rsP s), dur := Sp.dur (rsP s), err := Sp.err (rsP s), attrs := R }]), some (.arr 2 (List.map At.row R))]) :=
 vcS hmix [.reg 1 [(1, [.call [0] [] (U (wideV s)) [some (rdO (sb1 s))]], none), (3, [.call [0] [] (U (wideV (sb1 s))) [some (rdO (sb2 s))]], none), (6, [.call [0] [] (U (wideV (sb2 s))) [some (rdO (sb3 s))]], none), (8, [.call [0] [] (U (wideV (sb3 s))) [some (rdO (sb4 s))]], none), (10, [.call [0] [] (Sg (rtV (sb4 s))) [some (rdO (sb5 s))]], none), (12, [.call [0] [] (Sg (rtV (sb5 s))) [some (rdO (sb6 s))]], none), (14, [.call [0] [] (I (numV 1099511627776 (sb6 s))) [some (rdO (sb7 s))]], none), (16, [.call [0] [] (I (numV 1073741824 (sb7 s))) [some (rdO (sb8 s))]], none)], .reg 2 [(1, [.call [0] [] (I (numV 1 (sb8 s))) [some (rdO (sb9 s))]], none)], .reg 3 [(1, [.call [0] [] (I (numV 4 (sb9 s))) [some (rdO (sb10 s))]], none)], .cut ⟨[0, 2, 3, 4, 5], [(0, 0), (1000, 1000), (219000, 219000)], [.cell 219000 9 900 2]⟩ (.exit 0) (gbS (rsP s) q R (numV 4 (sb9 s)) i), .reg 8 [(5, [], some false), (7, [.call [] [] (Bo (rightS { rsP s with attrs := R })) []], none)]] [900] [⟨cNumRf s hs⟩, ⟨cNumRf (sb1 s) (Nat.le_trans (sb1_len s) hs)⟩, ⟨cNumRf (sb2 s) (Nat.le_trans (sb2_len s) hs)⟩, ⟨cNumRf (sb3 s) (Nat.le_trans (sb3_len s) hs)⟩, ⟨cTextRf (sb4 s) (Nat.le_trans (sb4_len s) hs)⟩, ⟨cTextRf (sb5 s) (Nat.le_trans (sb5_len s) hs)⟩, ⟨(by exact cIntRf _ (sb6 s) (Nat.le_trans (sb6_len s) hs) (by decide) (by decide) : Contract Try.prog 39 [.ptr 0 0 0 0, I 1099511627776] [.box [.sl 1 (List.map bR (Prod.fst (sb6 s))), Bo (Prod.snd (sb6 s))]] (I (numV 1099511627776 (sb6 s))) [some (.box [.sl 1 (List.map bR (Prod.fst (sb7 s))), Bo (Prod.snd (sb7 s))])])⟩, ⟨(by exact cIntRf _ (sb7 s) (Nat.le_trans (sb7_len s) hs) (by decide) (by decide) : Contract Try.prog 39 [.ptr 0 0 0 0, I 1073741824] [.box [.sl 1 (List.map bR (Prod.fst (sb7 s))), Bo (Prod.snd (sb7 s))]] (I (numV 1073741824 (sb7 s))) [some (.box [.sl 1 (List.map bR (Prod.fst (sb8 s))), Bo (Prod.snd (sb8 s))])])⟩, ⟨(by exact cIntRf _ (sb8 s) (Nat.le_trans (sb8_len s) hs) (by decide) (by decide) : Contract Try.prog 39 [.ptr 0 0 0 0, I 1] [.box [.sl 1 (List.map bR (Prod.fst (sb8 s))), Bo (Prod.snd (sb8 s))]] (I (numV 1 (sb8 s))) [some (.box [.sl 1 (List.map bR (Prod.fst (sb9 s))), Bo (Prod.snd (sb9 s))])])⟩, ⟨(by exact cIntRf _ (sb9 s) (Nat.le_trans (sb9_len s) hs) (by decide) (by decide) : Contract Try.prog 39 [.ptr 0 0 0 0, I 4] [.box [.sl 1 (List.map bR (Prod.fst (sb9 s))), Bo (Prod.snd (sb9 s))]] (I (numV 4 (sb9 s))) [some (.box [.sl 1 (List.map bR (Prod.fst (sb10 s))), Bo (Prod.snd (sb10 s))])])⟩, ⟨hl⟩, ⟨tq0⟩, ⟨cRightR { rsP s with attrs := R }⟩, ⟨(by simp : true = true)⟩]

theorem rsp0 (s q : RS) (R : List At) (i : Nat) (hs : s.1.length ≤ 70000000) (hl : LoopC Try.prog 1 65 gbB (gbS (rsP s) (sb10 s) [] (numV 4 (sb9 s)) 0) (.exit 0) (gbS (rsP s) q R (numV 4 (sb9 s)) i)) : Contract Try.prog 69 [.ptr 0 0 0 0] [rdO s] (.agg [U (wideV s), U (wideV (sb1 s)), U (wideV (sb2 s)), U (wideV (sb3 s)), Sg (rtV (sb4 s)), Sg (rtV (sb5 s)), I (numV 1099511627776 (sb6 s)), I (numV 1073741824 (sb7 s)), Bo (numV 1 (sb8 s) == 1), .own 1]) [some (rdO (q.1, q.2 || !rightS { rsP s with attrs := R })), some (.arr 2 (R.map At.row))] := by
  rcases tf (Prod.snd q) with tq0 | tq0
  · exact Contract.cast rfl (by simp only [rdO, tq0, cond_true, cond_false]; rfl) (rsp0_0 s q R i hs hl tq0)
  · exact Contract.cast rfl (by simp only [rdO, tq0, cond_true, cond_false]; rfl) (rsp0_1 s q R i hs hl tq0)

theorem cSpanRf (s : RS) (hs : s.1.length ≤ 70000000) : Contract Try.prog 69 [.ptr 0 0 0 0] [rdO s] (.agg [U (wideV s), U (wideV (sb1 s)), U (wideV (sb2 s)), U (wideV (sb3 s)), Sg (rtV (sb4 s)), Sg (rtV (sb5 s)), I (numV 1099511627776 (sb6 s)), I (numV 1073741824 (sb7 s)), Bo (numV 1 (sb8 s) == 1), .own 1]) [some (rdO (rspS s)), some (.arr 2 ((rspV s).attrs.map At.row))] := by
  have hb := numV_bnd (top := 4) (by decide) (sb9 s)
  have e : ∀ n : Int, 0 ≤ n → (0 : Nat) + (n.toNat : Int) = n := by intro n h; omega
  obtain ⟨i, h⟩ := gbAll (rsP s) (numV 4 (sb9 s)) (by omega) (numV 4 (sb9 s)).toNat 0 (sb10 s) [] (e _ hb.1) (Nat.le_trans (sb10_len s) hs) (by simp)
  exact rsp0 s _ _ i hs h
theorem rspS_len (q : RS) : (rspS q).1.length ≤ q.1.length := Nat.le_trans (rattF_len _ _ _).2 (sb10_len q)
end Go.Proofs.Ytdomjccibhgbjaa

/- the reference's episode, read. -/
namespace Go.Proofs.Ytdomjccibhgbjaa
open E
set_option maxRecDepth 100000
set_option linter.unusedVariables false
set_option linter.unusedSimpArgs false

def rb1 (s : RS) : RS := rnS 1099511627776 s
def rb2 (s : RS) : RS := rnS 1099511627776 (rb1 s)
def rb3 (s : RS) : RS := rnS 1 (rb2 s)
def rb4 (s : RS) : RS := rnS 1073741824 (rb3 s)
def rspF : Nat → RS → List Sp → List Sp × RS
  | 0, q, R => (R, q)
  | k + 1, q, R => bif q.2 then (R, q) else rspF k (rspS q) (R ++ [rspV q])
def rvG (hi lo : Int) (s : RS) : Ep := ⟨hi, lo, numV 1099511627776 s, numV 1099511627776 (rb1 s), numV 1 (rb2 s) == 1, []⟩
def rvV (hi lo : Int) (s : RS) : Ep := { rvG hi lo s with spans := (rspF (numV 1073741824 (rb3 s)).toNat (rb4 s) []).1 }
def rvS (s : RS) : RS := (rspF (numV 1073741824 (rb3 s)).toNat (rb4 s) []).2
def hsS (e : Ep) (q : RS) (R : List Sp) (n : Int) (i : Nat) : SL := ⟨[(0, .ptr 0 0 0 0), (4, .ptr 2000 0 0 0), (5, .ptr 207000 0 0 0), (6, I n), (7, I i)], [(0, rdO q), (2000, .box [U 0, U 0, I 0, I 0, Bo false, .nil]), (207000, .box [U e.hi, U e.lo, I e.first, I e.last, Bo e.sure, .own 900]), (900, .arr 10 (R.map Sp.row))], [0, 2000, 207000, 900, 0]⟩
noncomputable def hsB : Code := codeAt Try.prog 40 [true, true, true, true, false, true, false, false]

theorem hsGo (e : Ep) (q : RS) (R : List Sp) (n : Int) (i : Nat) (hi : (i : Int) < n) (hb : q.2 = false) (hn : n ≤ 1073741824) (hq : q.1.length ≤ 70000000) (hR : R.length ≤ 1073741824)  : CodeC Try.prog 1 40 hsB (hsS e q R n i) .normal (hsS e (rspS q) (R ++ [rspV q]) n (i + 1)) :=
 runS hmix [.reg 5 [(2, [], some true), (9, [], some true)], .reg 7 [(3, [.call [0] [] (.agg [U (wideV q), U (wideV (sb1 q)), U (wideV (sb2 q)), U (wideV (sb3 q)), Sg (rtV (sb4 q)), Sg (rtV (sb5 q)), I (numV 1099511627776 (sb6 q)), I (numV 1073741824 (sb7 q)), Bo (numV 1 (sb8 q) == 1), .own 1]) [some (rdO (rspS q)), some (.arr 2 ((rspV q).attrs.map At.row))]], none), (5, [.beO ((R ++ [rspV q]).map Sp.row)], none)], .reg 6 [(1, [.be (I ((i + 1 : Nat) : Int))], none)]] ⟨[0, 4, 5, 6, 7], [(0, 0), (2000, 2000), (207000, 207000), (1406000, 900)], []⟩ [⟨(by simp; omega : decide (Int.ofNat i < n) = true)⟩, ⟨(by simp [hb] : (!Prod.snd q) = true)⟩, ⟨cSpanRf q hq⟩, ⟨(by simp; omega : (List.length (List.map Sp.row R) + 1) * 112 ≤ 140737488355328)⟩, ⟨(by rw [List.map_append]; rfl : List.map Sp.row R ++ [[(U (wideV q)), (U (wideV (sb1 q))), (U (wideV (sb2 q))), (U (wideV (sb3 q))), Sg (rtV (sb4 q)), Sg (rtV (sb5 q)), I (numV 1099511627776 (sb6 q)), I (numV 1073741824 (sb7 q)), Bo (numV 1 (sb8 q) == 1), .sl 2 (List.map At.row (Sp.attrs (rspV q)))]] = List.map Sp.row (R ++ [rspV q]))⟩, ⟨w64 (i + 1) (by omega)⟩]

theorem hsBa (e : Ep) (q : RS) (R : List Sp) (n : Int) (i : Nat) (hi : (i : Int) < n) (hb : q.2 = true)  : CodeC Try.prog 1 40 hsB (hsS e q R n i) (.exit 0) (hsS e q R n i) :=
 runS hmix [.reg 5 [(2, [], some true), (9, [], some false)]] ⟨[0, 4, 5, 6, 7], [(0, 0), (2000, 2000), (207000, 207000), (900, 900)], []⟩ [⟨(by simp; omega : decide (Int.ofNat i < n) = true)⟩, ⟨(by simp [hb] : (!Prod.snd q) = false)⟩]

theorem hsE (e : Ep) (q : RS) (R : List Sp) (n : Int) (i : Nat) (hi : n ≤ (i : Int))  : CodeC Try.prog 1 40 hsB (hsS e q R n i) (.exit 0) (hsS e q R n i) :=
 runS hmix [.reg 5 [(2, [], some false)]] ⟨[0, 4, 5, 6, 7], [(0, 0), (2000, 2000), (207000, 207000), (900, 900)], []⟩ [⟨(by simp; omega : decide (Int.ofNat i < n) = false)⟩]

theorem hsAll (e : Ep) (n : Int) (hn : n ≤ 1073741824) : ∀ (m i : Nat) (q : RS) (R : List Sp), (i : Int) + m = n → q.1.length ≤ 70000000 → R.length ≤ i → ∃ i', LoopC Try.prog 1 40 hsB (hsS e q R n i) (.exit 0) (hsS e (rspF m q R).2 (rspF m q R).1 n i')
  | 0, i, q, R, h, hq, hR => ⟨i, LoopC.last (hsE e q R n i (by omega)) (by simp)⟩
  | m + 1, i, q, R, h, hq, hR => by
    rw [rspF]
    cases hb : q.2 with
    | true => exact ⟨i, LoopC.last (hsBa e q R n i (by omega) hb) (by simp)⟩
    | false =>
      obtain ⟨i', ih⟩ := hsAll e n hn m (i + 1) (rspS q) (R ++ [rspV q]) (by omega) (Nat.le_trans (rspS_len q) hq) (by simp; omega)
      exact ⟨i', LoopC.next (hsGo e q R n i (by omega) hb hn hq (by omega)) ih⟩
theorem rspF_len : ∀ (m : Nat) (q : RS) (R : List Sp), (rspF m q R).2.1.length ≤ q.1.length
  | 0, q, R => Nat.le_refl _
  | m + 1, q, R => by
    have := rspF_len m (rspS q) (R ++ [rspV q])
    have h1 := rspS_len q
    rw [rspF]
    cases q.2 with
    | true => simp
    | false => simp only [cond_false]; omega
theorem rbd0 (hi lo : Int) (s q : RS) (R : List Sp) (i : Nat) (hs : s.1.length ≤ 70000000) (hl : LoopC Try.prog 1 40 hsB (hsS (rvG hi lo s) (rb4 s) [] (numV 1073741824 (rb3 s)) 0) (.exit 0) (hsS (rvG hi lo s) q R (numV 1073741824 (rb3 s)) i)) : Contract Try.prog 40 [.ptr 0 0 0 0, .agg [U hi, U lo]] [rdO s] (.agg [U hi, U lo, I (numV 1099511627776 s), I (numV 1099511627776 (rb1 s)), Bo (numV 1 (rb2 s) == 1), .own 1]) [some (rdO q), some (.arr 10 (R.map Sp.row))] :=
 vcS hmix [.reg 1 [(2, [.call [0] [] (I (numV 1099511627776 s)) [some (rdO (rb1 s))]], none), (4, [.call [0] [] (I (numV 1099511627776 (rb1 s))) [some (rdO (rb2 s))]], none)], .reg 2 [(1, [.call [0] [] (I (numV 1 (rb2 s))) [some (rdO (rb3 s))]], none)], .reg 3 [(1, [.call [0] [] (I (numV 1073741824 (rb3 s))) [some (rdO (rb4 s))]], none)], .cut ⟨[0, 4, 5, 6, 7], [(0, 0), (2000, 2000), (207000, 207000)], [.cell 207000 5 900 10]⟩ (.exit 0) (hsS (rvG hi lo s) q R (numV 1073741824 (rb3 s)) i)] [900] [⟨(by exact cIntRf _ s hs (by decide) (by decide) : Contract Try.prog 39 [.ptr 0 0 0 0, I 1099511627776] [.box [.sl 1 (List.map bR (Prod.fst s)), Bo (Prod.snd s)]] (I (numV 1099511627776 s)) [some (.box [.sl 1 (List.map bR (Prod.fst (rb1 s))), Bo (Prod.snd (rb1 s))])])⟩, ⟨(by exact cIntRf _ (rb1 s) (Nat.le_trans (rnS_len _ _) hs) (by decide) (by decide) : Contract Try.prog 39 [.ptr 0 0 0 0, I 1099511627776] [.box [.sl 1 (List.map bR (Prod.fst (rb1 s))), Bo (Prod.snd (rb1 s))]] (I (numV 1099511627776 (rb1 s))) [some (.box [.sl 1 (List.map bR (Prod.fst (rb2 s))), Bo (Prod.snd (rb2 s))])])⟩, ⟨(by exact cIntRf _ (rb2 s) (Nat.le_trans (rnS_len _ _) (Nat.le_trans (rnS_len _ _) hs)) (by decide) (by decide) : Contract Try.prog 39 [.ptr 0 0 0 0, I 1] [.box [.sl 1 (List.map bR (Prod.fst (rb2 s))), Bo (Prod.snd (rb2 s))]] (I (numV 1 (rb2 s))) [some (.box [.sl 1 (List.map bR (Prod.fst (rb3 s))), Bo (Prod.snd (rb3 s))])])⟩, ⟨(by exact cIntRf _ (rb3 s) (Nat.le_trans (rnS_len _ _) (Nat.le_trans (rnS_len _ _) (Nat.le_trans (rnS_len _ _) hs))) (by decide) (by decide) : Contract Try.prog 39 [.ptr 0 0 0 0, I 1073741824] [.box [.sl 1 (List.map bR (Prod.fst (rb3 s))), Bo (Prod.snd (rb3 s))]] (I (numV 1073741824 (rb3 s))) [some (.box [.sl 1 (List.map bR (Prod.fst (rb4 s))), Bo (Prod.snd (rb4 s))])])⟩, ⟨hl⟩]

theorem cBodyRf (hi lo : Int) (s : RS) (hs : s.1.length ≤ 70000000) : Contract Try.prog 40 [.ptr 0 0 0 0, .agg [U hi, U lo]] [rdO s] (.agg [U hi, U lo, I (numV 1099511627776 s), I (numV 1099511627776 (rb1 s)), Bo (numV 1 (rb2 s) == 1), .own 1]) [some (rdO (rvS s)), some (.arr 10 ((rvV hi lo s).spans.map Sp.row))] := by
  have hb := numV_bnd (top := 1073741824) (by decide) (rb3 s)
  have h4 : (rb4 s).1.length ≤ s.1.length := Nat.le_trans (rnS_len _ _) (Nat.le_trans (rnS_len _ _) (Nat.le_trans (rnS_len _ _) (rnS_len _ _)))
  have e : ∀ n : Int, 0 ≤ n → (0 : Nat) + (n.toNat : Int) = n := by intro n h; omega
  obtain ⟨i, hl⟩ := hsAll (rvG hi lo s) (numV 1073741824 (rb3 s)) (by omega) (numV 1073741824 (rb3 s)).toNat 0 (rb4 s) [] (e _ hb.1) (by omega) (by simp)
  exact rbd0 hi lo s _ _ i hs hl
theorem rvS_len (s : RS) : (rvS s).1.length ≤ s.1.length := Nat.le_trans (rspF_len _ _ _) (Nat.le_trans (rnS_len _ _) (Nat.le_trans (rnS_len _ _) (Nat.le_trans (rnS_len _ _) (rnS_len _ _))))
end Go.Proofs.Ytdomjccibhgbjaa

/- the reference's block, read. -/
namespace Go.Proofs.Ytdomjccibhgbjaa
open E
set_option maxRecDepth 100000
set_option linter.unusedVariables false
set_option linter.unusedSimpArgs false

structure Tr where
  hi : Int
  lo : Int
def Tr.row (t : Tr) : List V := [U t.hi, U t.lo]
def rk1 (s : RS) : RS := rnS 1099511627776 s
def rk2 (s : RS) : RS := rnS 1099511627776 (rk1 s)
def rk3 (s : RS) : RS := rnS 1099511627776 (rk2 s)
def rk4 (s : RS) : RS := rnS 1073741824 (rk3 s)
def rtr3 (q : RS) : RS := rwS (rwS (rwS q))
def rtrF : Nat → RS → List Tr → List Tr × RS
  | 0, q, R => (R, q)
  | k + 1, q, R => bif q.2 then (R, q) else rtrF k (rtr3 q) (R ++ [⟨wideV q, wideV (rwS q)⟩])
def repF : List Tr → RS → List Ep → List Ep × RS
  | [], q, R => (R, q)
  | t :: l, q, R => bif q.2 then (R, q) else repF l (rvS q) (R ++ [rvV t.hi t.lo q])
def rbkT (s : RS) : List Tr × RS := rtrF (numV 1073741824 (rk3 s)).toNat (rk4 s) []
def rbkV (s : RS) : Bk := ⟨numV 1099511627776 s, numV 1099511627776 (rk1 s), numV 1099511627776 (rk2 s), (repF (rbkT s).1 (rbkT s).2 []).1⟩
def rbkQ (s : RS) : RS := (repF (rbkT s).1 (rbkT s).2 []).2
def kaS (l : List UInt8) (a b c : Int) (q : RS) (T : List Tr) (n : Int) (i : Nat) : SL := ⟨[(0, .sl 1 (l.map bR)), (2, .ptr 1000 0 0 0), (6, .ptr 803000 0 0 0), (7, .ptr 1008000 0 0 0), (8, I n), (9, .own 900), (10, I i)], [(1000, .box [I 0, I 0, I 0, .nil]), (803000, rdO q), (1008000, .box [I a, I b, I c, .nil]), (900, .arr 2 (T.map Tr.row))], [1000, 803000, 1008000, 900]⟩
def kbS (l : List UInt8) (a b c : Int) (q : RS) (T : List Tr) (R : List Ep) (n : Int) (i : Nat) : SL := ⟨[(0, .sl 1 (l.map bR)), (2, .ptr 1000 0 0 0), (6, .ptr 803000 0 0 0), (7, .ptr 1008000 0 0 0), (8, I n), (9, .own 900), (11, I i)], [(1000, .box [I 0, I 0, I 0, .nil]), (803000, rdO q), (1008000, .box [I a, I b, I c, .own 901]), (900, .arr 2 (T.map Tr.row)), (901, .arr 6 (R.map Ep.row))], [1000, 803000, 1008000, 900, 901]⟩
noncomputable def kaB : Code := codeAt Try.prog 12 [true, true, true, true, true, true, true, false, true, false, false]

noncomputable def kbB : Code := codeAt Try.prog 12 [true, true, true, true, true, true, true, true, false, true, false, false]

theorem flatB (l : List UInt8) : FlatRows (l.map bR) := by
  intro r hr
  obtain ⟨b, _, rfl⟩ := List.mem_map.1 hr
  rfl
theorem rtr3_len (q : RS) : (rtr3 q).1.length ≤ q.1.length := Nat.le_trans (rwS_len _) (Nat.le_trans (rwS_len _) (rwS_len q))
theorem kaGo (l : List UInt8) (a b c : Int) (q : RS) (T : List Tr) (n : Int) (i : Nat) (hi : (i : Int) < n) (hb : q.2 = false) (hn : n ≤ 1073741824) (hq : q.1.length ≤ 70000000) (hT : T.length ≤ 1073741824)  : CodeC Try.prog 0 91 kaB (kaS l a b c q T n i) .normal (kaS l a b c (rtr3 q) (T ++ [(⟨wideV q, wideV (rwS q)⟩ : Tr)]) n (i + 1)) :=
 runS hmix [.reg 9 [(2, [], some true), (9, [], some true)], .reg 11 [(2, [.call [803000] [] (U (wideV q)) [some (rdO (rwS q))]], none), (4, [.call [803000] [] (U (wideV (rwS q))) [some (rdO (rwS (rwS q)))]], none), (7, [.beO ((T ++ [(⟨wideV q, wideV (rwS q)⟩ : Tr)]).map Tr.row)], none)], .reg 12 [(1, [.call [803000] [] (U (wideV (rwS (rwS q)))) [some (rdO (rtr3 q))]], none)], .reg 10 [(1, [.be (I ((i + 1 : Nat) : Int))], none)]] ⟨[0, 2, 6, 7, 8, 9, 10], [(1000, 1000), (803000, 803000), (1008000, 1008000), (2208000, 900)], []⟩ [⟨(by simp; omega : decide (Int.ofNat i < n) = true)⟩, ⟨(by simp [hb] : (!Prod.snd q) = true)⟩, ⟨cNumRf q hq⟩, ⟨cNumRf (rwS q) (Nat.le_trans (rwS_len q) hq)⟩, ⟨(by simp; omega : (List.length (List.map Tr.row T) + 1) * 16 ≤ 140737488355328)⟩, ⟨(by rw [List.map_append]; rfl : List.map Tr.row T ++ [[(U (wideV q)), (U (wideV (rwS q)))]] = List.map Tr.row (T ++ [{ hi := wideV q, lo := wideV (rwS q) }]))⟩, ⟨cNumRf (rwS (rwS q)) (Nat.le_trans (rwS_len _) (Nat.le_trans (rwS_len q) hq))⟩, ⟨w64 (i + 1) (by omega)⟩]

theorem kaBa (l : List UInt8) (a b c : Int) (q : RS) (T : List Tr) (n : Int) (i : Nat) (hi : (i : Int) < n) (hb : q.2 = true)  : CodeC Try.prog 0 91 kaB (kaS l a b c q T n i) (.exit 0) (kaS l a b c q T n i) :=
 runS hmix [.reg 9 [(2, [], some true), (9, [], some false)]] ⟨[0, 2, 6, 7, 8, 9, 10], [(1000, 1000), (803000, 803000), (1008000, 1008000), (900, 900)], []⟩ [⟨(by simp; omega : decide (Int.ofNat i < n) = true)⟩, ⟨(by simp [hb] : (!Prod.snd q) = false)⟩]

theorem kaE (l : List UInt8) (a b c : Int) (q : RS) (T : List Tr) (n : Int) (i : Nat) (hi : n ≤ (i : Int))  : CodeC Try.prog 0 91 kaB (kaS l a b c q T n i) (.exit 0) (kaS l a b c q T n i) :=
 runS hmix [.reg 9 [(2, [], some false)]] ⟨[0, 2, 6, 7, 8, 9, 10], [(1000, 1000), (803000, 803000), (1008000, 1008000), (900, 900)], []⟩ [⟨(by simp; omega : decide (Int.ofNat i < n) = false)⟩]

theorem kaAll (l : List UInt8) (a b c n : Int) (hn : n ≤ 1073741824) : ∀ (m i : Nat) (q : RS) (T : List Tr), (i : Int) + m = n → q.1.length ≤ 70000000 → T.length ≤ i → ∃ i', LoopC Try.prog 0 91 kaB (kaS l a b c q T n i) (.exit 0) (kaS l a b c (rtrF m q T).2 (rtrF m q T).1 n i')
  | 0, i, q, T, h, hq, hT => ⟨i, LoopC.last (kaE l a b c q T n i (by omega)) (by simp)⟩
  | m + 1, i, q, T, h, hq, hT => by
    rw [rtrF]
    cases hb : q.2 with
    | true => exact ⟨i, LoopC.last (kaBa l a b c q T n i (by omega) hb) (by simp)⟩
    | false =>
      obtain ⟨i', ih⟩ := kaAll l a b c n hn m (i + 1) (rtr3 q) (T ++ [(⟨wideV q, wideV (rwS q)⟩ : Tr)]) (by omega) (Nat.le_trans (rtr3_len q) hq) (by simp; omega)
      exact ⟨i', LoopC.next (kaGo l a b c q T n i (by omega) hb hn hq (by omega)) ih⟩
theorem rtrF_len : ∀ (m : Nat) (q : RS) (T : List Tr), (rtrF m q T).2.1.length ≤ q.1.length ∧ (rtrF m q T).1.length ≤ T.length + m ∧ ((rtrF m q T).2.2 = true ∨ (rtrF m q T).1.length = T.length + m)
  | 0, q, T => ⟨Nat.le_refl _, Nat.le_refl _, .inr rfl⟩
  | m + 1, q, T => by
    have := rtrF_len m (rtr3 q) (T ++ [(⟨wideV q, wideV (rwS q)⟩ : Tr)])
    have h1 := rtr3_len q
    rw [rtrF]
    cases hb : q.2 with
    | true => simp [hb]
    | false =>
      simp only [cond_false, List.length_append, List.length_cons, List.length_nil] at this ⊢
      refine ⟨by omega, by omega, ?_⟩
      rcases this.2.2 with h | h
      · exact .inl h
      · exact .inr (by omega)
theorem kbGo (l : List UInt8) (a b c : Int) (q : RS) (T : List Tr) (R : List Ep) (n : Int) (t : Tr) (i : Nat) (hx : T[i]? = some t) (hi : (i : Int) < n) (hb : q.2 = false) (hn : n ≤ 1073741824) (hq : q.1.length ≤ 70000000) (hR : R.length ≤ 1073741824)  : CodeC Try.prog 0 91 kbB (kbS l a b c q T R n i) .normal (kbS l a b c (rvS q) T (R ++ [rvV t.hi t.lo q]) n (i + 1)) :=
 runS hmix [.reg 14 [(2, [], some true), (9, [], some true)], .reg 16 [(6, [.row (Tr.row t)], none), (7, [.call [803000] [] (.agg [U t.hi, U t.lo, I (numV 1099511627776 q), I (numV 1099511627776 (rb1 q)), Bo (numV 1 (rb2 q) == 1), .own 1]) [some (rdO (rvS q)), some (.arr 10 ((rvV t.hi t.lo q).spans.map Sp.row))]], none), (9, [.beO ((R ++ [rvV t.hi t.lo q]).map Ep.row)], none)], .reg 15 [(1, [.be (I ((i + 1 : Nat) : Int))], none)]] ⟨[0, 2, 6, 7, 8, 9, 11], [(1000, 1000), (803000, 803000), (1008000, 1008000), (900, 900), (3210000, 901)], []⟩ [⟨(by have w := (List.getElem?_eq_some_iff.1 hx).1; simp; omega : decide (Int.ofNat i < n) = true)⟩, ⟨(by simp [hb] : (!Prod.snd q) = true)⟩, ⟨nn i⟩, ⟨(by have w := (List.getElem?_eq_some_iff.1 hx).1; simp; omega : Int.ofNat i < Int.ofNat (List.length (List.map Tr.row T)))⟩, ⟨gtm Tr.row hx⟩, ⟨cBodyRf t.hi t.lo q hq⟩, ⟨(by have w := (List.getElem?_eq_some_iff.1 hx).1; simp; omega : (List.length (List.map Ep.row R) + 1) * 64 ≤ 140737488355328)⟩, ⟨(by rw [List.map_append]; rfl : List.map Ep.row R ++ [[(U (Tr.hi t)), (U (Tr.lo t)), I (numV 1099511627776 q), I (numV 1099511627776 (rb1 q)), Bo (numV 1 (rb2 q) == 1), .sl 10 (List.map Sp.row (Ep.spans (rvV (Tr.hi t) (Tr.lo t) q)))]] = List.map Ep.row (R ++ [rvV (Tr.hi t) (Tr.lo t) q]))⟩, ⟨w64 (i + 1) (by omega)⟩]

theorem kbBa_0 (l : List UInt8) (a b c : Int) (q : RS) (T : List Tr) (R : List Ep) (n : Int) (i : Nat) (hb : q.2 = true) (tq0 : (decide (Int.ofNat i < n)) = true) : CodeC Try.prog 0 91 kbB (kbS l a b c q T R n i) (.exit 2) (kbS l a b c q T R n i) :=
 runS hmix [.reg 14 [(3, [], some true), (9, [], some false)]] ⟨[0, 2, 6, 7, 8, 9, 11], [(1000, 1000), (803000, 803000), (1008000, 1008000), (900, 900), (901, 901)], []⟩ [⟨tq0⟩, ⟨(by simp [hb] : (!Prod.snd q) = false)⟩]

theorem kbBa_1 (l : List UInt8) (a b c : Int) (q : RS) (T : List Tr) (R : List Ep) (n : Int) (i : Nat) (hb : q.2 = true) (tq0 : (decide (Int.ofNat i < n)) = false) : CodeC Try.prog 0 91 kbB (kbS l a b c q T R n i) (.exit 2) (kbS l a b c q T R n i) :=
 runS hmix [.reg 14 [(3, [], some false), (9, [], some false)]] ⟨[0, 2, 6, 7, 8, 9, 11], [(1000, 1000), (803000, 803000), (1008000, 1008000), (900, 900), (901, 901)], []⟩ [⟨tq0⟩, ⟨(by simp [hb] : false = false)⟩]

theorem kbBa (l : List UInt8) (a b c : Int) (q : RS) (T : List Tr) (R : List Ep) (n : Int) (i : Nat) (hb : q.2 = true)  : CodeC Try.prog 0 91 kbB (kbS l a b c q T R n i) (.exit 2) (kbS l a b c q T R n i) := by
  rcases tf (decide (Int.ofNat i < n)) with tq0 | tq0
  · exact kbBa_0 l a b c q T R n i hb tq0
  · exact kbBa_1 l a b c q T R n i hb tq0

theorem kbE (l : List UInt8) (a b c : Int) (q : RS) (T : List Tr) (R : List Ep) (n : Int) (i : Nat) (hi : n ≤ (i : Int))  : CodeC Try.prog 0 91 kbB (kbS l a b c q T R n i) (.exit 2) (kbS l a b c q T R n i) :=
 runS hmix [.reg 14 [(2, [], some false)]] ⟨[0, 2, 6, 7, 8, 9, 11], [(1000, 1000), (803000, 803000), (1008000, 1008000), (900, 900), (901, 901)], []⟩ [⟨(by simp; omega : decide (Int.ofNat i < n) = false)⟩]

theorem kbAll (l : List UInt8) (a b c n : Int) (hn : n ≤ 1073741824) (T : List Tr) : ∀ (m i : Nat) (q : RS) (R : List Ep), i + m = T.length → q.2 = true ∨ (T.length : Int) = n → q.1.length ≤ 70000000 → R.length ≤ i → ∃ i', LoopC Try.prog 0 91 kbB (kbS l a b c q T R n i) (.exit 2) (kbS l a b c (repF (T.drop i) q R).2 T (repF (T.drop i) q R).1 n i')
  | m, i, q, R, h, hn2, hq, hR => by
    cases hb : q.2 with
    | true =>
      have e : repF (T.drop i) q R = (R, q) := by
        cases T.drop i with
        | nil => rfl
        | cons t l => rw [repF, hb]; rfl
      rw [e]
      exact ⟨i, LoopC.last (kbBa l a b c q T R n i hb) (by simp)⟩
    | false =>
      have hT : (T.length : Int) = n := by
        rcases hn2 with h | h
        · rw [hb] at h; cases h
        · exact h
      match m, h with
      | 0, h =>
        have : i = T.length := by omega
        subst this
        rw [List.drop_length]
        exact ⟨_, LoopC.last (kbE l a b c q T R n _ (by omega)) (by simp)⟩
      | m + 1, h =>
        have hi : i < T.length := by omega
        rw [List.drop_eq_getElem_cons hi, repF, hb]
        obtain ⟨i', ih⟩ := kbAll l a b c n hn T m (i + 1) (rvS q) (R ++ [rvV T[i].hi T[i].lo q]) (by omega) (.inr hT) (Nat.le_trans (rvS_len q) hq) (by simp; omega)
        exact ⟨i', LoopC.next (kbGo l a b c q T R n T[i] i (List.getElem?_eq_getElem hi) (by omega) hb hn hq (by omega)) ih⟩
theorem rbkN (l : List UInt8) (hs : l.length ≤ 1000000) (ho : openOk l = false) : Contract Try.prog 12 [.sl 1 (l.map bR)] [] (.tup [.agg [I 0, I 0, I 0, .sl 6 []], I 2]) [] :=
 vcS hmix [.reg 1 [(1, [.call [] [] (.tup [.sl 1 ((bif openOk l then l.take (l.length - 4) else []).map bR), Bo (openOk l)]) []], none)], .reg 2 [(1, [], some true)]] [] [⟨cOpenR l (by omega)⟩, ⟨(by simp [ho] : (!openOk l) = true)⟩]

theorem rbkY_0 (l : List UInt8) (s p q : RS) (T : List Tr) (R : List Ep) (i j : Nat) (hl0 : l.length ≤ 1000000) (ho : openOk l = true) (hs2 : s = (l.take (l.length - 4), false)) (hs : s.1.length ≤ 1000000) (hB : q.2 = false → Contract Try.prog 9 [Bk.v ⟨numV 1099511627776 s, numV 1099511627776 (rk1 s), numV 1099511627776 (rk2 s), R⟩] [] (.own 0) [some (.arr 1 ((bytesB ⟨numV 1099511627776 s, numV 1099511627776 (rk1 s), numV 1099511627776 (rk2 s), R⟩).map bR))]) (hl : LoopC Try.prog 0 91 kaB (kaS l (numV 1099511627776 s) (numV 1099511627776 (rk1 s)) (numV 1099511627776 (rk2 s)) (rk4 s) [] (numV 1073741824 (rk3 s)) 0) (.exit 0) (kaS l (numV 1099511627776 s) (numV 1099511627776 (rk1 s)) (numV 1099511627776 (rk2 s)) p T (numV 1073741824 (rk3 s)) i)) (hk : LoopC Try.prog 0 91 kbB (kbS l (numV 1099511627776 s) (numV 1099511627776 (rk1 s)) (numV 1099511627776 (rk2 s)) p T [] (numV 1073741824 (rk3 s)) 0) (.exit 2) (kbS l (numV 1099511627776 s) (numV 1099511627776 (rk1 s)) (numV 1099511627776 (rk2 s)) q T R (numV 1073741824 (rk3 s)) j)) (tq0 : (Prod.snd q) = true) : Contract Try.prog 12 [.sl 1 (l.map bR)] [] (.tup [.agg [I 0, I 0, I 0, .sl 6 []], I 2]) ([]) :=
 vcS hmix [.reg 1 [(1, [.call [] [] (.tup [.sl 1 ((bif openOk l then l.take (l.length - 4) else []).map bR), Bo (openOk l)]) []], none), (5, [.be (.sl 1 (s.1.map bR))], none)], .reg 2 [(1, [], some false)], .reg 5 [(1, [.call [803000] [] (I (numV 1099511627776 s)) [some (rdO (rk1 s))]], none), (3, [.call [803000] [] (I (numV 1099511627776 (rk1 s))) [some (rdO (rk2 s))]], none), (5, [.call [803000] [] (I (numV 1099511627776 (rk2 s))) [some (rdO (rk3 s))]], none)], .reg 6 [(1, [.call [803000] [] (I (numV 1073741824 (rk3 s))) [some (rdO (rk4 s))]], none)], .cut ⟨[0, 2, 6, 7, 8, 9, 10], [(1000, 1000), (803000, 803000), (1008000, 1008000)], [.slot 9 900 2]⟩ (.exit 0) (kaS l (numV 1099511627776 s) (numV 1099511627776 (rk1 s)) (numV 1099511627776 (rk2 s)) p T (numV 1073741824 (rk3 s)) i), .cut ⟨[0, 2, 6, 7, 8, 9, 11], [(1000, 1000), (803000, 803000), (1008000, 1008000), (900, 900)], [.cell 1008000 3 901 6]⟩ (.exit 2) (kbS l (numV 1099511627776 s) (numV 1099511627776 (rk1 s)) (numV 1099511627776 (rk2 s)) q T R (numV 1073741824 (rk3 s)) j), .reg 17 [(4, [], some true), (6, [.call [] [] (.own 0) [some (.arr 1 ((bytesB ⟨numV 1099511627776 s, numV 1099511627776 (rk1 s), numV 1099511627776 (rk2 s), R⟩).map bR))]], none), (7, [.str (ofB (bytesB ⟨numV 1099511627776 s, numV 1099511627776 (rk1 s), numV 1099511627776 (rk2 s), R⟩))], none), (9, [.str (ofB l)], none)]] [] [⟨cOpenR l (by omega)⟩, ⟨(by rw [hs2, ho]; rfl : List.map bR (bif openOk l then List.take (List.length l - 4) l else []) = List.map bR (Prod.fst s))⟩, ⟨(by simp [ho] : (!openOk l) = false)⟩, ⟨(by have w := cIntRf 1099511627776 s (by omega) (by decide) (by decide); unfold rdO at w; rw [show s.2 = false by rw [hs2]] at w; exact w : Contract Try.prog 39 [.ptr 0 0 0 0, I 1099511627776] [.box [.sl 1 (List.map bR (Prod.fst s)), Bo false]] (I (numV 1099511627776 s)) [some (.box [.sl 1 (List.map bR (Prod.fst (rk1 s))), Bo (Prod.snd (rk1 s))])])⟩, ⟨(by exact cIntRf _ (rk1 s) (Nat.le_trans (rnS_len _ _) (by omega)) (by decide) (by decide) : Contract Try.prog 39 [.ptr 0 0 0 0, I 1099511627776] [.box [.sl 1 (List.map bR (Prod.fst (rk1 s))), Bo (Prod.snd (rk1 s))]] (I (numV 1099511627776 (rk1 s))) [some (.box [.sl 1 (List.map bR (Prod.fst (rk2 s))), Bo (Prod.snd (rk2 s))])])⟩, ⟨(by exact cIntRf _ (rk2 s) (Nat.le_trans (rnS_len _ _) (Nat.le_trans (rnS_len _ _) (by omega))) (by decide) (by decide) : Contract Try.prog 39 [.ptr 0 0 0 0, I 1099511627776] [.box [.sl 1 (List.map bR (Prod.fst (rk2 s))), Bo (Prod.snd (rk2 s))]] (I (numV 1099511627776 (rk2 s))) [some (.box [.sl 1 (List.map bR (Prod.fst (rk3 s))), Bo (Prod.snd (rk3 s))])])⟩, ⟨(by exact cIntRf _ (rk3 s) (Nat.le_trans (rnS_len _ _) (Nat.le_trans (rnS_len _ _) (Nat.le_trans (rnS_len _ _) (by omega)))) (by decide) (by decide) : Contract Try.prog 39 [.ptr 0 0 0 0, I 1073741824] [.box [.sl 1 (List.map bR (Prod.fst (rk3 s))), Bo (Prod.snd (rk3 s))]] (I (numV 1073741824 (rk3 s))) [some (.box [.sl 1 (List.map bR (Prod.fst (rk4 s))), Bo (Prod.snd (rk4 s))])])⟩, ⟨hl⟩, ⟨hk⟩, ⟨tq0⟩]

theorem rbkY_1 (l : List UInt8) (s p q : RS) (T : List Tr) (R : List Ep) (i j : Nat) (hl0 : l.length ≤ 1000000) (ho : openOk l = true) (hs2 : s = (l.take (l.length - 4), false)) (hs : s.1.length ≤ 1000000) (hB : q.2 = false → Contract Try.prog 9 [Bk.v ⟨numV 1099511627776 s, numV 1099511627776 (rk1 s), numV 1099511627776 (rk2 s), R⟩] [] (.own 0) [some (.arr 1 ((bytesB ⟨numV 1099511627776 s, numV 1099511627776 (rk1 s), numV 1099511627776 (rk2 s), R⟩).map bR))]) (hl : LoopC Try.prog 0 91 kaB (kaS l (numV 1099511627776 s) (numV 1099511627776 (rk1 s)) (numV 1099511627776 (rk2 s)) (rk4 s) [] (numV 1073741824 (rk3 s)) 0) (.exit 0) (kaS l (numV 1099511627776 s) (numV 1099511627776 (rk1 s)) (numV 1099511627776 (rk2 s)) p T (numV 1073741824 (rk3 s)) i)) (hk : LoopC Try.prog 0 91 kbB (kbS l (numV 1099511627776 s) (numV 1099511627776 (rk1 s)) (numV 1099511627776 (rk2 s)) p T [] (numV 1073741824 (rk3 s)) 0) (.exit 2) (kbS l (numV 1099511627776 s) (numV 1099511627776 (rk1 s)) (numV 1099511627776 (rk2 s)) q T R (numV 1073741824 (rk3 s)) j)) (tq0 : (Prod.snd q) = false) (tq1 : (!ByteArray.toList (ofB (bytesB { num := numV (1099511627776 : Int) s, born := numV (1099511627776 : Int) (rk1 s), tier := numV (1099511627776 : Int) (rk2 s), eps := R })) == ByteArray.toList (ofB l)) = true) : Contract Try.prog 12 [.sl 1 (l.map bR)] [] (.tup [.agg [I 0, I 0, I 0, .sl 6 []], I 2]) ([]) :=
 vcS hmix [.reg 1 [(1, [.call [] [] (.tup [.sl 1 ((bif openOk l then l.take (l.length - 4) else []).map bR), Bo (openOk l)]) []], none), (5, [.be (.sl 1 (s.1.map bR))], none)], .reg 2 [(1, [], some false)], .reg 5 [(1, [.call [803000] [] (I (numV 1099511627776 s)) [some (rdO (rk1 s))]], none), (3, [.call [803000] [] (I (numV 1099511627776 (rk1 s))) [some (rdO (rk2 s))]], none), (5, [.call [803000] [] (I (numV 1099511627776 (rk2 s))) [some (rdO (rk3 s))]], none)], .reg 6 [(1, [.call [803000] [] (I (numV 1073741824 (rk3 s))) [some (rdO (rk4 s))]], none)], .cut ⟨[0, 2, 6, 7, 8, 9, 10], [(1000, 1000), (803000, 803000), (1008000, 1008000)], [.slot 9 900 2]⟩ (.exit 0) (kaS l (numV 1099511627776 s) (numV 1099511627776 (rk1 s)) (numV 1099511627776 (rk2 s)) p T (numV 1073741824 (rk3 s)) i), .cut ⟨[0, 2, 6, 7, 8, 9, 11], [(1000, 1000), (803000, 803000), (1008000, 1008000), (900, 900)], [.cell 1008000 3 901 6]⟩ (.exit 2) (kbS l (numV 1099511627776 s) (numV 1099511627776 (rk1 s)) (numV 1099511627776 (rk2 s)) q T R (numV 1073741824 (rk3 s)) j), .reg 17 [(4, [], some false), (6, [.call [] [] (.own 0) [some (.arr 1 ((bytesB ⟨numV 1099511627776 s, numV 1099511627776 (rk1 s), numV 1099511627776 (rk2 s), R⟩).map bR))]], none), (7, [.str (ofB (bytesB ⟨numV 1099511627776 s, numV 1099511627776 (rk1 s), numV 1099511627776 (rk2 s), R⟩))], none), (9, [.str (ofB l)], none), (11, [], some true)]] [] [⟨cOpenR l (by omega)⟩, ⟨(by rw [hs2, ho]; rfl : List.map bR (bif openOk l then List.take (List.length l - 4) l else []) = List.map bR (Prod.fst s))⟩, ⟨(by simp [ho] : (!openOk l) = false)⟩, ⟨(by have w := cIntRf 1099511627776 s (by omega) (by decide) (by decide); unfold rdO at w; rw [show s.2 = false by rw [hs2]] at w; exact w : Contract Try.prog 39 [.ptr 0 0 0 0, I 1099511627776] [.box [.sl 1 (List.map bR (Prod.fst s)), Bo false]] (I (numV 1099511627776 s)) [some (.box [.sl 1 (List.map bR (Prod.fst (rk1 s))), Bo (Prod.snd (rk1 s))])])⟩, ⟨(by exact cIntRf _ (rk1 s) (Nat.le_trans (rnS_len _ _) (by omega)) (by decide) (by decide) : Contract Try.prog 39 [.ptr 0 0 0 0, I 1099511627776] [.box [.sl 1 (List.map bR (Prod.fst (rk1 s))), Bo (Prod.snd (rk1 s))]] (I (numV 1099511627776 (rk1 s))) [some (.box [.sl 1 (List.map bR (Prod.fst (rk2 s))), Bo (Prod.snd (rk2 s))])])⟩, ⟨(by exact cIntRf _ (rk2 s) (Nat.le_trans (rnS_len _ _) (Nat.le_trans (rnS_len _ _) (by omega))) (by decide) (by decide) : Contract Try.prog 39 [.ptr 0 0 0 0, I 1099511627776] [.box [.sl 1 (List.map bR (Prod.fst (rk2 s))), Bo (Prod.snd (rk2 s))]] (I (numV 1099511627776 (rk2 s))) [some (.box [.sl 1 (List.map bR (Prod.fst (rk3 s))), Bo (Prod.snd (rk3 s))])])⟩, ⟨(by exact cIntRf _ (rk3 s) (Nat.le_trans (rnS_len _ _) (Nat.le_trans (rnS_len _ _) (Nat.le_trans (rnS_len _ _) (by omega)))) (by decide) (by decide) : Contract Try.prog 39 [.ptr 0 0 0 0, I 1073741824] [.box [.sl 1 (List.map bR (Prod.fst (rk3 s))), Bo (Prod.snd (rk3 s))]] (I (numV 1073741824 (rk3 s))) [some (.box [.sl 1 (List.map bR (Prod.fst (rk4 s))), Bo (Prod.snd (rk4 s))])])⟩, ⟨hl⟩, ⟨hk⟩, ⟨tq0⟩, ⟨hB tq0⟩, ⟨(by simp [ho] : true = true)⟩, ⟨(by exact flatB _ : FlatRows (List.map bR (bytesB { num := numV 1099511627776 s, born := numV 1099511627776 (rk1 s), tier := numV 1099511627776 (rk2 s), eps := R })))⟩, ⟨(by exact ofB_rows _ : List.map bR (bytesB { num := numV 1099511627776 s, born := numV 1099511627776 (rk1 s), tier := numV 1099511627776 (rk2 s), eps := R }) = strRows (ofB (bytesB { num := numV 1099511627776 s, born := numV 1099511627776 (rk1 s), tier := numV 1099511627776 (rk2 s), eps := R })))⟩, ⟨(by exact ofB_rows _ : List.map bR l = strRows (ofB l))⟩, ⟨tq1⟩]

theorem rbkY_2 (l : List UInt8) (s p q : RS) (T : List Tr) (R : List Ep) (i j : Nat) (hl0 : l.length ≤ 1000000) (ho : openOk l = true) (hs2 : s = (l.take (l.length - 4), false)) (hs : s.1.length ≤ 1000000) (hB : q.2 = false → Contract Try.prog 9 [Bk.v ⟨numV 1099511627776 s, numV 1099511627776 (rk1 s), numV 1099511627776 (rk2 s), R⟩] [] (.own 0) [some (.arr 1 ((bytesB ⟨numV 1099511627776 s, numV 1099511627776 (rk1 s), numV 1099511627776 (rk2 s), R⟩).map bR))]) (hl : LoopC Try.prog 0 91 kaB (kaS l (numV 1099511627776 s) (numV 1099511627776 (rk1 s)) (numV 1099511627776 (rk2 s)) (rk4 s) [] (numV 1073741824 (rk3 s)) 0) (.exit 0) (kaS l (numV 1099511627776 s) (numV 1099511627776 (rk1 s)) (numV 1099511627776 (rk2 s)) p T (numV 1073741824 (rk3 s)) i)) (hk : LoopC Try.prog 0 91 kbB (kbS l (numV 1099511627776 s) (numV 1099511627776 (rk1 s)) (numV 1099511627776 (rk2 s)) p T [] (numV 1073741824 (rk3 s)) 0) (.exit 2) (kbS l (numV 1099511627776 s) (numV 1099511627776 (rk1 s)) (numV 1099511627776 (rk2 s)) q T R (numV 1073741824 (rk3 s)) j)) (tq0 : (Prod.snd q) = false) (tq1 : (!ByteArray.toList (ofB (bytesB { num := numV (1099511627776 : Int) s, born := numV (1099511627776 : Int) (rk1 s), tier := numV (1099511627776 : Int) (rk2 s), eps := R })) == ByteArray.toList (ofB l)) = false) : Contract Try.prog 12 [.sl 1 (l.map bR)] [] (.tup [.agg [I (numV 1099511627776 s), I (numV 1099511627776 (rk1 s)), I (numV 1099511627776 (rk2 s)), .sl 6 (List.map Ep.row R)], I 0]) ([]) :=
 vcS hmix [.reg 1 [(1, [.call [] [] (.tup [.sl 1 ((bif openOk l then l.take (l.length - 4) else []).map bR), Bo (openOk l)]) []], none), (5, [.be (.sl 1 (s.1.map bR))], none)], .reg 2 [(1, [], some false)], .reg 5 [(1, [.call [803000] [] (I (numV 1099511627776 s)) [some (rdO (rk1 s))]], none), (3, [.call [803000] [] (I (numV 1099511627776 (rk1 s))) [some (rdO (rk2 s))]], none), (5, [.call [803000] [] (I (numV 1099511627776 (rk2 s))) [some (rdO (rk3 s))]], none)], .reg 6 [(1, [.call [803000] [] (I (numV 1073741824 (rk3 s))) [some (rdO (rk4 s))]], none)], .cut ⟨[0, 2, 6, 7, 8, 9, 10], [(1000, 1000), (803000, 803000), (1008000, 1008000)], [.slot 9 900 2]⟩ (.exit 0) (kaS l (numV 1099511627776 s) (numV 1099511627776 (rk1 s)) (numV 1099511627776 (rk2 s)) p T (numV 1073741824 (rk3 s)) i), .cut ⟨[0, 2, 6, 7, 8, 9, 11], [(1000, 1000), (803000, 803000), (1008000, 1008000), (900, 900)], [.cell 1008000 3 901 6]⟩ (.exit 2) (kbS l (numV 1099511627776 s) (numV 1099511627776 (rk1 s)) (numV 1099511627776 (rk2 s)) q T R (numV 1073741824 (rk3 s)) j), .reg 17 [(4, [], some false), (6, [.call [] [] (.own 0) [some (.arr 1 ((bytesB ⟨numV 1099511627776 s, numV 1099511627776 (rk1 s), numV 1099511627776 (rk2 s), R⟩).map bR))]], none), (7, [.str (ofB (bytesB ⟨numV 1099511627776 s, numV 1099511627776 (rk1 s), numV 1099511627776 (rk2 s), R⟩))], none), (9, [.str (ofB l)], none), (11, [], some false)]] [] [⟨cOpenR l (by omega)⟩, ⟨(by rw [hs2, ho]; rfl : List.map bR (bif openOk l then List.take (List.length l - 4) l else []) = List.map bR (Prod.fst s))⟩, ⟨(by simp [ho] : (!openOk l) = false)⟩, ⟨(by have w := cIntRf 1099511627776 s (by omega) (by decide) (by decide); unfold rdO at w; rw [show s.2 = false by rw [hs2]] at w; exact w : Contract Try.prog 39 [.ptr 0 0 0 0, I 1099511627776] [.box [.sl 1 (List.map bR (Prod.fst s)), Bo false]] (I (numV 1099511627776 s)) [some (.box [.sl 1 (List.map bR (Prod.fst (rk1 s))), Bo (Prod.snd (rk1 s))])])⟩, ⟨(by exact cIntRf _ (rk1 s) (Nat.le_trans (rnS_len _ _) (by omega)) (by decide) (by decide) : Contract Try.prog 39 [.ptr 0 0 0 0, I 1099511627776] [.box [.sl 1 (List.map bR (Prod.fst (rk1 s))), Bo (Prod.snd (rk1 s))]] (I (numV 1099511627776 (rk1 s))) [some (.box [.sl 1 (List.map bR (Prod.fst (rk2 s))), Bo (Prod.snd (rk2 s))])])⟩, ⟨(by exact cIntRf _ (rk2 s) (Nat.le_trans (rnS_len _ _) (Nat.le_trans (rnS_len _ _) (by omega))) (by decide) (by decide) : Contract Try.prog 39 [.ptr 0 0 0 0, I 1099511627776] [.box [.sl 1 (List.map bR (Prod.fst (rk2 s))), Bo (Prod.snd (rk2 s))]] (I (numV 1099511627776 (rk2 s))) [some (.box [.sl 1 (List.map bR (Prod.fst (rk3 s))), Bo (Prod.snd (rk3 s))])])⟩, ⟨(by exact cIntRf _ (rk3 s) (Nat.le_trans (rnS_len _ _) (Nat.le_trans (rnS_len _ _) (Nat.le_trans (rnS_len _ _) (by omega)))) (by decide) (by decide) : Contract Try.prog 39 [.ptr 0 0 0 0, I 1073741824] [.box [.sl 1 (List.map bR (Prod.fst (rk3 s))), Bo (Prod.snd (rk3 s))]] (I (numV 1073741824 (rk3 s))) [some (.box [.sl 1 (List.map bR (Prod.fst (rk4 s))), Bo (Prod.snd (rk4 s))])])⟩, ⟨hl⟩, ⟨hk⟩, ⟨tq0⟩, ⟨hB tq0⟩, ⟨(by simp [ho] : true = true)⟩, ⟨(by exact flatB _ : FlatRows (List.map bR (bytesB { num := numV 1099511627776 s, born := numV 1099511627776 (rk1 s), tier := numV 1099511627776 (rk2 s), eps := R })))⟩, ⟨(by exact ofB_rows _ : List.map bR (bytesB { num := numV 1099511627776 s, born := numV 1099511627776 (rk1 s), tier := numV 1099511627776 (rk2 s), eps := R }) = strRows (ofB (bytesB { num := numV 1099511627776 s, born := numV 1099511627776 (rk1 s), tier := numV 1099511627776 (rk2 s), eps := R })))⟩, ⟨(by exact ofB_rows _ : List.map bR l = strRows (ofB l))⟩, ⟨tq1⟩]

theorem rbkY (l : List UInt8) (s p q : RS) (T : List Tr) (R : List Ep) (i j : Nat) (hl0 : l.length ≤ 1000000) (ho : openOk l = true) (hs2 : s = (l.take (l.length - 4), false)) (hs : s.1.length ≤ 1000000) (hB : q.2 = false → Contract Try.prog 9 [Bk.v ⟨numV 1099511627776 s, numV 1099511627776 (rk1 s), numV 1099511627776 (rk2 s), R⟩] [] (.own 0) [some (.arr 1 ((bytesB ⟨numV 1099511627776 s, numV 1099511627776 (rk1 s), numV 1099511627776 (rk2 s), R⟩).map bR))]) (hl : LoopC Try.prog 0 91 kaB (kaS l (numV 1099511627776 s) (numV 1099511627776 (rk1 s)) (numV 1099511627776 (rk2 s)) (rk4 s) [] (numV 1073741824 (rk3 s)) 0) (.exit 0) (kaS l (numV 1099511627776 s) (numV 1099511627776 (rk1 s)) (numV 1099511627776 (rk2 s)) p T (numV 1073741824 (rk3 s)) i)) (hk : LoopC Try.prog 0 91 kbB (kbS l (numV 1099511627776 s) (numV 1099511627776 (rk1 s)) (numV 1099511627776 (rk2 s)) p T [] (numV 1073741824 (rk3 s)) 0) (.exit 2) (kbS l (numV 1099511627776 s) (numV 1099511627776 (rk1 s)) (numV 1099511627776 (rk2 s)) q T R (numV 1073741824 (rk3 s)) j)) : Contract Try.prog 12 [.sl 1 (l.map bR)] [] (bif !q.2 && (ByteArray.toList (ofB (bytesB ⟨numV 1099511627776 s, numV 1099511627776 (rk1 s), numV 1099511627776 (rk2 s), R⟩)) == ByteArray.toList (ofB l)) then .tup [Bk.v ⟨numV 1099511627776 s, numV 1099511627776 (rk1 s), numV 1099511627776 (rk2 s), R⟩, I 0] else .tup [.agg [I 0, I 0, I 0, .sl 6 []], I 2]) [] := by
  rcases tf (Prod.snd q) with tq0 | tq0
  · exact Contract.cast (by simp only [tq0, cond_true, cond_false]; rfl) rfl (rbkY_0 l s p q T R i j hl0 ho hs2 hs hB hl hk tq0)
  · rcases tf (!ByteArray.toList (ofB (bytesB { num := numV (1099511627776 : Int) s, born := numV (1099511627776 : Int) (rk1 s), tier := numV (1099511627776 : Int) (rk2 s), eps := R })) == ByteArray.toList (ofB l)) with tq1 | tq1
    · exact Contract.cast (by (try simp only [Int.ofNat_eq_natCast, List.length_map, Bool.not_eq_true', Bool.not_eq_false', decide_eq_true_eq, decide_eq_false_iff_not] at tq0 tq1); simp [tq0, tq1]) rfl (rbkY_1 l s p q T R i j hl0 ho hs2 hs hB hl hk tq0 tq1)
    · exact Contract.cast (by (try simp only [Int.ofNat_eq_natCast, List.length_map, Bool.not_eq_true', Bool.not_eq_false', decide_eq_true_eq, decide_eq_false_iff_not] at tq0 tq1); simp only [Bool.cond_eq_ite, Bool.and_eq_true, Bool.or_eq_true, Bool.not_eq_true', decide_eq_true_eq, beq_iff_eq, beq_eq_false_iff_ne, ne_eq]; (repeat' split) <;> first | rfl | (exfalso; omega) | omega | (simp_all; done) | (exfalso; simp_all; omega)) rfl (rbkY_2 l s p q T R i j hl0 ho hs2 hs hB hl hk tq0 tq1)

/-- Which bytes are a block, by the document. -/
theorem cReadBlock (l : List UInt8) (hs : l.length ≤ 100000) (hB : (rbkQ (l.take (l.length - 4), false)).2 = false → Contract Try.prog 9 [Bk.v (rbkV (l.take (l.length - 4), false))] [] (.own 0) [some (.arr 1 ((bytesB (rbkV (l.take (l.length - 4), false))).map bR))]) : Contract Try.prog 12 [.sl 1 (l.map bR)] [] (bif openOk l && (!(rbkQ (l.take (l.length - 4), false)).2 && (bytesB (rbkV (l.take (l.length - 4), false)) == l)) then .tup [Bk.v (rbkV (l.take (l.length - 4), false)), I 0] else .tup [.agg [I 0, I 0, I 0, .sl 6 []], I 2]) [] := by
  cases ho : openOk l with
  | false => exact rbkN l (by omega) ho
  | true =>
    have hlen : (l.take (l.length - 4)).length ≤ 100000 := by rw [List.length_take]; omega
    generalize hs2 : ((l.take (l.length - 4), false) : RS) = s at hB
    have h1 : s.1.length ≤ 100000 := by rw [← hs2]; exact hlen
    have h4 : (rk4 s).1.length ≤ 100000 := Nat.le_trans (rnS_len _ _) (Nat.le_trans (rnS_len _ _) (Nat.le_trans (rnS_len _ _) (Nat.le_trans (rnS_len _ _) h1)))
    have hb := numV_bnd (top := 1073741824) (by decide) (rk3 s)
    have e : ∀ n : Int, 0 ≤ n → (0 : Nat) + (n.toNat : Int) = n := by intro n h; omega
    obtain ⟨i, hl⟩ := kaAll l (numV 1099511627776 s) (numV 1099511627776 (rk1 s)) (numV 1099511627776 (rk2 s)) (numV 1073741824 (rk3 s)) (by omega) (numV 1073741824 (rk3 s)).toNat 0 (rk4 s) [] (e _ hb.1) (by omega) (by simp)
    obtain ⟨k1, k2, k3⟩ := rtrF_len (numV 1073741824 (rk3 s)).toNat (rk4 s) []
    rw [List.length_nil, Nat.zero_add] at k2 k3
    obtain ⟨j, hk⟩ := kbAll l (numV 1099511627776 s) (numV 1099511627776 (rk1 s)) (numV 1099511627776 (rk2 s)) (numV 1073741824 (rk3 s)) (by omega) (rbkT s).1 (rbkT s).1.length 0 (rbkT s).2 [] (by omega) (by
      rcases k3 with h | h
      · exact .inl h
      · exact .inr (by unfold rbkT; rw [h]; omega)) (Nat.le_trans k1 (by omega)) (by simp)
    rw [List.drop_zero] at hk
    have h := rbkY l s _ _ _ _ i j (by omega) ho hs2.symm (by omega) hB hl hk
    rw [tl_beq, ofB_beq] at h
    rw [Bool.true_and]
    exact h
end Go.Proofs.Ytdomjccibhgbjaa

/- Block, the plain law: what is read is what was written. -/
namespace Go.Proofs.Ytdomjccibhgbjaa
open E
set_option maxRecDepth 100000
set_option linter.unusedVariables false
set_option linter.unusedSimpArgs false

/-! ## Numbers -/
theorem vintF_small {k n : Nat} (h : n < 128) : vintF k n = [UInt8.ofNat n] := by
  cases k with
  | zero => rfl
  | succ k => unfold vintF; simp [h]
theorem vintF_big {k n : Nat} (h : ¬ n < 128) : vintF (k + 1) n = UInt8.ofNat (n % 128 + 128) :: vintF k (n / 128) := by
  rw [vintF]; simp [h]
theorem vgA_enc (r : List UInt8) : ∀ (k i acc n : Nat), i + k = 9 → n * 128 ^ i < 18446744073709551616 → (0 < i → 0 < n) → vgA i acc (k + 1) (vintF k n ++ r) = some (acc + n * 128 ^ i, i + (vintF k n).length)
  | 0, i, acc, n, h, hn, h0 => by
    have hi : i = 9 := by omega
    subst hi
    have e9 : (128 : Nat) ^ 9 = 9223372036854775808 := by decide
    rw [e9] at hn
    have h1 : n = 1 := by have := h0 (by decide); omega
    subst h1
    rw [vintF_small (by decide)]
    simp only [List.cons_append, List.nil_append, vgA]
    rw [s7S_eq]
    simp
  | k + 1, i, acc, n, h, hn, h0 => by
    have hi9 : (i == 9) = false := by rw [beq_eq_false_iff_ne]; omega
    by_cases hb : n < 128
    · rw [vintF_small hb]
      simp only [List.cons_append, List.nil_append, vgA, hi9, Bool.false_and, cond_false]
      have e : (UInt8.ofNat n).toNat = n := by rw [UInt8.toNat_ofNat', Nat.mod_eq_of_lt (by omega)]
      rw [s7S_eq, e]
      have hz : (n == 0 && decide (0 < i)) = false := by
        simp only [Bool.and_eq_false_iff, beq_eq_false_iff_ne, decide_eq_false_iff_not]
        omega
      rw [hz]
      simp [hb, Nat.mod_eq_of_lt hb]
    · rw [vintF_big hb]
      have e : (UInt8.ofNat (n % 128 + 128)).toNat = n % 128 + 128 := by rw [UInt8.toNat_ofNat', Nat.mod_eq_of_lt (by omega)]
      simp only [List.cons_append, vgA, hi9, Bool.false_and, cond_false]
      rw [s7S_eq, e]
      have hz : (n % 128 + 128 == 0 && decide (0 < i)) = false := by simp
      rw [hz]
      have hl : decide (n % 128 + 128 < 128) = false := by simp
      rw [hl]
      simp only [cond_false]
      have hle : n / 128 * 128 ^ (i + 1) ≤ n * 128 ^ i := by
        rw [Nat.pow_succ, Nat.mul_comm (128 ^ i), ← Nat.mul_assoc]
        exact Nat.mul_le_mul_right _ (Nat.div_mul_le_self n 128)
      rw [vgA_enc r k (i + 1) _ (n / 128) (by omega) (by omega) (fun _ => by omega)]
      have hs : (n % 128 + 128) % 128 * 128 ^ i + n / 128 * 128 ^ (i + 1) = n * 128 ^ i := by
        rw [Nat.pow_succ, Nat.mul_comm (128 ^ i), ← Nat.mul_assoc, ← Nat.add_mul]
        congr 1
        omega
      rw [Nat.add_assoc, hs]
      simp only [List.length_cons, Option.some.injEq, Prod.mk.injEq, true_and]
      omega
theorem vgA_dec : ∀ (k i acc : Nat) (l : List UInt8) {n' kk : Nat}, i + k = 9 → vgA i acc (k + 1) l = some (n', kk) → ∃ n, n' = acc + n * 128 ^ i ∧ l = vintF k n ++ l.drop (kk - i) ∧ kk = i + (vintF k n).length ∧ (0 < i → 0 < n)
  | k, i, acc, [], n', kk, h, hv => by simp [vgA] at hv
  | k, i, acc, b :: l, n', kk, h, hv => by
    rw [vgA] at hv
    cases h1 : (i == 9 && decide (1 < b.toNat % 128)) with
    | true => rw [h1] at hv; simp at hv
    | false =>
      rw [h1] at hv
      cases h2 : (b.toNat == 0 && decide (0 < i)) with
      | true => rw [h2] at hv; simp at hv
      | false =>
        rw [h2] at hv
        simp only [cond_false] at hv
        by_cases hb : b.toNat < 128
        · simp only [hb, decide_true, cond_true, Option.some.injEq, Prod.mk.injEq] at hv
          obtain ⟨rfl, rfl⟩ := hv
          refine ⟨b.toNat, by rw [s7S_eq, Nat.mod_eq_of_lt hb], ?_, ?_, ?_⟩
          · rw [vintF_small hb, UInt8.ofNat_toNat, show i + 1 - i = 1 by omega]
            rfl
          · rw [vintF_small hb]; rfl
          · intro hi
            simp only [Bool.and_eq_false_iff, beq_eq_false_iff_ne, decide_eq_false_iff_not] at h2
            omega
        · simp only [hb, decide_false, cond_false] at hv
          cases k with
          | zero => simp [vgA] at hv
          | succ k =>
            have hk := vgA_k (k + 1) (i + 1) (acc + s7S b i) l (n' := n') (k := kk)
            obtain ⟨n1, e1, e2, e3, e4⟩ := vgA_dec k (i + 1) _ l (by omega) hv
            have hlt := u8_lt b
            have hn1 := e4 (by omega)
            have hbig : ¬ (b.toNat % 128 + 128 * n1 < 128) := by omega
            have em : (b.toNat % 128 + 128 * n1) % 128 = b.toNat % 128 := by omega
            have ed : (b.toNat % 128 + 128 * n1) / 128 = n1 := by omega
            have eb : UInt8.ofNat (b.toNat % 128 + 128) = b := by
              rw [← UInt8.toNat_inj, UInt8.toNat_ofNat']
              omega
            refine ⟨b.toNat % 128 + 128 * n1, ?_, ?_, ?_, fun _ => by omega⟩
            · rw [e1, s7S_eq, Nat.add_mul, Nat.pow_succ, Nat.mul_comm 128 n1, Nat.mul_assoc, Nat.mul_comm 128 (128 ^ i), Nat.add_assoc]
            · rw [vintF_big hbig, em, ed, eb, List.cons_append]
              have : kk - i = (kk - (i + 1)) + 1 := by omega
              rw [this, List.drop_succ_cons]
              exact congrArg _ e2
            · rw [vintF_big hbig, ed, List.length_cons, e3]
              omega
theorem get_enc (n : Nat) (hn : n < 18446744073709551616) (r : List UInt8) : getOk (vint n ++ r) = true ∧ getN (vint n ++ r) = n ∧ getK (vint n ++ r) = (vint n).length := by
  have := vgA_enc r 9 0 0 n rfl (by simpa using hn) (by simp)
  simp only [Nat.zero_add, Nat.pow_zero, Nat.mul_one] at this
  unfold getOk getN getK vget vint
  rw [this]
  exact ⟨rfl, rfl, rfl⟩
theorem get_dec {l : List UInt8} (h : getOk l = true) : l = vint (getN l) ++ l.drop (getK l) ∧ 0 < getK l := by
  have hd := vgA_dec 9 0 0 l (n' := getN l) (kk := getK l) rfl
  unfold getOk vget at h
  unfold getN getK vget at hd ⊢
  cases e : vgA 0 0 10 l with
  | none => rw [e] at h; cases h
  | some p =>
    rw [e] at hd
    obtain ⟨n, e1, e2, e3, _⟩ := hd rfl
    simp only [Nat.zero_add, Nat.pow_zero, Nat.mul_one, Nat.sub_zero] at e1 e2 e3
    simp only
    refine ⟨?_, ?_⟩
    · rw [e1]; exact e2
    · rw [e3]
      by_cases hb : n < 128
      · rw [vintF_small hb]; simp
      · rw [vintF_big hb]; simp

/-! ## What is read is what was written -/
structure Codec {α : Type} (V : RS → α) (S : RS → RS) (enc : α → List UInt8) (ok : α → Prop) : Prop where
  to : ∀ a r, ok a → V (enc a ++ r, false) = a ∧ S (enc a ++ r, false) = (r, false)
  fro : ∀ l, (S (l, false)).2 = false → ok (V (l, false)) ∧ l = enc (V (l, false)) ++ (S (l, false)).1
  bad : ∀ l, (S (l, true)).2 = true
/-- As dec, from any state. -/
theorem Codec.fro' {α : Type} {V : RS → α} {S : RS → RS} {enc : α → List UInt8} {ok : α → Prop} (c : Codec V S enc ok) {s : RS} (h : (S s).2 = false) : s.2 = false ∧ ok (V s) ∧ s.1 = enc (V s) ++ (S s).1 := by
  obtain ⟨l, b⟩ := s
  cases b with
  | true => rw [c.bad l] at h; cases h
  | false => exact ⟨rfl, c.fro l h⟩
theorem wideG {n : Int} (h : isU n) : n = ((n.toNat : Nat) : Int) ∧ n.toNat < 18446744073709551616 := by
  unfold isU at h
  omega
theorem wide_enc {n : Int} (h : isU n) (r : List UInt8) : wideV (vintI n ++ r, false) = n ∧ wideS (vintI n ++ r, false) = (r, false) ∧ rwS (vintI n ++ r, false) = (r, false) := by
  obtain ⟨h1, h2⟩ := wideG h
  obtain ⟨g1, g2, g3⟩ := get_enc n.toNat h2 r
  unfold wideV wideS rwS vintI
  simp only [g1, g2, g3, Bool.not_true, Bool.or_self, cond_false, List.drop_left]
  refine ⟨h1.symm, ?_, ?_⟩ <;> trivial
theorem wide_dec {l : List UInt8} (h : getOk l = true) : isU (wideV (l, false)) ∧ l = vintI (wideV (l, false)) ++ l.drop (getK l) := by
  have := getN_lt l
  unfold wideV
  simp only [h, Bool.not_true, Bool.or_self, cond_false]
  refine ⟨⟨by omega, by omega⟩, ?_⟩
  unfold vintI
  rw [Int.toNat_natCast]
  exact (get_dec h).1
theorem codWide : Codec wideV wideS vintI isU where
  to n r h := ⟨(wide_enc h r).1, (wide_enc h r).2.1⟩
  fro l h := by
    cases hg : getOk l with
    | false => unfold wideS badR at h; simp [hg] at h
    | true =>
      have := wide_dec hg
      refine ⟨this.1, ?_⟩
      have e : (wideS (l, false)).1 = l.drop (getK l) := by unfold wideS; simp [hg]
      rw [e]
      exact this.2
  bad l := by unfold wideS badR; simp
theorem codWideR : Codec wideV rwS vintI isU where
  to n r h := ⟨(wide_enc h r).1, (wide_enc h r).2.2⟩
  fro l h := by
    cases hg : getOk l with
    | false => unfold rwS at h; simp [hg] at h
    | true =>
      have := wide_dec hg
      refine ⟨this.1, ?_⟩
      have e : (rwS (l, false)).1 = l.drop (getK l) := by unfold rwS; simp [hg]
      rw [e]
      exact this.2
  bad l := by unfold rwS; simp
theorem codNum {top : Int} (ht : 0 ≤ top ∧ top ≤ 1000000000000000) : Codec (numV top) (numS top) vintI (fun n => 0 ≤ n ∧ n ≤ top) where
  to n r h := by
    obtain ⟨h1, h2⟩ := codWide.to n r ⟨h.1, by omega⟩
    unfold numV numS
    rw [h1, h2]
    have : decide (n > top) = false := by simpa using h.2
    simp [this]
  fro l h := by
    unfold numS at h
    cases hd : decide (wideV (l, false) > top) with
    | true => rw [hd] at h; unfold badR at h; simp at h
    | false =>
      rw [hd] at h
      obtain ⟨h1, h2⟩ := codWide.fro l h
      unfold numV numS
      rw [hd]
      refine ⟨⟨h1.1, by simpa using hd⟩, h2⟩
  bad l := by
    unfold numS badR
    cases decide (wideV (l, true) > top) with
    | true => rfl
    | false => exact codWide.bad l
theorem codNumR {top : Int} (ht : 0 ≤ top ∧ top ≤ 1000000000000000) : Codec (numV top) (rnS top) vintI (fun n => 0 ≤ n ∧ n ≤ top) where
  to n r h := by
    obtain ⟨h1, h2⟩ := codWideR.to n r ⟨h.1, by omega⟩
    unfold numV rnS
    rw [h1, h2]
    have : decide (n > top) = false := by simpa using h.2
    simp [this]
  fro l h := by
    unfold rnS at h
    cases hd : decide (wideV (l, false) > top) with
    | true => rw [hd] at h; simp at h
    | false =>
      rw [hd] at h
      obtain ⟨h1, h2⟩ := codWideR.fro l h
      unfold numV rnS
      rw [hd]
      refine ⟨⟨h1.1, by simpa using hd⟩, h2⟩
  bad l := by
    unfold rnS
    cases decide (wideV (l, true) > top) with
    | true => rfl
    | false => exact codWideR.bad l
theorem flag_num (b : Bool) : ((bif b then 1 else 0 : Int) == 1) = b := by cases b <;> rfl
theorem num_flag {n : Int} (h : 0 ≤ n ∧ n ≤ 1) : (bif n == 1 then 1 else 0) = n := by
  have : n = 0 ∨ n = 1 := by omega
  rcases this with rfl | rfl <;> rfl
theorem Codec.flag {S : RS → RS} (c : Codec (numV 1) S vintI (fun n => 0 ≤ n ∧ n ≤ 1)) : Codec (fun s => numV 1 s == 1) S flagB (fun _ => True) where
  to b r _ := by
    obtain ⟨h1, h2⟩ := c.to (bif b then 1 else 0) r (by cases b <;> simp)
    unfold flagB
    simp only [h1, h2, flag_num, and_self]
  fro l h := by
    obtain ⟨h1, h2⟩ := c.fro l h
    refine ⟨trivial, ?_⟩
    unfold flagB
    simp only [num_flag h1]
    exact h2
  bad := c.bad
/-- A text that can be written. -/
def okT (s : ByteArray) : Prop := isU (s.size : Int)
theorem ofB_data (s : ByteArray) : ofB s.data.toList = s := by
  unfold ofB
  rw [Array.toArray_toList]
theorem size_data (s : ByteArray) : s.data.toList.length = s.size := by rw [Array.length_toList]; rfl
theorem size_ofB (l : List UInt8) : (ofB l).size = l.length := by rw [← size_data]; simp [ofB]
theorem codText : Codec txtV txtS textB okT where
  to s r h := by
    have hu : isU (s.size : Int) := h
    obtain ⟨h1, h2⟩ := codWide.to (s.size : Int) (s.data.toList ++ r) hu
    have hl := size_data s
    have c1 : cntV (textB s ++ r, false) = (s.size : Int) ∧ cntS (textB s ++ r, false) = (s.data.toList ++ r, false) := by
      unfold cntV cntS textB
      rw [List.append_assoc, h1, h2]
      have : decide ((s.size : Int) > ((s.data.toList ++ r).length : Int)) = false := by
        simp only [decide_eq_false_iff_not, List.length_append]
        omega
      simp only [this, cond_false, and_self]
    unfold txtV txtS takeV takeS
    rw [c1.1, c1.2]
    have : decide ((s.size : Int) > ((s.data.toList ++ r).length : Int)) = false := by
      simp only [decide_eq_false_iff_not, List.length_append]
      omega
    simp only [this, Bool.or_self, cond_false, Int.toNat_natCast]
    rw [← hl, List.take_left, List.drop_left, ofB_data]
    exact ⟨rfl, rfl⟩
  fro l h := by
    unfold txtS takeS at h
    cases hb : (cntS (l, false)).2 || decide (cntV (l, false) > ((cntS (l, false)).1.length : Int)) with
    | true => rw [hb] at h; unfold badR at h; simp at h
    | false =>
      simp only [Bool.or_eq_false_iff] at hb
      have e1 : (cntS (l, false)) = wideS (l, false) ∧ cntV (l, false) = wideV (l, false) := by
        have h2 := hb.1
        unfold cntS at h2
        unfold cntS cntV
        cases hd : decide (wideV (l, false) > ((wideS (l, false)).1.length : Int)) with
        | true => rw [hd] at h2; unfold badR at h2; simp at h2
        | false => exact ⟨rfl, rfl⟩
      obtain ⟨k1, k2⟩ := codWide.fro l (by rw [← e1.1]; exact hb.1)
      have hle : wideV (l, false) ≤ ((wideS (l, false)).1.length : Int) := by
        have := hb.2
        rw [e1.1, e1.2] at this
        simpa using this
      have ev : txtV (l, false) = ofB ((wideS (l, false)).1.take (wideV (l, false)).toNat) := by
        unfold txtV takeV
        rw [hb.1, hb.2, e1.1, e1.2]
        rfl
      have es : (txtS (l, false)).1 = (wideS (l, false)).1.drop (wideV (l, false)).toNat := by
        unfold txtS takeS
        rw [hb.1, hb.2, e1.1, e1.2]
        rfl
      have hsz : ((ofB ((wideS (l, false)).1.take (wideV (l, false)).toNat)).size : Int) = wideV (l, false) := by
        rw [size_ofB, List.length_take]
        have := k1.1
        omega
      rw [ev, es]
      have hlen : (wideS (l, false)).1.length ≤ l.length := wideS_len _
      refine ⟨?_, ?_⟩
      · unfold okT
        rw [hsz]
        exact k1
      · unfold textB
        rw [hsz]
        have e2 : (ofB ((wideS (l, false)).1.take (wideV (l, false)).toNat)).data.toList = (wideS (l, false)).1.take (wideV (l, false)).toNat := by simp [ofB]
        rw [e2, List.append_assoc, List.take_append_drop]
        exact k2
  bad l := by
    have : (cntS (l, true)).2 = true := by
      unfold cntS badR
      cases decide (wideV (l, true) > ((wideS (l, true)).1.length : Int)) with
      | true => rfl
      | false => exact codWide.bad l
    unfold txtS takeS badR
    rw [this]
    rfl
end Go.Proofs.Ytdomjccibhgbjaa

/- Block, the plain law: texts, attributes and spans. -/
namespace Go.Proofs.Ytdomjccibhgbjaa
open E
set_option maxRecDepth 100000
set_option linter.unusedVariables false
set_option linter.unusedSimpArgs false

theorem codTextR : Codec rtV rtS textB okT where
  to s r h := by
    have hu : isU (s.size : Int) := h
    obtain ⟨h1, h2⟩ := wideG hu
    have e0 : ((s.size : Int)).toNat = s.size := by omega
    rw [e0] at h2
    obtain ⟨g1, g2, g3⟩ := get_enc s.size h2 (s.data.toList ++ r)
    have hl := size_data s
    have et : textB s ++ r = vint s.size ++ (s.data.toList ++ r) := by
      unfold textB vintI
      rw [e0, List.append_assoc]
    have ok : gtOk (textB s ++ r) = true := by
      unfold gtOk
      rw [et, g1, g2, g3]
      simp only [Bool.true_and, Bool.not_eq_true', decide_eq_false_iff_not, List.length_append]
      omega
    have e1 : (textB s ++ r).take ((vint s.size).length + s.size) = vint s.size ++ s.data.toList := by
      rw [et, ← List.append_assoc, ← hl, ← List.length_append, List.take_left]
    have e2 : (textB s ++ r).drop ((vint s.size).length + s.size) = r := by
      rw [et, ← List.append_assoc, ← hl, ← List.length_append, List.drop_left]
    have gN : getN (textB s ++ r) = s.size := by rw [et]; exact g2
    have gK : getK (textB s ++ r) = (vint s.size).length := by rw [et]; exact g3
    unfold rtV rtS gtV gtK
    simp only [ok, Bool.not_true, Bool.or_self, cond_false, cond_true, gN, gK, e1, e2, List.drop_left, ofB_data, and_self]
  fro l h := by
    cases hg : gtOk l with
    | false => unfold rtS at h; simp [hg] at h
    | true =>
      have hle := gtOk_le hg
      have hok : getOk l = true := by
        unfold gtOk at hg
        simp only [Bool.and_eq_true] at hg
        exact hg.1
      have hd := (get_dec hok).1
      have hn := getN_lt l
      have ev : rtV (l, false) = ofB ((l.take (getK l + getN l)).drop (getK l)) := by
        unfold rtV gtV
        simp [hg]
      have es : (rtS (l, false)).1 = l.drop (getK l + getN l) := by
        unfold rtS gtK
        simp [hg]
      have hsz : (ofB ((l.take (getK l + getN l)).drop (getK l))).size = getN l := by
        rw [size_ofB, List.length_drop, List.length_take]
        omega
      rw [ev, es]
      refine ⟨?_, ?_⟩
      · unfold okT
        rw [hsz]
        exact ⟨by omega, by omega⟩
      · unfold textB vintI
        rw [hsz, Int.toNat_natCast]
        have e2 : (ofB ((l.take (getK l + getN l)).drop (getK l))).data.toList = (l.take (getK l + getN l)).drop (getK l) := by simp [ofB]
        rw [e2, List.append_assoc]
        have e3 : (l.take (getK l + getN l)).drop (getK l) ++ l.drop (getK l + getN l) = l.drop (getK l) := by
          rw [List.drop_take, Nat.add_sub_cancel_left, ← List.drop_drop, List.take_append_drop]
        rw [e3]
        exact hd
  bad l := by unfold rtS; simp

/-! ## Rows of things -/
/-- So many, till something is wrong. -/
def loopF {α : Type} (V : RS → α) (S : RS → RS) : Nat → RS → List α → List α × RS
  | 0, q, R => (R, q)
  | k + 1, q, R => bif q.2 then (R, q) else loopF V S k (S q) (R ++ [V q])
/-- So many, whatever is wrong. -/
def loopN {α : Type} (V : RS → α) (S : RS → RS) : Nat → RS → List α → List α × RS
  | 0, q, R => (R, q)
  | k + 1, q, R => loopN V S k (S q) (R ++ [V q])
theorem loopF_to {α : Type} {V : RS → α} {S : RS → RS} {enc : α → List UInt8} {ok : α → Prop} (c : Codec V S enc ok) (r : List UInt8) : ∀ (ys : List α) (R : List α), (∀ a ∈ ys, ok a) → loopF V S ys.length (ys.flatMap enc ++ r, false) R = (R ++ ys, (r, false))
  | [], R, _ => by simp [loopF]
  | a :: ys, R, h => by
    obtain ⟨h1, h2⟩ := c.to a (ys.flatMap enc ++ r) (h a (List.mem_cons_self ..))
    rw [List.length_cons, loopF, List.flatMap_cons, List.append_assoc, h1, h2, cond_false, loopF_to c r ys _ (fun b hb => h b (List.mem_cons_of_mem _ hb)), List.append_assoc]
    rfl
theorem loopN_to {α : Type} {V : RS → α} {S : RS → RS} {enc : α → List UInt8} {ok : α → Prop} (c : Codec V S enc ok) (r : List UInt8) : ∀ (ys : List α) (R : List α), (∀ a ∈ ys, ok a) → loopN V S ys.length (ys.flatMap enc ++ r, false) R = (R ++ ys, (r, false))
  | [], R, _ => by simp [loopN]
  | a :: ys, R, h => by
    obtain ⟨h1, h2⟩ := c.to a (ys.flatMap enc ++ r) (h a (List.mem_cons_self ..))
    rw [List.length_cons, loopN, List.flatMap_cons, List.append_assoc, h1, h2, loopN_to c r ys _ (fun b hb => h b (List.mem_cons_of_mem _ hb)), List.append_assoc]
    rfl
theorem loopF_fro {α : Type} {V : RS → α} {S : RS → RS} {enc : α → List UInt8} {ok : α → Prop} (c : Codec V S enc ok) : ∀ (m : Nat) (q : RS) (R : List α), (loopF V S m q R).2.2 = false → q.2 = false ∧ ∃ ys, ys.length = m ∧ (loopF V S m q R).1 = R ++ ys ∧ (∀ a ∈ ys, ok a) ∧ q.1 = ys.flatMap enc ++ (loopF V S m q R).2.1
  | 0, q, R, h => ⟨h, [], rfl, by simp [loopF], by simp, by simp [loopF]⟩
  | m + 1, q, R, h => by
    rw [loopF] at h ⊢
    cases hq : q.2 with
    | true => rw [hq] at h; simp only [cond_true] at h; rw [hq] at h; cases h
    | false =>
      rw [hq] at h
      simp only [cond_false] at h ⊢
      obtain ⟨h1, ys, h2, h3, h4, h5⟩ := loopF_fro c m (S q) _ h
      obtain ⟨_, k1, k2⟩ := c.fro' h1
      refine ⟨trivial, V q :: ys, by simp [h2], by rw [h3, List.append_assoc]; rfl, ?_, ?_⟩
      · intro a ha
        rcases List.mem_cons.1 ha with rfl | ha
        · exact k1
        · exact h4 a ha
      · rw [k2, h5, List.flatMap_cons, List.append_assoc]
theorem loopN_fro {α : Type} {V : RS → α} {S : RS → RS} {enc : α → List UInt8} {ok : α → Prop} (c : Codec V S enc ok) : ∀ (m : Nat) (q : RS) (R : List α), (loopN V S m q R).2.2 = false → q.2 = false ∧ ∃ ys, ys.length = m ∧ (loopN V S m q R).1 = R ++ ys ∧ (∀ a ∈ ys, ok a) ∧ q.1 = ys.flatMap enc ++ (loopN V S m q R).2.1
  | 0, q, R, h => ⟨h, [], rfl, by simp [loopN], by simp, by simp [loopN]⟩
  | m + 1, q, R, h => by
    rw [loopN] at h ⊢
    obtain ⟨h1, ys, h2, h3, h4, h5⟩ := loopN_fro c m (S q) _ h
    obtain ⟨k0, k1, k2⟩ := c.fro' h1
    refine ⟨k0, V q :: ys, by simp [h2], by rw [h3, List.append_assoc]; rfl, ?_, ?_⟩
    · intro a ha
      rcases List.mem_cons.1 ha with rfl | ha
      · exact k1
      · exact h4 a ha
    · rw [k2, h5, List.flatMap_cons, List.append_assoc]
def okA (a : At) : Prop := okT a.key ∧ okT a.val
theorem codAtt {TV : RS → ByteArray} {TS : RS → RS} (c : Codec TV TS textB okT) : Codec (fun q => (⟨TV q, TV (TS q)⟩ : At)) (fun q => TS (TS q)) attB okA where
  to a r h := by
    have e : attB a ++ r = textB a.key ++ (textB a.val ++ r) := by unfold attB; simp
    rw [e]
    obtain ⟨h1, h2⟩ := c.to a.key (textB a.val ++ r) h.1
    obtain ⟨h3, h4⟩ := c.to a.val r h.2
    simp only [h1, h2, h3, h4, and_self]
  fro l h := by
    obtain ⟨h1, k1, e1⟩ := c.fro' h
    obtain ⟨_, k2, e2⟩ := c.fro' h1
    refine ⟨⟨k2, k1⟩, ?_⟩
    have e : ∀ a : At, attB a = textB a.key ++ textB a.val := by intro a; unfold attB; simp
    simp only at e2
    rw [e, List.append_assoc]
    simp only
    rw [← e1]
    exact e2
  bad l := by
    cases h : (TS (TS (l, true))).2 with
    | true => rfl
    | false =>
      have := (c.fro' (c.fro' h).1).1
      cases this

/-! ## Spans -/
structure Prim (W : RS → RS) (TV : RS → ByteArray) (TS : RS → RS) (NS : Int → RS → RS) : Prop where
  w : Codec wideV W vintI isU
  t : Codec TV TS textB okT
  n : ∀ top, 0 ≤ top ∧ top ≤ 1000000000000000 → Codec (numV top) (NS top) vintI (fun n => 0 ≤ n ∧ n ≤ top)
/-- A row of attributes, read. -/
structure AtsR (AF : Nat → RS → List At → List At × RS) : Prop where
  to : ∀ (ys : List At) (r : List UInt8) (R : List At), (∀ a ∈ ys, okA a) → AF ys.length (ys.flatMap attB ++ r, false) R = (R ++ ys, (r, false))
  fro : ∀ (m : Nat) (q : RS) (R : List At), (AF m q R).2.2 = false → q.2 = false ∧ ∃ ys, ys.length = m ∧ (AF m q R).1 = R ++ ys ∧ (∀ a ∈ ys, okA a) ∧ q.1 = ys.flatMap attB ++ (AF m q R).2.1
section
variable (W : RS → RS) (TV : RS → ByteArray) (TS : RS → RS) (NS : Int → RS → RS) (AF : Nat → RS → List At → List At × RS)
def g6 (s : RS) : RS := TS (TS (W (W (W (W s)))))
def g9 (s : RS) : RS := NS 1 (NS 1073741824 (NS 1099511627776 (g6 W TS s)))
def gR (s : RS) : List At × RS := AF (numV 4 (g9 W TS NS s)).toNat (NS 4 (g9 W TS NS s)) []
def gV (s : RS) : Sp := ⟨wideV s, wideV (W s), wideV (W (W s)), wideV (W (W (W s))), TV (W (W (W (W s)))), TV (TS (W (W (W (W s))))), numV 1099511627776 (g6 W TS s), numV 1073741824 (NS 1099511627776 (g6 W TS s)), numV 1 (NS 1073741824 (NS 1099511627776 (g6 W TS s))) == 1, (gR W TS NS AF s).1⟩
def gS (s : RS) : RS := ((gR W TS NS AF s).2.1, (gR W TS NS AF s).2.2 || !rightS (gV W TV TS NS AF s))
end
theorem spanB_app (s : Sp) (r : List UInt8) : spanB s ++ r = vintI s.hi ++ (vintI s.lo ++ (vintI s.id ++ (vintI s.par ++ (textB s.svc ++ (textB s.op ++ (vintI s.start ++ (vintI s.dur ++ (flagB s.err ++ (vintI (s.attrs.length : Int) ++ (s.attrs.flatMap attB ++ r)))))))))) := by
  unfold spanB spanH
  simp
theorem isU_small {n : Nat} (h : n ≤ 1000000000000000000) : isU (n : Int) := ⟨by omega, by omega⟩
theorem codSpanG {W : RS → RS} {TV : RS → ByteArray} {TS : RS → RS} {NS : Int → RS → RS} {AF : Nat → RS → List At → List At × RS} (p : Prim W TV TS NS) (ha : AtsR AF) : Codec (gV W TV TS NS AF) (gS W TV TS NS AF) spanB okS where
  to s r h := by
    obtain ⟨h1, h2, h3, h4, h5, h6⟩ := right_of h.2
    obtain ⟨⟨u1, u2, u3, u4⟩, hr⟩ := h
    rw [spanB_app]
    have a1 := fun r => (p.w.to s.hi r u1).1
    have b1 := fun r => (p.w.to s.hi r u1).2
    have a2 := fun r => (p.w.to s.lo r u2).1
    have b2 := fun r => (p.w.to s.lo r u2).2
    have a3 := fun r => (p.w.to s.id r u3).1
    have b3 := fun r => (p.w.to s.id r u3).2
    have a4 := fun r => (p.w.to s.par r u4).1
    have b4 := fun r => (p.w.to s.par r u4).2
    have a5 := fun r => (p.t.to s.svc r (isU_small (by omega))).1
    have b5 := fun r => (p.t.to s.svc r (isU_small (by omega))).2
    have a6 := fun r => (p.t.to s.op r (isU_small (by omega))).1
    have b6 := fun r => (p.t.to s.op r (isU_small (by omega))).2
    have a7 := fun r => ((p.n 1099511627776 (by decide)).to s.start r h3).1
    have b7 := fun r => ((p.n 1099511627776 (by decide)).to s.start r h3).2
    have a8 := fun r => ((p.n 1073741824 (by decide)).to s.dur r h4).1
    have b8 := fun r => ((p.n 1073741824 (by decide)).to s.dur r h4).2
    have a9 := fun r => ((p.n 1 (by decide)).to (bif s.err then 1 else 0) r (by cases s.err <;> simp)).1
    have b9 := fun r => ((p.n 1 (by decide)).to (bif s.err then 1 else 0) r (by cases s.err <;> simp)).2
    have a10 := fun r => ((p.n 4 (by decide)).to (s.attrs.length : Int) r (by omega)).1
    have b10 := fun r => ((p.n 4 (by decide)).to (s.attrs.length : Int) r (by omega)).2
    have at1 := ha.to s.attrs r [] (fun a q => ⟨isU_small (by have := (h6 a q).1; omega), isU_small (by have := (h6 a q).2; omega)⟩)
    have e6 : g6 W TS (vintI s.hi ++ (vintI s.lo ++ (vintI s.id ++ (vintI s.par ++ (textB s.svc ++ (textB s.op ++ (vintI s.start ++ (vintI s.dur ++ (flagB s.err ++ (vintI (s.attrs.length : Int) ++ (s.attrs.flatMap attB ++ r)))))))))), false) = (vintI s.start ++ (vintI s.dur ++ (flagB s.err ++ (vintI (s.attrs.length : Int) ++ (s.attrs.flatMap attB ++ r)))), false) := by
      unfold g6
      rw [b1, b2, b3, b4, b5, b6]
    have e9 : g9 W TS NS (vintI s.hi ++ (vintI s.lo ++ (vintI s.id ++ (vintI s.par ++ (textB s.svc ++ (textB s.op ++ (vintI s.start ++ (vintI s.dur ++ (flagB s.err ++ (vintI (s.attrs.length : Int) ++ (s.attrs.flatMap attB ++ r)))))))))), false) = (vintI (s.attrs.length : Int) ++ (s.attrs.flatMap attB ++ r), false) := by
      unfold g9
      rw [e6, b7, b8]
      unfold flagB
      rw [b9]
    have eR : gR W TS NS AF (vintI s.hi ++ (vintI s.lo ++ (vintI s.id ++ (vintI s.par ++ (textB s.svc ++ (textB s.op ++ (vintI s.start ++ (vintI s.dur ++ (flagB s.err ++ (vintI (s.attrs.length : Int) ++ (s.attrs.flatMap attB ++ r)))))))))), false) = (s.attrs, (r, false)) := by
      unfold gR
      rw [e9, a10, b10, Int.toNat_natCast, at1]
      rfl
    have eV : gV W TV TS NS AF (vintI s.hi ++ (vintI s.lo ++ (vintI s.id ++ (vintI s.par ++ (textB s.svc ++ (textB s.op ++ (vintI s.start ++ (vintI s.dur ++ (flagB s.err ++ (vintI (s.attrs.length : Int) ++ (s.attrs.flatMap attB ++ r)))))))))), false) = s := by
      unfold gV
      rw [eR, e6, b1, b2, b3, b4, b5, b7, b8, a1, a2, a3, a4, a5, a6, a7, a8]
      unfold flagB
      rw [a9, flag_num]
    refine ⟨eV, ?_⟩
    unfold gS
    rw [eV, eR, hr]
    rfl
  fro l h := by
    unfold gS at h
    simp only [Bool.or_eq_false_iff, Bool.not_eq_false'] at h
    obtain ⟨h, hr⟩ := h
    have hR : (gR W TS NS AF (l, false)) = AF (numV 4 (g9 W TS NS (l, false))).toNat (NS 4 (g9 W TS NS (l, false))) [] := rfl
    rw [hR] at h
    obtain ⟨c10, ys, k1, k2, k3, k4⟩ := ha.fro _ _ _ h
    obtain ⟨c9, n10, e10⟩ := (p.n 4 (by decide)).fro' c10
    obtain ⟨c8, n9, e9⟩ := (p.n 1 (by decide)).fro' c9
    obtain ⟨c7, n8, e8⟩ := (p.n 1073741824 (by decide)).fro' c8
    obtain ⟨c6, n7, e7⟩ := (p.n 1099511627776 (by decide)).fro' c7
    obtain ⟨c5, n6, e6⟩ := p.t.fro' c6
    obtain ⟨c4, n5, e5⟩ := p.t.fro' c5
    obtain ⟨c3, n4, e4⟩ := p.w.fro' c4
    obtain ⟨c2, n3, e3⟩ := p.w.fro' c3
    obtain ⟨c1, n2, e2⟩ := p.w.fro' c2
    obtain ⟨c0, n1, e1⟩ := p.w.fro' c1
    refine ⟨⟨⟨n1, n2, n3, n4⟩, hr⟩, ?_⟩
    rw [spanB_app]
    simp only at e1
    have ea : (gR W TS NS AF (l, false)).1 = ys := by rw [hR, k2]; rfl
    have el : ((gV W TV TS NS AF (l, false)).attrs.length : Int) = numV 4 (g9 W TS NS (l, false)) := by
      show ((gR W TS NS AF (l, false)).1.length : Int) = _
      rw [ea, k1]
      omega
    have ef : flagB (gV W TV TS NS AF (l, false)).err = vintI (numV 1 (NS 1073741824 (NS 1099511627776 (g6 W TS (l, false))))) := by
      show vintI (bif numV 1 (NS 1073741824 (NS 1099511627776 (g6 W TS (l, false)))) == 1 then 1 else 0) = _
      rw [num_flag n9]
    rw [el, ef]
    show l = vintI (wideV (l, false)) ++ (vintI (wideV (W (l, false))) ++ (vintI (wideV (W (W (l, false)))) ++ (vintI (wideV (W (W (W (l, false))))) ++ (textB (TV (W (W (W (W (l, false)))))) ++ (textB (TV (TS (W (W (W (W (l, false))))))) ++ (vintI (numV 1099511627776 (g6 W TS (l, false))) ++ (vintI (numV 1073741824 (NS 1099511627776 (g6 W TS (l, false)))) ++ (vintI (numV 1 (NS 1073741824 (NS 1099511627776 (g6 W TS (l, false))))) ++ (vintI (numV 4 (g9 W TS NS (l, false))) ++ ((gR W TS NS AF (l, false)).1.flatMap attB ++ (gR W TS NS AF (l, false)).2.1))))))))))
    rw [ea, hR, ← k4, ← e10]
    have e9' : (NS 1073741824 (NS 1099511627776 (g6 W TS (l, false)))).1 = vintI (numV 1 (NS 1073741824 (NS 1099511627776 (g6 W TS (l, false))))) ++ (g9 W TS NS (l, false)).1 := e9
    rw [← e9', ← e8, ← e7]
    have e6' : (TS (W (W (W (W (l, false)))))).1 = textB (TV (TS (W (W (W (W (l, false))))))) ++ (g6 W TS (l, false)).1 := e6
    rw [← e6', ← e5, ← e4, ← e3, ← e2]
    exact e1
  bad l := by
    cases h : (gS W TV TS NS AF (l, true)).2 with
    | true => rfl
    | false =>
      unfold gS at h
      simp only [Bool.or_eq_false_iff] at h
      obtain ⟨c10, _⟩ := ha.fro _ _ _ h.1
      have c6 := ((p.n 1099511627776 (by decide)).fro' ((p.n 1073741824 (by decide)).fro' ((p.n 1 (by decide)).fro' ((p.n 4 (by decide)).fro' c10).1).1).1).1
      have c0 := (p.w.fro' (p.w.fro' (p.w.fro' (p.w.fro' (p.t.fro' (p.t.fro' c6).1).1).1).1).1).1
      cases c0
theorem attsF_loop : ∀ (m : Nat) (q : RS) (R : List At), attsF m q R = loopN (fun q => (⟨txtV q, txtV (txtS q)⟩ : At)) (fun q => txtS (txtS q)) m q R
  | 0, q, R => rfl
  | m + 1, q, R => attsF_loop m _ _
theorem rattF_loop : ∀ (m : Nat) (q : RS) (R : List At), rattF m q R = loopF (fun q => (⟨rtV q, rtV (rtS q)⟩ : At)) (fun q => rtS (rtS q)) m q R
  | 0, q, R => rfl
  | m + 1, q, R => by rw [rattF, loopF, rattF_loop m _ _]
theorem atsP : AtsR attsF where
  to ys r R h := by rw [attsF_loop]; exact loopN_to (codAtt codText) r ys R h
  fro m q R h := by rw [attsF_loop] at h ⊢; exact loopN_fro (codAtt codText) m q R h
theorem atsR : AtsR rattF where
  to ys r R h := by rw [rattF_loop]; exact loopF_to (codAtt codTextR) r ys R h
  fro m q R h := by rw [rattF_loop] at h ⊢; exact loopF_fro (codAtt codTextR) m q R h
theorem primP : Prim wideS txtV txtS numS := ⟨codWide, codText, fun _ h => codNum h⟩
theorem primR : Prim rwS rtV rtS rnS := ⟨codWideR, codTextR, fun _ h => codNumR h⟩
/-- A span is read ys it was written, and just that. -/
theorem codSpan : Codec spanV spanS spanB okS := codSpanG primP atsP
theorem codSpanR : Codec rspV rspS spanB okS := codSpanG primR atsR
end Go.Proofs.Ytdomjccibhgbjaa

/- Block, the plain law: episodes and blocks. -/
namespace Go.Proofs.Ytdomjccibhgbjaa
open E
set_option maxRecDepth 100000
set_option linter.unusedVariables false
set_option linter.unusedSimpArgs false

def inE (n : Int) : Prop := 0 ≤ n ∧ n ≤ 1099511627776
theorem count_in {n : Int} (h : countB n = true) : inE n := by
  unfold countB withinB at h
  simp only [Bool.and_eq_true, decide_eq_true_eq] at h
  exact h
theorem inE_U {n : Int} (h : inE n) : isU n := ⟨h.1, by have := h.2; omega⟩
/-- An episode that can be written. -/
def oE (e : Ep) : Prop := isU e.hi ∧ isU e.lo ∧ inE e.first ∧ inE e.last ∧ ∀ s ∈ e.spans, okS s
theorem episode_in {e : Ep} (h : episodeB e = true) : inE e.first ∧ inE e.last ∧ ∀ s ∈ e.spans, rightS s = true := by
  have h3 := (episode_ok h).2.2
  unfold episodeB at h
  rw [epochB_all, allB_all] at h
  simp only [Bool.and_eq_true, List.all_eq_true] at h
  obtain ⟨⟨⟨h1, _⟩, h2⟩, _⟩ := h
  exact ⟨count_in (h1 _ (by simp)), count_in (h1 _ (by simp)), h3⟩

/-! ## How many -/
theorem cnt_to {n : Int} {r : List UInt8} (h : 0 ≤ n) (hr : n ≤ (r.length : Int)) (hu : n < 18446744073709551616) : cntV (vintI n ++ r, false) = n ∧ cntS (vintI n ++ r, false) = (r, false) := by
  obtain ⟨h1, h2⟩ := codWide.to n r ⟨h, hu⟩
  unfold cntV cntS
  rw [h1, h2]
  have : decide (n > (r.length : Int)) = false := by simpa using hr
  simp only [this, cond_false, and_self]
theorem cnt_fro {q : RS} (h : (cntS q).2 = false) : q.2 = false ∧ isU (cntV q) ∧ q.1 = vintI (cntV q) ++ (cntS q).1 := by
  unfold cntS at h
  unfold cntV cntS
  cases hd : decide (wideV q > ((wideS q).1.length : Int)) with
  | true => rw [hd] at h; unfold badR at h; simp at h
  | false =>
    rw [hd] at h
    exact codWide.fro' h
theorem vintI_pos (n : Int) : 1 ≤ (vintI n).length := by
  unfold vintI vint
  by_cases hb : n.toNat < 128
  · rw [vintF_small hb]; simp
  · rw [vintF_big hb]; simp
theorem flat_pos {α : Type} {f : α → List UInt8} (h : ∀ a, 1 ≤ (f a).length) : ∀ l : List α, l.length ≤ (l.flatMap f).length
  | [] => Nat.zero_le _
  | a :: l => by
    have := flat_pos h l
    have := h a
    simp only [List.length_cons, List.flatMap_cons, List.length_append]
    omega
theorem spanB_pos (s : Sp) : 1 ≤ (spanB s).length := by
  have := spanB_app s []
  rw [List.append_nil] at this
  rw [this, List.length_append]
  have := vintI_pos s.hi
  omega

/-! ## Episodes -/
theorem spansF_loop : ∀ (m : Nat) (q : RS) (R : List Sp), spansF m q R = loopF spanV spanS m q R
  | 0, q, R => rfl
  | m + 1, q, R => by rw [spansF, loopF, spansF_loop m _ _]
theorem rspF_loop : ∀ (m : Nat) (q : RS) (R : List Sp), rspF m q R = loopF rspV rspS m q R
  | 0, q, R => rfl
  | m + 1, q, R => by rw [rspF, loopF, rspF_loop m _ _]
theorem epB_app (e : Ep) (r : List UInt8) : epB e ++ r = vintI e.first ++ (vintI e.last ++ (flagB e.sure ++ (vintI (e.spans.length : Int) ++ (e.spans.flatMap spanB ++ r)))) := by
  unfold epB epH
  simp
theorem ep_to {e : Ep} (r : List UInt8) (h : oE e) (hb : episodeB e = true) (hn : e.spans.length ≤ 1000000000) : epV e.hi e.lo (epB e ++ r, false) = e ∧ epS e.hi e.lo (epB e ++ r, false) = (r, false) := by
  obtain ⟨h1, h2, h3, h4, h5⟩ := h
  rw [epB_app]
  have a1 := fun r => (codNum (top := 1099511627776) (by decide)).to e.first r h3
  have a2 := fun r => (codNum (top := 1099511627776) (by decide)).to e.last r h4
  have a3 := fun r => (codNum (top := 1) (by decide)).to (bif e.sure then 1 else 0) r (by cases e.sure <;> simp)
  have hp := flat_pos spanB_pos e.spans
  have a4 := cnt_to (n := (e.spans.length : Int)) (r := e.spans.flatMap spanB ++ r) (by omega) (by rw [List.length_append]; omega) (by omega)
  have a5 := loopF_to codSpan r e.spans [] h5
  have q1 : se1 (vintI e.first ++ (vintI e.last ++ (flagB e.sure ++ (vintI (e.spans.length : Int) ++ (e.spans.flatMap spanB ++ r)))), false) = (vintI e.last ++ (flagB e.sure ++ (vintI (e.spans.length : Int) ++ (e.spans.flatMap spanB ++ r))), false) := (a1 _).2
  have q2 : se2 (vintI e.first ++ (vintI e.last ++ (flagB e.sure ++ (vintI (e.spans.length : Int) ++ (e.spans.flatMap spanB ++ r)))), false) = (flagB e.sure ++ (vintI (e.spans.length : Int) ++ (e.spans.flatMap spanB ++ r)), false) := by
    unfold se2; rw [q1]; exact (a2 _).2
  have q3 : se3 (vintI e.first ++ (vintI e.last ++ (flagB e.sure ++ (vintI (e.spans.length : Int) ++ (e.spans.flatMap spanB ++ r)))), false) = (vintI (e.spans.length : Int) ++ (e.spans.flatMap spanB ++ r), false) := by
    unfold se3; rw [q2]; exact (a3 _).2
  have q4 : se4 (vintI e.first ++ (vintI e.last ++ (flagB e.sure ++ (vintI (e.spans.length : Int) ++ (e.spans.flatMap spanB ++ r)))), false) = (e.spans.flatMap spanB ++ r, false) := by
    unfold se4; rw [q3]; exact a4.2
  have v1 : epV e.hi e.lo (vintI e.first ++ (vintI e.last ++ (flagB e.sure ++ (vintI (e.spans.length : Int) ++ (e.spans.flatMap spanB ++ r)))), false) = e := by
    unfold epV epG
    rw [q1, q2, q3, q4, (a1 _).1, (a2 _).1, a4.1, Int.toNat_natCast, spansF_loop, a5]
    unfold flagB
    rw [(a3 _).1, flag_num]
    rfl
  refine ⟨v1, ?_⟩
  unfold epS epQ
  rw [v1, hb, q3, q4, a4.1, Int.toNat_natCast, spansF_loop, a5]
  rfl
theorem ep_fro {hi lo : Int} {q : RS} (h : (epS hi lo q).2 = false) : q.2 = false ∧ episodeB (epV hi lo q) = true ∧ (inE (epV hi lo q).first ∧ inE (epV hi lo q).last ∧ ∀ s ∈ (epV hi lo q).spans, okS s) ∧ q.1 = epB (epV hi lo q) ++ (epS hi lo q).1 := by
  unfold epS at h
  simp only [Bool.or_eq_false_iff, Bool.not_eq_false'] at h
  obtain ⟨h, hb⟩ := h
  have eQ : epQ q = (loopF spanV spanS (cntV (se3 q)).toNat (se4 q) []).2 := by unfold epQ; rw [spansF_loop]
  rw [eQ] at h
  obtain ⟨c4, ys, k1, k2, k3, k4⟩ := loopF_fro codSpan _ _ _ h
  obtain ⟨c3, n4, e4⟩ := cnt_fro c4
  obtain ⟨c2, n3, e3⟩ := (codNum (top := 1) (by decide)).fro' c3
  obtain ⟨c1, n2, e2⟩ := (codNum (top := 1099511627776) (by decide)).fro' c2
  obtain ⟨c0, n1, e1⟩ := (codNum (top := 1099511627776) (by decide)).fro' c1
  have eS : (epV hi lo q).spans = ys := by
    show (spansF (cntV (se3 q)).toNat (se4 q) []).1 = ys
    rw [spansF_loop, k2]
    rfl
  refine ⟨c0, hb, ⟨n1, n2, fun s hs => k3 s (by rw [← eS]; exact hs)⟩, ?_⟩
  rw [epB_app, eS]
  have el : (ys.length : Int) = cntV (se3 q) := by
    rw [k1]
    have := n4.1
    omega
  have ef : flagB (epV hi lo q).sure = vintI (numV 1 (se2 q)) := by
    show vintI (bif numV 1 (se2 q) == 1 then 1 else 0) = _
    rw [num_flag n3]
  rw [el, ef]
  show q.1 = vintI (numV 1099511627776 q) ++ (vintI (numV 1099511627776 (se1 q)) ++ (vintI (numV 1 (se2 q)) ++ (vintI (cntV (se3 q)) ++ (ys.flatMap spanB ++ (epQ q).1))))
  rw [eQ, ← k4]
  have e4' : (se3 q).1 = vintI (cntV (se3 q)) ++ (se4 q).1 := e4
  have e3' : (se2 q).1 = vintI (numV 1 (se2 q)) ++ (se3 q).1 := e3
  have e2' : (se1 q).1 = vintI (numV 1099511627776 (se1 q)) ++ (se2 q).1 := e2
  rw [← e4', ← e3', ← e2']
  exact e1
theorem rv_to {e : Ep} (r : List UInt8) (h : oE e) (hn : e.spans.length ≤ 1000000000) : rvV e.hi e.lo (epB e ++ r, false) = e ∧ rvS (epB e ++ r, false) = (r, false) := by
  obtain ⟨h1, h2, h3, h4, h5⟩ := h
  rw [epB_app]
  have a1 := fun r => (codNumR (top := 1099511627776) (by decide)).to e.first r h3
  have a2 := fun r => (codNumR (top := 1099511627776) (by decide)).to e.last r h4
  have a3 := fun r => (codNumR (top := 1) (by decide)).to (bif e.sure then 1 else 0) r (by cases e.sure <;> simp)
  have a4 := fun r => (codNumR (top := 1073741824) (by decide)).to (e.spans.length : Int) r (by omega)
  have a5 := loopF_to codSpanR r e.spans [] h5
  have q1 : rb1 (vintI e.first ++ (vintI e.last ++ (flagB e.sure ++ (vintI (e.spans.length : Int) ++ (e.spans.flatMap spanB ++ r)))), false) = (vintI e.last ++ (flagB e.sure ++ (vintI (e.spans.length : Int) ++ (e.spans.flatMap spanB ++ r))), false) := (a1 _).2
  have q2 : rb2 (vintI e.first ++ (vintI e.last ++ (flagB e.sure ++ (vintI (e.spans.length : Int) ++ (e.spans.flatMap spanB ++ r)))), false) = (flagB e.sure ++ (vintI (e.spans.length : Int) ++ (e.spans.flatMap spanB ++ r)), false) := by
    unfold rb2; rw [q1]; exact (a2 _).2
  have q3 : rb3 (vintI e.first ++ (vintI e.last ++ (flagB e.sure ++ (vintI (e.spans.length : Int) ++ (e.spans.flatMap spanB ++ r)))), false) = (vintI (e.spans.length : Int) ++ (e.spans.flatMap spanB ++ r), false) := by
    unfold rb3; rw [q2]; exact (a3 _).2
  have q4 : rb4 (vintI e.first ++ (vintI e.last ++ (flagB e.sure ++ (vintI (e.spans.length : Int) ++ (e.spans.flatMap spanB ++ r)))), false) = (e.spans.flatMap spanB ++ r, false) := by
    unfold rb4; rw [q3]; exact (a4 _).2
  have v1 : rvV e.hi e.lo (vintI e.first ++ (vintI e.last ++ (flagB e.sure ++ (vintI (e.spans.length : Int) ++ (e.spans.flatMap spanB ++ r)))), false) = e := by
    unfold rvV rvG
    rw [q1, q2, q3, q4, (a1 _).1, (a2 _).1, (a4 _).1, Int.toNat_natCast, rspF_loop, a5]
    unfold flagB
    rw [(a3 _).1, flag_num]
    rfl
  refine ⟨v1, ?_⟩
  unfold rvS
  rw [q3, q4, (a4 _).1, Int.toNat_natCast, rspF_loop, a5]
theorem rv_fro {hi lo : Int} {q : RS} (h : (rvS q).2 = false) : q.2 = false ∧ (inE (rvV hi lo q).first ∧ inE (rvV hi lo q).last ∧ ∀ s ∈ (rvV hi lo q).spans, okS s) ∧ q.1 = epB (rvV hi lo q) ++ (rvS q).1 := by
  have eQ : rvS q = (loopF rspV rspS (numV 1073741824 (rb3 q)).toNat (rb4 q) []).2 := by unfold rvS; rw [rspF_loop]
  rw [eQ] at h
  obtain ⟨c4, ys, k1, k2, k3, k4⟩ := loopF_fro codSpanR _ _ _ h
  obtain ⟨c3, n4, e4⟩ := (codNumR (top := 1073741824) (by decide)).fro' c4
  obtain ⟨c2, n3, e3⟩ := (codNumR (top := 1) (by decide)).fro' c3
  obtain ⟨c1, n2, e2⟩ := (codNumR (top := 1099511627776) (by decide)).fro' c2
  obtain ⟨c0, n1, e1⟩ := (codNumR (top := 1099511627776) (by decide)).fro' c1
  have eS : (rvV hi lo q).spans = ys := by
    show (rspF (numV 1073741824 (rb3 q)).toNat (rb4 q) []).1 = ys
    rw [rspF_loop, k2]
    rfl
  refine ⟨c0, ⟨n1, n2, fun s hs => k3 s (by rw [← eS]; exact hs)⟩, ?_⟩
  rw [epB_app, eS]
  have el : (ys.length : Int) = numV 1073741824 (rb3 q) := by
    rw [k1]
    have := n4.1
    omega
  have ef : flagB (rvV hi lo q).sure = vintI (numV 1 (rb2 q)) := by
    show vintI (bif numV 1 (rb2 q) == 1 then 1 else 0) = _
    rw [num_flag n3]
  rw [el, ef]
  show q.1 = vintI (numV 1099511627776 q) ++ (vintI (numV 1099511627776 (rb1 q)) ++ (vintI (numV 1 (rb2 q)) ++ (vintI (numV 1073741824 (rb3 q)) ++ (ys.flatMap spanB ++ (rvS q).1))))
  rw [eQ, ← k4]
  have e4' : (rb3 q).1 = vintI (numV 1073741824 (rb3 q)) ++ (rb4 q).1 := e4
  have e3' : (rb2 q).1 = vintI (numV 1 (rb2 q)) ++ (rb3 q).1 := e3
  have e2' : (rb1 q).1 = vintI (numV 1099511627776 (rb1 q)) ++ (rb2 q).1 := e2
  rw [← e4', ← e3', ← e2']
  exact e1

/-! ## The index -/
def encE (x : En) : List UInt8 := vintI x.hi ++ (vintI x.lo ++ vintI x.n)
def enOf (e : Ep) : En := ⟨e.hi, e.lo, ((epB e).length : Int)⟩
theorem entB_enc (e : Ep) : entB e = encE (enOf e) := by
  unfold entB encE enOf
  simp
theorem encE_app (x : En) (r : List UInt8) : encE x ++ r = vintI x.hi ++ (vintI x.lo ++ (vintI x.n ++ r)) := by
  unfold encE
  simp
theorem encE_pos (x : En) : 1 ≤ (encE x).length := by
  have := vintI_pos x.hi
  unfold encE
  rw [List.length_append]
  omega
theorem en_to (r : List UInt8) : ∀ (ys : List En) (R : List En), (∀ x ∈ ys, isU x.hi ∧ isU x.lo ∧ 0 ≤ x.n ∧ x.n ≤ (r.length : Int) ∧ x.n < 18446744073709551616) → enF ys.length (ys.flatMap encE ++ r, false) R = (R ++ ys, (r, false))
  | [], R, _ => by simp [enF]
  | x :: ys, R, h => by
    obtain ⟨u1, u2, u3, u4, u5⟩ := h x (List.mem_cons_self ..)
    have a1 := fun r => codWide.to x.hi r u1
    have a2 := fun r => codWide.to x.lo r u2
    have a3 := cnt_to (n := x.n) (r := ys.flatMap encE ++ r) u3 (by rw [List.length_append]; omega) u5
    have e1 : entV (vintI x.hi ++ (vintI x.lo ++ (vintI x.n ++ (ys.flatMap encE ++ r))), false) = x := by
      unfold entV
      rw [(a1 _).1, (a1 _).2, (a2 _).1, (a2 _).2, a3.1]
    have e2 : entS (vintI x.hi ++ (vintI x.lo ++ (vintI x.n ++ (ys.flatMap encE ++ r))), false) = (ys.flatMap encE ++ r, false) := by
      unfold entS
      rw [(a1 _).2, (a2 _).2, a3.2]
    rw [List.length_cons, enF, List.flatMap_cons, List.append_assoc, encE_app, e1, e2, cond_false, en_to r ys _ (fun y hy => h y (List.mem_cons_of_mem _ hy)), List.append_assoc]
    rfl
theorem en_fro : ∀ (m : Nat) (q : RS) (R : List En), (enF m q R).2.2 = false → q.2 = false ∧ ∃ ys, ys.length = m ∧ (enF m q R).1 = R ++ ys ∧ (∀ x ∈ ys, isU x.hi ∧ isU x.lo ∧ 0 ≤ x.n) ∧ q.1 = ys.flatMap encE ++ (enF m q R).2.1
  | 0, q, R, h => ⟨h, [], rfl, by simp [enF], by simp, by simp [enF]⟩
  | m + 1, q, R, h => by
    rw [enF] at h ⊢
    cases hq : q.2 with
    | true => rw [hq] at h; simp only [cond_true] at h; rw [hq] at h; cases h
    | false =>
      rw [hq] at h
      simp only [cond_false] at h ⊢
      obtain ⟨h1, ys, h2, h3, h4, h5⟩ := en_fro m (entS q) _ h
      obtain ⟨c2, n3, e3⟩ := cnt_fro h1
      obtain ⟨c1, n2, e2⟩ := codWide.fro' c2
      obtain ⟨_, n1, e1⟩ := codWide.fro' c1
      refine ⟨trivial, entV q :: ys, by simp [h2], by rw [h3, List.append_assoc]; rfl, ?_, ?_⟩
      · intro x hx
        rcases List.mem_cons.1 hx with rfl | hx
        · exact ⟨n1, n2, n3.1⟩
        · exact h4 x hx
      · rw [List.flatMap_cons, List.append_assoc, encE_app, ← h5]
        show q.1 = vintI (wideV q) ++ (vintI (wideV (wideS q)) ++ (vintI (cntV (wideS (wideS q))) ++ (entS q).1))
        have e3' : (wideS (wideS q)).1 = vintI (cntV (wideS (wideS q))) ++ (entS q).1 := e3
        rw [← e3', ← e2]
        exact e1

/-! ## Bodies -/
theorem take_fro {n : Int} {q : RS} (h0 : 0 ≤ n) (h : (takeS n q).2 = false) : q.2 = false ∧ n ≤ (q.1.length : Int) ∧ takeV n q = q.1.take n.toNat ∧ (takeS n q).1 = q.1.drop n.toNat := by
  unfold takeS at h
  cases hb : q.2 || decide (n > (q.1.length : Int)) with
  | true => rw [hb] at h; unfold badR at h; simp at h
  | false =>
    unfold takeV takeS
    rw [hb]
    simp only [Bool.or_eq_false_iff, decide_eq_false_iff_not] at hb
    exact ⟨hb.1, by omega, rfl, rfl⟩
theorem eps_to (r : List UInt8) : ∀ (es : List Ep) (R : List Ep), (∀ e ∈ es, oE e ∧ episodeB e = true ∧ e.spans.length ≤ 1000000000) → epsF (es.map enOf) (es.flatMap epB ++ r, false) R = (R ++ es, (r, false))
  | [], R, _ => by simp [epsF]
  | e :: es, R, h => by
    obtain ⟨h1, h2, h3⟩ := h e (List.mem_cons_self ..)
    obtain ⟨k1, k2⟩ := ep_to [] h1 h2 h3
    rw [List.append_nil] at k1 k2
    have hd : decide ((enOf e).n > ((epB e ++ (es.flatMap epB ++ r)).length : Int)) = false := by
      simp only [enOf, decide_eq_false_iff_not, List.length_append]
      omega
    have t1 : takeV (enOf e).n (epB e ++ (es.flatMap epB ++ r), false) = epB e := by
      unfold takeV
      simp only [hd, Bool.or_self, cond_false]
      simp only [enOf, Int.toNat_natCast, List.take_left]
    have t2 : takeS (enOf e).n (epB e ++ (es.flatMap epB ++ r), false) = (es.flatMap epB ++ r, false) := by
      unfold takeS
      simp only [hd, Bool.or_self, cond_false]
      simp only [enOf, Int.toNat_natCast, List.drop_left]
    have b1 : bodS (enOf e) (epB e ++ (es.flatMap epB ++ r), false) = (es.flatMap epB ++ r, false) := by
      unfold bodS
      rw [t1, t2]
      show (_, _ || (epS e.hi e.lo (epB e, false)).2 || decide (0 < (epS e.hi e.lo (epB e, false)).1.length)) = _
      rw [k2]
      rfl
    rw [List.map_cons, epsF, List.flatMap_cons, List.append_assoc, b1, t1]
    show epsF (es.map enOf) _ (R ++ [epV e.hi e.lo (epB e, false)]) = _
    rw [k1, eps_to r es _ (fun y hy => h y (List.mem_cons_of_mem _ hy)), List.append_assoc]
    rfl
theorem eps_fro : ∀ (xs : List En) (q : RS) (R : List Ep), (∀ x ∈ xs, isU x.hi ∧ isU x.lo ∧ 0 ≤ x.n) → (epsF xs q R).2.2 = false → q.2 = false ∧ ∃ es, (epsF xs q R).1 = R ++ es ∧ xs = es.map enOf ∧ (∀ e ∈ es, oE e ∧ episodeB e = true) ∧ q.1 = es.flatMap epB ++ (epsF xs q R).2.1
  | [], q, R, _, h => ⟨h, [], by simp [epsF], rfl, by simp, by simp [epsF]⟩
  | x :: xs, q, R, hx, h => by
    rw [epsF] at h ⊢
    obtain ⟨h1, es, h2, h3, h4, h5⟩ := eps_fro xs _ _ (fun y hy => hx y (List.mem_cons_of_mem _ hy)) h
    obtain ⟨u1, u2, u3⟩ := hx x (List.mem_cons_self ..)
    have hb : ((takeS x.n q).2 || (epS x.hi x.lo (takeV x.n q, false)).2 || decide (0 < (epS x.hi x.lo (takeV x.n q, false)).1.length)) = false := h1
    simp only [Bool.or_eq_false_iff, decide_eq_false_iff_not] at hb
    obtain ⟨⟨b1, b2⟩, b3⟩ := hb
    obtain ⟨c0, t1, t2, t3⟩ := take_fro u3 b1
    obtain ⟨_, p1, p2, p3⟩ := ep_fro b2
    have hnil : (epS x.hi x.lo (takeV x.n q, false)).1 = [] := List.length_eq_zero_iff.1 (by omega)
    rw [hnil, List.append_nil] at p3
    simp only at p3
    have hlen : x.n = ((epB (epV x.hi x.lo (takeV x.n q, false))).length : Int) := by
      rw [← p3, t2, List.length_take]
      omega
    refine ⟨c0, epV x.hi x.lo (takeV x.n q, false) :: es, by rw [h2, List.append_assoc]; rfl, ?_, ?_, ?_⟩
    · rw [List.map_cons, h3]
      congr 1
      show x = ⟨x.hi, x.lo, _⟩
      rw [← hlen]
    · intro e he
      rcases List.mem_cons.1 he with rfl | he
      · exact ⟨⟨u1, u2, p2.1, p2.2.1, p2.2.2⟩, p1⟩
      · exact h4 e he
    · rw [List.flatMap_cons, List.append_assoc, ← h5, ← p3]
      show q.1 = takeV x.n q ++ (takeS x.n q).1
      rw [t2, t3, List.take_append_drop]
end Go.Proofs.Ytdomjccibhgbjaa

/- Block, the plain law: a block is read as it was written, and nothing else is one. -/
namespace Go.Proofs.Ytdomjccibhgbjaa
open E
set_option maxRecDepth 100000
set_option linter.unusedVariables false
set_option linter.unusedSimpArgs false

/-- A block that can be written. -/
def okB (b : Bk) : Prop := rightM b = true ∧ b.eps.length ≤ 1000000000 ∧ (b.eps.flatMap epB).length < 1000000000000 ∧ ∀ e ∈ b.eps, isU e.hi ∧ isU e.lo ∧ e.spans.length ≤ 1000000000 ∧ ∀ s ∈ e.spans, wfS s
theorem rightM_in {b : Bk} (h : rightM b = true) : inE b.num ∧ inE b.born ∧ inE b.tier ∧ ∀ e ∈ b.eps, episodeB e = true := by
  have h4 := (rightM_num h).2.2.2
  rw [← rightB_eq] at h
  unfold rightB at h
  simp only [Bool.and_eq_true] at h
  exact ⟨count_in h.2.1.1, count_in h.2.1.2, count_in h.2.2, h4⟩
theorem okB_ep {b : Bk} (h : okB b) : ∀ e ∈ b.eps, oE e ∧ episodeB e = true ∧ e.spans.length ≤ 1000000000 := by
  intro e he
  have hb := (rightM_in h.1).2.2.2 e he
  obtain ⟨k1, k2, k3⟩ := episode_in hb
  obtain ⟨u1, u2, u3, u4⟩ := h.2.2.2 e he
  exact ⟨⟨u1, u2, k1, k2, fun s hs => ⟨u4 s hs, k3 s hs⟩⟩, hb, u3⟩
theorem bodyB_app (b : Bk) : bodyB b = vintI b.num ++ (vintI b.born ++ (vintI b.tier ++ (vintI (b.eps.length : Int) ++ ((b.eps.map enOf).flatMap encE ++ (b.eps.flatMap epB ++ []))))) := by
  have e : ∀ l : List Ep, l.flatMap entB = (l.map enOf).flatMap encE := by
    intro l
    induction l with
    | nil => rfl
    | cons x l ih => rw [List.flatMap_cons, List.map_cons, List.flatMap_cons, ih, entB_enc]
  unfold bodyB headB
  rw [e]
  simp
theorem epB_le_flat {e : Ep} : ∀ {l : List Ep}, e ∈ l → (epB e).length ≤ (l.flatMap epB).length
  | [], h => by cases h
  | x :: l, h => by
    rw [List.flatMap_cons, List.length_append]
    rcases List.mem_cons.1 h with rfl | h
    · omega
    · have := epB_le_flat h
      omega
theorem blk_to {b : Bk} (h : okB b) : blkV (bodyB b, false) = b ∧ blkQ (bodyB b, false) = ([], false) := by
  obtain ⟨h1, h2, h3, h4⟩ := rightM_in h.1
  have he := okB_ep h
  rw [bodyB_app]
  have a1 := fun r => (codNum (top := 1099511627776) (by decide)).to b.num r h1
  have a2 := fun r => (codNum (top := 1099511627776) (by decide)).to b.born r h2
  have a3 := fun r => (codNum (top := 1099511627776) (by decide)).to b.tier r h3
  have hp := flat_pos encE_pos (b.eps.map enOf)
  rw [List.length_map] at hp
  have hn := h.2.1
  have a4 := cnt_to (n := (b.eps.length : Int)) (r := (b.eps.map enOf).flatMap encE ++ (b.eps.flatMap epB ++ [])) (by omega) (by rw [List.length_append]; omega) (by omega)
  have a5 := en_to (b.eps.flatMap epB ++ []) (b.eps.map enOf) [] (by
    intro x hx
    obtain ⟨e, he', rfl⟩ := List.mem_map.1 hx
    have := epB_le_flat he'
    have hl := h.2.2.1
    obtain ⟨o1, _, _⟩ := he e he'
    refine ⟨o1.1, o1.2.1, by simp only [enOf]; omega, ?_, ?_⟩
    · simp only [enOf, List.append_nil]; omega
    · simp only [enOf]; omega)
  rw [List.length_map] at a5
  have a6 := eps_to [] b.eps [] he
  have q3 : rdN3 (vintI b.num ++ (vintI b.born ++ (vintI b.tier ++ (vintI (b.eps.length : Int) ++ ((b.eps.map enOf).flatMap encE ++ (b.eps.flatMap epB ++ []))))), false) = (vintI (b.eps.length : Int) ++ ((b.eps.map enOf).flatMap encE ++ (b.eps.flatMap epB ++ [])), false) := by
    unfold rdN3 rdN2 rdN1
    rw [(a1 _).2, (a2 _).2, (a3 _).2]
  have q1 : rdN1 (vintI b.num ++ (vintI b.born ++ (vintI b.tier ++ (vintI (b.eps.length : Int) ++ ((b.eps.map enOf).flatMap encE ++ (b.eps.flatMap epB ++ []))))), false) = (vintI b.born ++ (vintI b.tier ++ (vintI (b.eps.length : Int) ++ ((b.eps.map enOf).flatMap encE ++ (b.eps.flatMap epB ++ [])))), false) := (a1 _).2
  have q2 : rdN2 (vintI b.num ++ (vintI b.born ++ (vintI b.tier ++ (vintI (b.eps.length : Int) ++ ((b.eps.map enOf).flatMap encE ++ (b.eps.flatMap epB ++ []))))), false) = (vintI b.tier ++ (vintI (b.eps.length : Int) ++ ((b.eps.map enOf).flatMap encE ++ (b.eps.flatMap epB ++ []))), false) := by
    unfold rdN2; rw [q1]; exact (a2 _).2
  have ev : enV (vintI (b.eps.length : Int) ++ ((b.eps.map enOf).flatMap encE ++ (b.eps.flatMap epB ++ [])), false) = b.eps.map enOf := by
    unfold enV
    rw [a4.1, a4.2, Int.toNat_natCast, a5]
    rfl
  have es : enS (vintI (b.eps.length : Int) ++ ((b.eps.map enOf).flatMap encE ++ (b.eps.flatMap epB ++ [])), false) = (b.eps.flatMap epB ++ [], false) := by
    unfold enS
    rw [a4.1, a4.2, Int.toNat_natCast, a5]
  constructor
  · unfold blkV
    rw [q3, q1, q2, (a1 _).1, (a2 _).1, (a3 _).1, ev, es, a6]
    rfl
  · unfold blkQ
    rw [q3, ev, es, a6]
theorem blk_fro {l : List UInt8} (h : readOk (l, false) = true) : rightM (blkV (l, false)) = true ∧ l = bodyB (blkV (l, false)) ∧ ∀ e ∈ (blkV (l, false)).eps, oE e := by
  unfold readOk at h
  simp only [Bool.and_eq_true, Bool.not_eq_true', decide_eq_false_iff_not] at h
  obtain ⟨⟨h1, h2⟩, h3⟩ := h
  have hQ : blkQ (l, false) = (epsF (enV (rdN3 (l, false))) (enS (rdN3 (l, false))) []).2 := rfl
  have hV : (blkV (l, false)).eps = (epsF (enV (rdN3 (l, false))) (enS (rdN3 (l, false))) []).1 := rfl
  have hs : (enS (rdN3 (l, false))).2 = false ∧ True := by
    refine ⟨?_, trivial⟩
    cases hb : (enS (rdN3 (l, false))).2 with
    | false => rfl
    | true =>
      exfalso
      have key : ∀ (xs : List En) (q : RS) (R : List Ep), q.2 = true → (epsF xs q R).2.2 = true := by
        intro xs
        induction xs with
        | nil => intro q R h; exact h
        | cons x xs ih =>
          intro q R h
          rw [epsF]
          refine ih _ _ ?_
          unfold bodS takeS
          simp [h, badR]
      have := key (enV (rdN3 (l, false))) (enS (rdN3 (l, false))) [] hb
      rw [← hQ, h1] at this
      cases this
  obtain ⟨c4, ys, k1, k2, k3, k4⟩ := en_fro _ _ _ hs.1
  have kV : enV (rdN3 (l, false)) = ys := by
    show (enF (cntV (rdN3 (l, false))).toNat (cntS (rdN3 (l, false))) []).1 = ys
    rw [k2]
    rfl
  rw [hQ, kV] at h1
  obtain ⟨_, es, e1, e2, e3, e4⟩ := eps_fro ys _ _ k3 h1
  obtain ⟨c3, n4, e5⟩ := cnt_fro c4
  obtain ⟨c2, n3, e6⟩ := (codNum (top := 1099511627776) (by decide)).fro' c3
  obtain ⟨c1, n2, e7⟩ := (codNum (top := 1099511627776) (by decide)).fro' c2
  obtain ⟨c0, n1, e8⟩ := (codNum (top := 1099511627776) (by decide)).fro' c1
  have hE : (blkV (l, false)).eps = es := by rw [hV, kV, e1]; rfl
  have hnil : (blkQ (l, false)).1 = [] := List.length_eq_zero_iff.1 (by omega)
  rw [hQ, kV] at hnil
  refine ⟨h3, ?_, fun e he => (e3 e (by rw [← hE]; exact he)).1⟩
  rw [bodyB_app, hE]
  have el : (es.length : Int) = cntV (rdN3 (l, false)) := by
    have : ys.length = es.length := by rw [e2, List.length_map]
    rw [← this, k1]
    have := n4.1
    omega
  rw [el, ← e2, ← hnil, ← e4]
  show l = vintI (numV 1099511627776 (l, false)) ++ (vintI (numV 1099511627776 (rdN1 (l, false))) ++ (vintI (numV 1099511627776 (rdN2 (l, false))) ++ (vintI (cntV (rdN3 (l, false))) ++ (ys.flatMap encE ++ (enS (rdN3 (l, false))).1))))
  have k4' : (cntS (rdN3 (l, false))).1 = ys.flatMap encE ++ (enS (rdN3 (l, false))).1 := k4
  rw [← k4', ← e5]
  have e6' : (rdN2 (l, false)).1 = vintI (numV 1099511627776 (rdN2 (l, false))) ++ (rdN3 (l, false)).1 := e6
  have e7' : (rdN1 (l, false)).1 = vintI (numV 1099511627776 (rdN1 (l, false))) ++ (rdN2 (l, false)).1 := e7
  rw [← e6', ← e7']
  exact e8

/-! ## The reference -/
def trOf (e : Ep) : Tr := ⟨e.hi, e.lo⟩
def toTr (x : En) : Tr := ⟨x.hi, x.lo⟩
def enR (q : RS) : En := ⟨wideV q, wideV (rwS q), wideV (rwS (rwS q))⟩
def okN (x : En) : Prop := isU x.hi ∧ isU x.lo ∧ isU x.n
theorem codEnR : Codec enR rtr3 encE okN where
  to x r h := by
    obtain ⟨u1, u2, u3⟩ := h
    rw [encE_app]
    have a1 := fun r => codWideR.to x.hi r u1
    have a2 := fun r => codWideR.to x.lo r u2
    have a3 := fun r => codWideR.to x.n r u3
    unfold enR rtr3
    rw [(a1 _).1, (a1 _).2, (a2 _).1, (a2 _).2, (a3 _).1, (a3 _).2]
    exact ⟨rfl, rfl⟩
  fro l h := by
    obtain ⟨c2, n3, e3⟩ := codWideR.fro' h
    obtain ⟨c1, n2, e2⟩ := codWideR.fro' c2
    obtain ⟨_, n1, e1⟩ := codWideR.fro' c1
    refine ⟨⟨n1, n2, n3⟩, ?_⟩
    rw [encE_app]
    show l = vintI (wideV (l, false)) ++ (vintI (wideV (rwS (l, false))) ++ (vintI (wideV (rwS (rwS (l, false)))) ++ (rtr3 (l, false)).1))
    have e3' : (rwS (rwS (l, false))).1 = vintI (wideV (rwS (rwS (l, false)))) ++ (rtr3 (l, false)).1 := e3
    rw [← e3', ← e2]
    exact e1
  bad l := by
    cases h : (rtr3 (l, true)).2 with
    | true => rfl
    | false =>
      have := (codWideR.fro' (codWideR.fro' (codWideR.fro' h).1).1).1
      cases this
theorem rtrF_loop : ∀ (m : Nat) (q : RS) (T : List Tr) (R : List En), rtrF m q (T ++ R.map toTr) = (T ++ (loopF enR rtr3 m q R).1.map toTr, (loopF enR rtr3 m q R).2)
  | 0, q, T, R => rfl
  | m + 1, q, T, R => by
    rw [rtrF, loopF]
    cases q.2 with
    | true => rfl
    | false =>
      simp only [cond_false]
      have := rtrF_loop m (rtr3 q) T (R ++ [enR q])
      rw [List.map_append, ← List.append_assoc] at this
      exact this
theorem rep_to (r : List UInt8) : ∀ (es : List Ep) (R : List Ep), (∀ e ∈ es, oE e ∧ e.spans.length ≤ 1000000000) → repF (es.map trOf) (es.flatMap epB ++ r, false) R = (R ++ es, (r, false))
  | [], R, _ => by simp [repF]
  | e :: es, R, h => by
    obtain ⟨h1, h3⟩ := h e (List.mem_cons_self ..)
    obtain ⟨k1, k2⟩ := rv_to (es.flatMap epB ++ r) h1 h3
    rw [List.map_cons, repF, List.flatMap_cons, List.append_assoc, k2, cond_false]
    show repF (es.map trOf) _ (R ++ [rvV e.hi e.lo _]) = _
    rw [k1, rep_to r es _ (fun y hy => h y (List.mem_cons_of_mem _ hy)), List.append_assoc]
    rfl
theorem rep_fro : ∀ (ts : List Tr) (q : RS) (R : List Ep), (∀ t ∈ ts, isU t.hi ∧ isU t.lo) → (repF ts q R).2.2 = false → q.2 = false ∧ ∃ es, (repF ts q R).1 = R ++ es ∧ es.length = ts.length ∧ (∀ e ∈ es, oE e) ∧ q.1 = es.flatMap epB ++ (repF ts q R).2.1
  | [], q, R, _, h => ⟨h, [], by simp [repF], rfl, by simp, by simp [repF]⟩
  | t :: ts, q, R, ht, h => by
    rw [repF] at h ⊢
    cases hq : q.2 with
    | true => rw [hq] at h; simp only [cond_true] at h; rw [hq] at h; cases h
    | false =>
      rw [hq] at h
      simp only [cond_false] at h ⊢
      obtain ⟨h1, es, h2, h3, h4, h5⟩ := rep_fro ts _ _ (fun y hy => ht y (List.mem_cons_of_mem _ hy)) h
      obtain ⟨u1, u2⟩ := ht t (List.mem_cons_self ..)
      obtain ⟨_, p2, p3⟩ := rv_fro (hi := t.hi) (lo := t.lo) h1
      refine ⟨trivial, rvV t.hi t.lo q :: es, by rw [h2, List.append_assoc]; rfl, by simp [h3], ?_, ?_⟩
      · intro e he
        rcases List.mem_cons.1 he with rfl | he
        · exact ⟨u1, u2, p2.1, p2.2.1, p2.2.2⟩
        · exact h4 e he
      · rw [List.flatMap_cons, List.append_assoc, ← h5]
        exact p3
theorem rbk_to {b : Bk} (h : okB b) : rbkV (bodyB b, false) = b ∧ rbkQ (bodyB b, false) = ([], false) := by
  obtain ⟨h1, h2, h3, h4⟩ := rightM_in h.1
  have he := okB_ep h
  rw [bodyB_app]
  have a1 := fun r => (codNumR (top := 1099511627776) (by decide)).to b.num r h1
  have a2 := fun r => (codNumR (top := 1099511627776) (by decide)).to b.born r h2
  have a3 := fun r => (codNumR (top := 1099511627776) (by decide)).to b.tier r h3
  have hn := h.2.1
  have a4 := fun r => (codNumR (top := 1073741824) (by decide)).to (b.eps.length : Int) r (by omega)
  have a5 := loopF_to codEnR (b.eps.flatMap epB ++ []) (b.eps.map enOf) [] (by
    intro x hx
    obtain ⟨e, he', rfl⟩ := List.mem_map.1 hx
    have := epB_le_flat he'
    have hl := h.2.2.1
    obtain ⟨o1, _, _⟩ := he e he'
    exact ⟨o1.1, o1.2.1, by simp only [enOf]; exact ⟨by omega, by omega⟩⟩)
  rw [List.length_map] at a5
  have a6 := rep_to [] b.eps [] (fun e q => ⟨(he e q).1, (he e q).2.2⟩)
  have q1 : rk1 (vintI b.num ++ (vintI b.born ++ (vintI b.tier ++ (vintI (b.eps.length : Int) ++ ((b.eps.map enOf).flatMap encE ++ (b.eps.flatMap epB ++ []))))), false) = (vintI b.born ++ (vintI b.tier ++ (vintI (b.eps.length : Int) ++ ((b.eps.map enOf).flatMap encE ++ (b.eps.flatMap epB ++ [])))), false) := (a1 _).2
  have q2 : rk2 (vintI b.num ++ (vintI b.born ++ (vintI b.tier ++ (vintI (b.eps.length : Int) ++ ((b.eps.map enOf).flatMap encE ++ (b.eps.flatMap epB ++ []))))), false) = (vintI b.tier ++ (vintI (b.eps.length : Int) ++ ((b.eps.map enOf).flatMap encE ++ (b.eps.flatMap epB ++ []))), false) := by
    unfold rk2; rw [q1]; exact (a2 _).2
  have q3 : rk3 (vintI b.num ++ (vintI b.born ++ (vintI b.tier ++ (vintI (b.eps.length : Int) ++ ((b.eps.map enOf).flatMap encE ++ (b.eps.flatMap epB ++ []))))), false) = (vintI (b.eps.length : Int) ++ ((b.eps.map enOf).flatMap encE ++ (b.eps.flatMap epB ++ [])), false) := by
    unfold rk3; rw [q2]; exact (a3 _).2
  have q4 : rk4 (vintI b.num ++ (vintI b.born ++ (vintI b.tier ++ (vintI (b.eps.length : Int) ++ ((b.eps.map enOf).flatMap encE ++ (b.eps.flatMap epB ++ []))))), false) = ((b.eps.map enOf).flatMap encE ++ (b.eps.flatMap epB ++ []), false) := by
    unfold rk4; rw [q3]; exact (a4 _).2
  have qT : rbkT (vintI b.num ++ (vintI b.born ++ (vintI b.tier ++ (vintI (b.eps.length : Int) ++ ((b.eps.map enOf).flatMap encE ++ (b.eps.flatMap epB ++ []))))), false) = (b.eps.map trOf, (b.eps.flatMap epB ++ [], false)) := by
    unfold rbkT
    rw [q3, q4, (a4 _).1, Int.toNat_natCast]
    have := rtrF_loop b.eps.length ((b.eps.map enOf).flatMap encE ++ (b.eps.flatMap epB ++ []), false) [] []
    simp only [List.map_nil, List.append_nil, List.nil_append] at this
    simp only [List.append_nil] at a5 ⊢
    rw [this, a5]
    simp only [List.nil_append, List.map_map]
    rfl
  constructor
  · unfold rbkV
    rw [qT, q1, q2, (a1 _).1, (a2 _).1, (a3 _).1, a6]
    rfl
  · unfold rbkQ
    rw [qT, a6]
theorem rbk_fro {l : List UInt8} (h : (rbkQ (l, false)).2 = false) : (rbkV (l, false)).eps.length ≤ l.length ∧ ((rbkV (l, false)).eps.flatMap epB).length ≤ l.length ∧ ∀ e ∈ (rbkV (l, false)).eps, oE e ∧ e.spans.length ≤ l.length := by
  have hT : rbkT (l, false) = ((loopF enR rtr3 (numV 1073741824 (rk3 (l, false))).toNat (rk4 (l, false)) []).1.map toTr, (loopF enR rtr3 (numV 1073741824 (rk3 (l, false))).toNat (rk4 (l, false)) []).2) := by
    have := rtrF_loop (numV 1073741824 (rk3 (l, false))).toNat (rk4 (l, false)) [] []
    simpa [rbkT] using this
  have hb : (loopF enR rtr3 (numV 1073741824 (rk3 (l, false))).toNat (rk4 (l, false)) []).2.2 = false := by
    cases hb : (loopF enR rtr3 (numV 1073741824 (rk3 (l, false))).toNat (rk4 (l, false)) []).2.2 with
    | false => rfl
    | true =>
      exfalso
      have key : ∀ (ts : List Tr) (q : RS) (R : List Ep), q.2 = true → (repF ts q R).2.2 = true := by
        intro ts q R h
        cases ts with
        | nil => exact h
        | cons t ts => rw [repF, h]; exact h
      have := key (rbkT (l, false)).1 (rbkT (l, false)).2 [] (by rw [hT]; exact hb)
      have h' : (rbkQ (l, false)).2 = true := this
      rw [h] at h'
      cases h'
  obtain ⟨_, ys, k1, k2, k3, k4⟩ := loopF_fro codEnR _ _ _ hb
  rw [List.nil_append] at k2
  have hts : (rbkT (l, false)).1 = ys.map toTr := by rw [hT, k2]
  have hq : (repF (rbkT (l, false)).1 (rbkT (l, false)).2 []).2.2 = false := h
  rw [hts] at hq
  obtain ⟨_, es, e1, e2, e3, e4⟩ := rep_fro _ _ _ (by
    intro t ht
    obtain ⟨x, hx, rfl⟩ := List.mem_map.1 ht
    exact ⟨(k3 x hx).1, (k3 x hx).2.1⟩) hq
  have hE : (rbkV (l, false)).eps = es := by
    show (repF (rbkT (l, false)).1 (rbkT (l, false)).2 []).1 = es
    rw [hts, e1]
    rfl
  have l4 : (rk4 (l, false)).1.length ≤ l.length := Nat.le_trans (rnS_len _ _) (Nat.le_trans (rnS_len _ _) (Nat.le_trans (rnS_len _ _) (rnS_len _ (l, false))))
  have p1 := congrArg List.length k4
  have p2 := congrArg List.length e4
  have p3 := flat_pos encE_pos ys
  rw [hT] at p2
  simp only [List.length_append] at p1 p2
  rw [List.length_map] at e2
  rw [hE]
  refine ⟨by omega, by omega, fun e he => ⟨e3 e he, ?_⟩⟩
  have p4 := epB_le_flat he
  have p5 := flat_pos spanB_pos e.spans
  have p6 : (e.spans.flatMap spanB).length ≤ (epB e).length := by unfold epB; rw [List.length_append]; omega
  omega

/-! ## Sealed bytes -/
theorem fourB_len (n : Nat) : (fourB n).length = 4 := rfl
theorem seal_cut (x : List UInt8) : (sealB x).take ((sealB x).length - 4) = x ∧ openOk (sealB x) = true := by
  have hl : (sealB x).length = x.length + 4 := by unfold sealB; rw [List.length_append, fourB_len]
  have e1 : (sealB x).take ((sealB x).length - 4) = x := by
    rw [hl, Nat.add_sub_cancel]
    unfold sealB
    rw [List.take_left]
  refine ⟨e1, ?_⟩
  unfold openOk
  rw [e1]
  have e2 : (sealB x).drop ((sealB x).length - 4) = fourB (crcM x) := by
    rw [hl, Nat.add_sub_cancel]
    unfold sealB
    rw [List.drop_left]
  rw [e2, hl]
  simp
theorem open_seal {l : List UInt8} (h : openOk l = true) : l = sealB (l.take (l.length - 4)) := by
  unfold openOk at h
  simp only [Bool.and_eq_true, decide_eq_true_eq, beq_iff_eq] at h
  unfold sealB
  rw [← h.2, List.take_append_drop]

/-! ## Both readers -/
/-- Which bytes are a block. -/
def readL (l : List UInt8) : Bool := openOk l && readOk (l.take (l.length - 4), false)
def blkL (l : List UInt8) : Bk := blkV (l.take (l.length - 4), false)
def readR (l : List UInt8) : Bool := openOk l && (!(rbkQ (l.take (l.length - 4), false)).2 && (bytesB (rbkV (l.take (l.length - 4), false)) == l))
def blkR (l : List UInt8) : Bk := rbkV (l.take (l.length - 4), false)
theorem bytesB_ok {b : Bk} (h : rightM b = true) : bytesB b = sealB (bodyB b) := by unfold bytesB; rw [h]; rfl
theorem read_to {b : Bk} (h : okB b) : readL (bytesB b) = true ∧ blkL (bytesB b) = b ∧ readR (bytesB b) = true ∧ blkR (bytesB b) = b := by
  rw [bytesB_ok h.1]
  obtain ⟨s1, s2⟩ := seal_cut (bodyB b)
  obtain ⟨t1, t2⟩ := blk_to h
  obtain ⟨u1, u2⟩ := rbk_to h
  unfold readL blkL readR blkR
  rw [s1, s2]
  refine ⟨?_, t1, ?_, u1⟩
  · unfold readOk
    rw [t1, t2, h.1]
    rfl
  · rw [u1, u2, bytesB_ok h.1]
    simp
theorem okB_of {b : Bk} {n : Nat} (hn : n ≤ 1000000000) (h : rightM b = true) (h1 : b.eps.length ≤ n) (h2 : (b.eps.flatMap epB).length ≤ n) (h3 : ∀ e ∈ b.eps, oE e) : okB b := by
  refine ⟨h, by omega, by omega, fun e he => ⟨(h3 e he).1, (h3 e he).2.1, ?_, fun s hs => ((h3 e he).2.2.2.2 s hs).1⟩⟩
  have p4 := epB_le_flat he
  have p5 := flat_pos spanB_pos e.spans
  have p6 : (e.spans.flatMap spanB).length ≤ (epB e).length := by unfold epB; rw [List.length_append]; omega
  omega
theorem epB_pos (e : Ep) : 1 ≤ (epB e).length := by
  have := epB_app e []
  rw [List.append_nil] at this
  rw [this, List.length_append]
  have := vintI_pos e.first
  omega
theorem read_fro {l : List UInt8} (hl : l.length ≤ 1000000000) (h : readL l = true) : okB (blkL l) ∧ l = bytesB (blkL l) := by
  unfold readL at h
  simp only [Bool.and_eq_true] at h
  have h1 := h.1
  obtain ⟨h2, h3⟩ := blk_fro h.2
  have e := open_seal h1
  have hb : l.take (l.length - 4) = bodyB (blkL l) := h3.1
  have hlen : ((blkL l).eps.flatMap epB).length ≤ l.length := by
    have q : (bodyB (blkL l)).length ≤ l.length := by rw [← hb, List.length_take]; omega
    unfold bodyB at q
    rw [List.length_append] at q
    omega
  have hlen2 := flat_pos epB_pos (blkL l).eps
  refine ⟨okB_of (n := l.length) hl h2 (by omega) hlen h3.2, ?_⟩
  have w : bytesB (blkL l) = sealB (bodyB (blkL l)) := bytesB_ok h2
  rw [w, ← hb]
  exact e
/-- Both readers are one. -/
theorem read_eq {l : List UInt8} (hl : l.length ≤ 1000000000) : readR l = readL l ∧ (readL l = true → blkR l = blkL l) := by
  cases h : readL l with
  | true =>
    obtain ⟨k1, k2⟩ := read_fro hl h
    obtain ⟨_, _, r3, r4⟩ := read_to k1
    rw [← k2] at r3 r4
    exact ⟨r3, fun _ => r4⟩
  | false =>
    refine ⟨?_, fun h => by cases h⟩
    cases hr : readR l with
    | false => rfl
    | true =>
      exfalso
      unfold readR at hr
      simp only [Bool.and_eq_true, Bool.not_eq_true', beq_iff_eq] at hr
      obtain ⟨h1, h2, h3⟩ := hr
      have hR : rightM (blkR l) = true := by
        cases hq : rightM (blkR l) with
        | true => rfl
        | false =>
          have h3' : bytesB (blkR l) = l := h3
          have : bytesB (blkR l) = [] := by unfold bytesB; rw [hq]; rfl
          rw [this] at h3'
          subst h3'
          exact absurd h1 (by decide)
      obtain ⟨b1, b2, b3⟩ := rbk_fro h2
      have lt : (l.take (l.length - 4)).length ≤ l.length := by rw [List.length_take]; omega
      have k := read_to (okB_of (n := l.length) hl hR (Nat.le_trans b1 lt) (Nat.le_trans b2 lt) (fun e he => (b3 e he).1))
      have h3' : bytesB (blkR l) = l := h3
      rw [h3', h] at k
      exact absurd k.1 (by decide)
end Go.Proofs.Ytdomjccibhgbjaa

/- spans: few and short. -/
namespace Go.Proofs.Ytdomjccibhgbjaa
open E
set_option maxRecDepth 100000
set_option linter.unusedVariables false
set_option linter.unusedSimpArgs false

def longA (a : At) : Bool := decide ((a.key.size : Int) > 100) || decide ((a.val.size : Int) > 100)
def fewS (s : Sp) : Bool := !decide ((s.svc.size : Int) > 100) && !decide ((s.op.size : Int) > 100) && !decide ((s.attrs.length : Int) > 20) && s.attrs.all (fun a => !longA a)
def fewAll (l : List Sp) : Bool := !decide ((l.length : Int) > 60) && l.all fewS
def feS (s : Sp) (r : Bool) (i : Nat) : SL := ⟨[(1, .ptr 1000 0 0 0), (2, Bo r), (3, I (i : Int))], [(1000, .box s.row)], [1000]⟩
def faS (l : List Sp) (r : Bool) (i : Nat) : SL := ⟨[(0, .sl 10 (l.map Sp.row)), (2, Bo r), (3, I (i : Int))], [], []⟩
noncomputable def feB : Code := codeAt Try.prog 62 [true, true, false, true, false, false]

noncomputable def faB : Code := codeAt Try.prog 32 [true, true, false, true, false, false]

theorem fe_0 (s : Sp) (a : At) (i : Nat) (h : i < s.attrs.length) (hx : s.attrs[i]? = some a) (hs : s.attrs.length ≤ 20) (tq0 : (decide (Int.ofNat (ByteArray.size (At.key a)) > (100 : Int))) = true) : CodeC Try.prog 0 45 feB (feS s false i) .ret (feS s false i) :=
 runS hmix [.reg 4 [(4, [], some true)], .reg 6 [(5, [.row (At.row a)], none), (8, [], some true)]] ⟨[1, 2, 3], [(1000, 1000)], []⟩ [⟨dltm At.row h⟩, ⟨nn i⟩, ⟨ltm At.row h⟩, ⟨gtm At.row hx⟩, ⟨tq0⟩]

theorem fe_1 (s : Sp) (a : At) (i : Nat) (h : i < s.attrs.length) (hx : s.attrs[i]? = some a) (hs : s.attrs.length ≤ 20) (tq0 : (decide (Int.ofNat (ByteArray.size (At.key a)) > (100 : Int))) = false) (tq1 : (decide (Int.ofNat (ByteArray.size (At.val a)) > (100 : Int))) = true) : CodeC Try.prog 0 45 feB (feS s false i) .ret (feS s false i) :=
 runS hmix [.reg 4 [(4, [], some true)], .reg 6 [(5, [.row (At.row a)], none), (8, [], some false), (14, [.row (At.row a)], none), (17, [], some true)]] ⟨[1, 2, 3], [(1000, 1000)], []⟩ [⟨dltm At.row h⟩, ⟨nn i⟩, ⟨ltm At.row h⟩, ⟨gtm At.row hx⟩, ⟨tq0⟩, ⟨nn i⟩, ⟨ltm At.row h⟩, ⟨gtm At.row hx⟩, ⟨tq1⟩]

theorem fe_2 (s : Sp) (a : At) (i : Nat) (h : i < s.attrs.length) (hx : s.attrs[i]? = some a) (hs : s.attrs.length ≤ 20) (tq0 : (decide (Int.ofNat (ByteArray.size (At.key a)) > (100 : Int))) = false) (tq1 : (decide (Int.ofNat (ByteArray.size (At.val a)) > (100 : Int))) = false) : CodeC Try.prog 0 45 feB (feS s false i) .normal (feS s false (i + 1)) :=
 runS hmix [.reg 4 [(4, [], some true)], .reg 6 [(5, [.row (At.row a)], none), (8, [], some false), (14, [.row (At.row a)], none), (17, [], some false)], .reg 5 [(1, [.be (I ((i + 1 : Nat) : Int))], none)]] ⟨[1, 2, 3], [(1000, 1000)], []⟩ [⟨dltm At.row h⟩, ⟨nn i⟩, ⟨ltm At.row h⟩, ⟨gtm At.row hx⟩, ⟨tq0⟩, ⟨nn i⟩, ⟨ltm At.row h⟩, ⟨gtm At.row hx⟩, ⟨tq1⟩, ⟨w64 (i + 1) (by omega)⟩]

theorem feGo (s : Sp) (a : At) (i : Nat) (h : i < s.attrs.length) (hx : s.attrs[i]? = some a) (hs : s.attrs.length ≤ 20) (hb : longA a = false) : CodeC Try.prog 0 45 feB (feS s false i) .normal (feS s false (i + 1)) := by
  rcases tf (decide (Int.ofNat (ByteArray.size (At.key a)) > (100 : Int))) with tq0 | tq0
  · exact absurd hb (by (try simp only [Int.ofNat_eq_natCast, List.length_map, Bool.not_eq_true', Bool.not_eq_false', decide_eq_true_eq, decide_eq_false_iff_not] at tq0); simp [longA, tq0])
  · rcases tf (decide (Int.ofNat (ByteArray.size (At.val a)) > (100 : Int))) with tq1 | tq1
    · exact absurd hb (by (try simp only [Int.ofNat_eq_natCast, List.length_map, Bool.not_eq_true', Bool.not_eq_false', decide_eq_true_eq, decide_eq_false_iff_not] at tq0 tq1); simp [longA, tq0, tq1])
    · exact fe_2 s a i h hx hs tq0 tq1

theorem feStop (s : Sp) (a : At) (i : Nat) (h : i < s.attrs.length) (hx : s.attrs[i]? = some a) (hs : s.attrs.length ≤ 20) (hb : longA a = true) : CodeC Try.prog 0 45 feB (feS s false i) .ret (feS s false i) := by
  rcases tf (decide (Int.ofNat (ByteArray.size (At.key a)) > (100 : Int))) with tq0 | tq0
  · exact fe_0 s a i h hx hs tq0
  · rcases tf (decide (Int.ofNat (ByteArray.size (At.val a)) > (100 : Int))) with tq1 | tq1
    · exact fe_1 s a i h hx hs tq0 tq1
    · exact absurd hb (by (try simp only [Int.ofNat_eq_natCast, List.length_map, Bool.not_eq_true', Bool.not_eq_false', decide_eq_true_eq, decide_eq_false_iff_not] at tq0 tq1); simp [longA, tq0, tq1])

theorem feE (s : Sp) (i : Nat) (h : s.attrs.length ≤ i)  : CodeC Try.prog 0 45 feB (feS s false i) (.exit 0) (feS s false i) :=
 runS hmix [.reg 4 [(4, [], some false)]] ⟨[1, 2, 3], [(1000, 1000)], []⟩ [⟨dgem At.row h⟩]

theorem few1_0 (s : Sp) (i : Nat) (hl : LoopC Try.prog 0 45 feB (feS s false 0) .ret (feS s false i)) (tq0 : (decide (Int.ofNat (ByteArray.size (Sp.svc s)) > (100 : Int))) = true) : Contract Try.prog 62 [s.v] [] (Bo false) [] :=
 vcS hmix [.reg 1 [(4, [], some true)]] [] [⟨tq0⟩]

theorem few1_1 (s : Sp) (i : Nat) (hl : LoopC Try.prog 0 45 feB (feS s false 0) .ret (feS s false i)) (tq0 : (decide (Int.ofNat (ByteArray.size (Sp.svc s)) > (100 : Int))) = false) (tq1 : (decide (Int.ofNat (ByteArray.size (Sp.op s)) > (100 : Int))) = true) : Contract Try.prog 62 [s.v] [] (Bo false) [] :=
 vcS hmix [.reg 1 [(4, [], some false), (10, [], some true)]] [] [⟨tq0⟩, ⟨tq1⟩]

theorem few1_2 (s : Sp) (i : Nat) (hl : LoopC Try.prog 0 45 feB (feS s false 0) .ret (feS s false i)) (tq0 : (decide (Int.ofNat (ByteArray.size (Sp.svc s)) > (100 : Int))) = false) (tq1 : (decide (Int.ofNat (ByteArray.size (Sp.op s)) > (100 : Int))) = false) (tq2 : (decide (Int.ofNat (List.length (List.map At.row (Sp.attrs s))) > (20 : Int))) = true) : Contract Try.prog 62 [s.v] [] (Bo false) [] :=
 vcS hmix [.reg 1 [(4, [], some false), (10, [], some false), (15, [], some true)]] [] [⟨tq0⟩, ⟨tq1⟩, ⟨tq2⟩]

theorem few1_3 (s : Sp) (i : Nat) (hl : LoopC Try.prog 0 45 feB (feS s false 0) .ret (feS s false i)) (tq0 : (decide (Int.ofNat (ByteArray.size (Sp.svc s)) > (100 : Int))) = false) (tq1 : (decide (Int.ofNat (ByteArray.size (Sp.op s)) > (100 : Int))) = false) (tq2 : (decide (Int.ofNat (List.length (List.map At.row (Sp.attrs s))) > (20 : Int))) = false) : Contract Try.prog 62 [s.v] [] (Bo false) [] :=
 vcS hmix [.reg 1 [(4, [], some false), (10, [], some false), (15, [], some false)], .cut ⟨[1, 2, 3], [(1000, 1000)], []⟩ .ret (feS s false i)] [] [⟨tq0⟩, ⟨tq1⟩, ⟨tq2⟩, ⟨hl⟩]

theorem few1 (s : Sp) (i : Nat) (hl : LoopC Try.prog 0 45 feB (feS s false 0) .ret (feS s false i)) : Contract Try.prog 62 [s.v] [] (Bo false) [] := by
  rcases tf (decide (Int.ofNat (ByteArray.size (Sp.svc s)) > (100 : Int))) with tq0 | tq0
  · exact few1_0 s i hl tq0
  · rcases tf (decide (Int.ofNat (ByteArray.size (Sp.op s)) > (100 : Int))) with tq1 | tq1
    · exact few1_1 s i hl tq0 tq1
    · rcases tf (decide (Int.ofNat (List.length (List.map At.row (Sp.attrs s))) > (20 : Int))) with tq2 | tq2
      · exact few1_2 s i hl tq0 tq1 tq2
      · exact few1_3 s i hl tq0 tq1 tq2

theorem few2_0 (s : Sp) (hl : LoopC Try.prog 0 45 feB (feS s false 0) (.exit 0) (feS s false s.attrs.length)) (tq0 : (decide (Int.ofNat (ByteArray.size (Sp.svc s)) > (100 : Int))) = true) : Contract Try.prog 62 [s.v] [] (Bo false) ([]) :=
 vcS hmix [.reg 1 [(4, [], some true)]] [] [⟨tq0⟩]

theorem few2_1 (s : Sp) (hl : LoopC Try.prog 0 45 feB (feS s false 0) (.exit 0) (feS s false s.attrs.length)) (tq0 : (decide (Int.ofNat (ByteArray.size (Sp.svc s)) > (100 : Int))) = false) (tq1 : (decide (Int.ofNat (ByteArray.size (Sp.op s)) > (100 : Int))) = true) : Contract Try.prog 62 [s.v] [] (Bo false) ([]) :=
 vcS hmix [.reg 1 [(4, [], some false), (10, [], some true)]] [] [⟨tq0⟩, ⟨tq1⟩]

theorem few2_2 (s : Sp) (hl : LoopC Try.prog 0 45 feB (feS s false 0) (.exit 0) (feS s false s.attrs.length)) (tq0 : (decide (Int.ofNat (ByteArray.size (Sp.svc s)) > (100 : Int))) = false) (tq1 : (decide (Int.ofNat (ByteArray.size (Sp.op s)) > (100 : Int))) = false) (tq2 : (decide (Int.ofNat (List.length (List.map At.row (Sp.attrs s))) > (20 : Int))) = true) : Contract Try.prog 62 [s.v] [] (Bo false) ([]) :=
 vcS hmix [.reg 1 [(4, [], some false), (10, [], some false), (15, [], some true)]] [] [⟨tq0⟩, ⟨tq1⟩, ⟨tq2⟩]

theorem few2_3 (s : Sp) (hl : LoopC Try.prog 0 45 feB (feS s false 0) (.exit 0) (feS s false s.attrs.length)) (tq0 : (decide (Int.ofNat (ByteArray.size (Sp.svc s)) > (100 : Int))) = false) (tq1 : (decide (Int.ofNat (ByteArray.size (Sp.op s)) > (100 : Int))) = false) (tq2 : (decide (Int.ofNat (List.length (List.map At.row (Sp.attrs s))) > (20 : Int))) = false) : Contract Try.prog 62 [s.v] [] (Bo true) ([]) :=
 vcS hmix [.reg 1 [(4, [], some false), (10, [], some false), (15, [], some false)], .cut ⟨[1, 2, 3], [(1000, 1000)], []⟩ (.exit 0) (feS s false s.attrs.length)] [] [⟨tq0⟩, ⟨tq1⟩, ⟨tq2⟩, ⟨hl⟩]

theorem few2 (s : Sp) (hl : LoopC Try.prog 0 45 feB (feS s false 0) (.exit 0) (feS s false s.attrs.length)) : Contract Try.prog 62 [s.v] [] (Bo (!decide ((s.svc.size : Int) > 100) && !decide ((s.op.size : Int) > 100) && !decide ((s.attrs.length : Int) > 20))) [] := by
  rcases tf (decide (Int.ofNat (ByteArray.size (Sp.svc s)) > (100 : Int))) with tq0 | tq0
  · exact Contract.cast (by (try simp only [Int.ofNat_eq_natCast, List.length_map, Bool.not_eq_true', Bool.not_eq_false', decide_eq_true_eq, decide_eq_false_iff_not] at tq0); simp [tq0]) rfl (few2_0 s hl tq0)
  · rcases tf (decide (Int.ofNat (ByteArray.size (Sp.op s)) > (100 : Int))) with tq1 | tq1
    · exact Contract.cast (by (try simp only [Int.ofNat_eq_natCast, List.length_map, Bool.not_eq_true', Bool.not_eq_false', decide_eq_true_eq, decide_eq_false_iff_not] at tq0 tq1); simp [tq0, tq1]) rfl (few2_1 s hl tq0 tq1)
    · rcases tf (decide (Int.ofNat (List.length (List.map At.row (Sp.attrs s))) > (20 : Int))) with tq2 | tq2
      · exact Contract.cast (by (try simp only [Int.ofNat_eq_natCast, List.length_map, Bool.not_eq_true', Bool.not_eq_false', decide_eq_true_eq, decide_eq_false_iff_not] at tq0 tq1 tq2); simp [tq0, tq1, tq2]) rfl (few2_2 s hl tq0 tq1 tq2)
      · exact Contract.cast (by (try simp only [Int.ofNat_eq_natCast, List.length_map, Bool.not_eq_true', Bool.not_eq_false', decide_eq_true_eq, decide_eq_false_iff_not] at tq0 tq1 tq2); simp [tq0, tq1, tq2]) rfl (few2_3 s hl tq0 tq1 tq2)

theorem few3_0 (s : Sp) (h : decide ((s.attrs.length : Int) > 20) = true) (tq0 : (decide (Int.ofNat (ByteArray.size (Sp.svc s)) > (100 : Int))) = true) : Contract Try.prog 62 [s.v] [] (Bo false) [] :=
 vcS hmix [.reg 1 [(4, [], some true), (14, [], some true)]] [] [⟨tq0⟩]

theorem few3_1 (s : Sp) (h : decide ((s.attrs.length : Int) > 20) = true) (tq0 : (decide (Int.ofNat (ByteArray.size (Sp.svc s)) > (100 : Int))) = false) (tq1 : (decide (Int.ofNat (ByteArray.size (Sp.op s)) > (100 : Int))) = true) : Contract Try.prog 62 [s.v] [] (Bo false) [] :=
 vcS hmix [.reg 1 [(4, [], some false), (10, [], some true), (14, [], some true)]] [] [⟨tq0⟩, ⟨tq1⟩]

theorem few3_2 (s : Sp) (h : decide ((s.attrs.length : Int) > 20) = true) (tq0 : (decide (Int.ofNat (ByteArray.size (Sp.svc s)) > (100 : Int))) = false) (tq1 : (decide (Int.ofNat (ByteArray.size (Sp.op s)) > (100 : Int))) = false) : Contract Try.prog 62 [s.v] [] (Bo false) [] :=
 vcS hmix [.reg 1 [(4, [], some false), (10, [], some false), (14, [], some true)]] [] [⟨tq0⟩, ⟨tq1⟩, ⟨(by simp at h ⊢; omega : decide (Int.ofNat (List.length (List.map At.row (Sp.attrs s))) > 20) = true)⟩]

theorem few3 (s : Sp) (h : decide ((s.attrs.length : Int) > 20) = true) : Contract Try.prog 62 [s.v] [] (Bo false) [] := by
  rcases tf (decide (Int.ofNat (ByteArray.size (Sp.svc s)) > (100 : Int))) with tq0 | tq0
  · exact few3_0 s h tq0
  · rcases tf (decide (Int.ofNat (ByteArray.size (Sp.op s)) > (100 : Int))) with tq1 | tq1
    · exact few3_1 s h tq0 tq1
    · exact few3_2 s h tq0 tq1

theorem cFew (s : Sp) : Contract Try.prog 62 [s.v] [] (Bo (fewS s)) [] := by
  unfold fewS
  rcases tf (decide ((s.attrs.length : Int) > 20)) with h3 | h3
  · rw [h3]; simp only [Bool.not_true, Bool.and_false, Bool.false_and]; exact few3 s h3
  · have hs : s.attrs.length ≤ 20 := by simp at h3; omega
    rcases LoopC.search (P := Try.prog) (k := 0) (n := 45) (c := feB) s.attrs (fun _ a => longA a) (fun i => feS s false i) (fun i => feS s false i) (e1 := .ret) (e2 := .exit 0) (by simp) (by simp)
      (fun i a hx hi hb => feGo s a i hi hx hs hb) (fun i a hx hi hb => feStop s a i hi hx hs hb) (feE s _ (Nat.le_refl _)) with ⟨i, a, k1, k2, _, k4⟩ | ⟨k1, k2⟩
    · rw [all_not k1 k2, Bool.and_false]; exact few1 s i k4
    · rw [all_of_idx k1, Bool.and_true]; exact few2 s k2
theorem fa_0 (l : List Sp) (x : Sp) (i : Nat) (h : i < l.length) (hx : l[i]? = some x) (hs : l.length ≤ 60) (tq0 : (!fewS x) = true) : CodeC Try.prog 0 19 faB (faS l false i) .ret (faS l false i) :=
 runS hmix [.reg 4 [(3, [], some true)], .reg 6 [(3, [.row (Sp.row x)], none), (4, [.call [] [] (Bo (fewS x)) []], none), (5, [], some true)]] ⟨[0, 2, 3], [], []⟩ [⟨dltm Sp.row h⟩, ⟨nn i⟩, ⟨ltm Sp.row h⟩, ⟨gtm Sp.row hx⟩, ⟨cFew x⟩, ⟨tq0⟩]

theorem fa_1 (l : List Sp) (x : Sp) (i : Nat) (h : i < l.length) (hx : l[i]? = some x) (hs : l.length ≤ 60) (tq0 : (!fewS x) = false) : CodeC Try.prog 0 19 faB (faS l false i) .normal (faS l false (i + 1)) :=
 runS hmix [.reg 4 [(3, [], some true)], .reg 6 [(3, [.row (Sp.row x)], none), (4, [.call [] [] (Bo (fewS x)) []], none), (5, [], some false)], .reg 5 [(1, [.be (I ((i + 1 : Nat) : Int))], none)]] ⟨[0, 2, 3], [], []⟩ [⟨dltm Sp.row h⟩, ⟨nn i⟩, ⟨ltm Sp.row h⟩, ⟨gtm Sp.row hx⟩, ⟨cFew x⟩, ⟨tq0⟩, ⟨w64 (i + 1) (by omega)⟩]

theorem faGo (l : List Sp) (x : Sp) (i : Nat) (h : i < l.length) (hx : l[i]? = some x) (hs : l.length ≤ 60) (hb : fewS x = true) : CodeC Try.prog 0 19 faB (faS l false i) .normal (faS l false (i + 1)) := by
  rcases tf (!fewS x) with tq0 | tq0
  · exact absurd hb (by (try simp only [Int.ofNat_eq_natCast, List.length_map, Bool.not_eq_true', Bool.not_eq_false', decide_eq_true_eq, decide_eq_false_iff_not] at tq0); simp [tq0])
  · exact fa_1 l x i h hx hs tq0

theorem faStop (l : List Sp) (x : Sp) (i : Nat) (h : i < l.length) (hx : l[i]? = some x) (hs : l.length ≤ 60) (hb : fewS x = false) : CodeC Try.prog 0 19 faB (faS l false i) .ret (faS l false i) := by
  rcases tf (!fewS x) with tq0 | tq0
  · exact fa_0 l x i h hx hs tq0
  · exact absurd hb (by (try simp only [Int.ofNat_eq_natCast, List.length_map, Bool.not_eq_true', Bool.not_eq_false', decide_eq_true_eq, decide_eq_false_iff_not] at tq0); simp [tq0])

theorem faE (l : List Sp) (i : Nat) (h : l.length ≤ i)  : CodeC Try.prog 0 19 faB (faS l false i) (.exit 0) (faS l false i) :=
 runS hmix [.reg 4 [(3, [], some false)]] ⟨[0, 2, 3], [], []⟩ [⟨dgem Sp.row h⟩]

theorem fewAll1_0 (l : List Sp) (i : Nat) (hl : LoopC Try.prog 0 19 faB (faS l false 0) .ret (faS l false i)) (tq0 : (decide (Int.ofNat (List.length (List.map Sp.row l)) > (60 : Int))) = true) : Contract Try.prog 32 [.sl 10 (l.map Sp.row)] [] (Bo false) [] :=
 vcS hmix [.reg 1 [(2, [], some true)]] [] [⟨tq0⟩]

theorem fewAll1_1 (l : List Sp) (i : Nat) (hl : LoopC Try.prog 0 19 faB (faS l false 0) .ret (faS l false i)) (tq0 : (decide (Int.ofNat (List.length (List.map Sp.row l)) > (60 : Int))) = false) : Contract Try.prog 32 [.sl 10 (l.map Sp.row)] [] (Bo false) [] :=
 vcS hmix [.reg 1 [(2, [], some false)], .cut ⟨[0, 2, 3], [], []⟩ .ret (faS l false i)] [] [⟨tq0⟩, ⟨hl⟩]

theorem fewAll1 (l : List Sp) (i : Nat) (hl : LoopC Try.prog 0 19 faB (faS l false 0) .ret (faS l false i)) : Contract Try.prog 32 [.sl 10 (l.map Sp.row)] [] (Bo false) [] := by
  rcases tf (decide (Int.ofNat (List.length (List.map Sp.row l)) > (60 : Int))) with tq0 | tq0
  · exact fewAll1_0 l i hl tq0
  · exact fewAll1_1 l i hl tq0

theorem fewAll2_0 (l : List Sp) (hl : LoopC Try.prog 0 19 faB (faS l false 0) (.exit 0) (faS l false l.length)) (tq0 : (decide (Int.ofNat (List.length (List.map Sp.row l)) > (60 : Int))) = true) : Contract Try.prog 32 [.sl 10 (l.map Sp.row)] [] (Bo false) ([]) :=
 vcS hmix [.reg 1 [(2, [], some true)]] [] [⟨tq0⟩]

theorem fewAll2_1 (l : List Sp) (hl : LoopC Try.prog 0 19 faB (faS l false 0) (.exit 0) (faS l false l.length)) (tq0 : (decide (Int.ofNat (List.length (List.map Sp.row l)) > (60 : Int))) = false) : Contract Try.prog 32 [.sl 10 (l.map Sp.row)] [] (Bo true) ([]) :=
 vcS hmix [.reg 1 [(2, [], some false)], .cut ⟨[0, 2, 3], [], []⟩ (.exit 0) (faS l false l.length)] [] [⟨tq0⟩, ⟨hl⟩]

theorem fewAll2 (l : List Sp) (hl : LoopC Try.prog 0 19 faB (faS l false 0) (.exit 0) (faS l false l.length)) : Contract Try.prog 32 [.sl 10 (l.map Sp.row)] [] (Bo (!decide ((l.length : Int) > 60))) [] := by
  rcases tf (decide (Int.ofNat (List.length (List.map Sp.row l)) > (60 : Int))) with tq0 | tq0
  · exact Contract.cast (by (try simp only [Int.ofNat_eq_natCast, List.length_map, Bool.not_eq_true', Bool.not_eq_false', decide_eq_true_eq, decide_eq_false_iff_not] at tq0); simp [tq0]) rfl (fewAll2_0 l hl tq0)
  · exact Contract.cast (by (try simp only [Int.ofNat_eq_natCast, List.length_map, Bool.not_eq_true', Bool.not_eq_false', decide_eq_true_eq, decide_eq_false_iff_not] at tq0); simp [tq0]) rfl (fewAll2_1 l hl tq0)

theorem fewAll3 (l : List Sp) (h : decide ((l.length : Int) > 60) = true) : Contract Try.prog 32 [.sl 10 (l.map Sp.row)] [] (Bo false) [] :=
 vcS hmix [.reg 1 [(2, [], some true)]] [] [⟨(by simp at h ⊢; omega : decide (Int.ofNat (List.length (List.map Sp.row l)) > 60) = true)⟩]

theorem cFewAll (l : List Sp) : Contract Try.prog 32 [.sl 10 (l.map Sp.row)] [] (Bo (fewAll l)) [] := by
  unfold fewAll
  rcases tf (decide ((l.length : Int) > 60)) with h3 | h3
  · rw [h3]; simp only [Bool.not_true, Bool.false_and]; exact fewAll3 l h3
  · have hs : l.length ≤ 60 := by simp at h3; omega
    rcases LoopC.search (P := Try.prog) (k := 0) (n := 19) (c := faB) l (fun _ x => !fewS x) (fun i => faS l false i) (fun i => faS l false i) (e1 := .ret) (e2 := .exit 0) (by simp) (by simp)
      (fun i a hx hi hb => faGo l a i hi hx hs (by simpa using hb)) (fun i a hx hi hb => faStop l a i hi hx hs (by simpa using hb)) (faE l _ (Nat.le_refl _)) with ⟨i, a, k1, k2, _, k4⟩ | ⟨k1, k2⟩
    · have := all_not (p := fun x => !fewS x) k1 k2
      simp only [Bool.not_not] at this
      rw [show l.all fewS = false from this, Bool.and_false]; exact fewAll1 l i k4
    · have := all_of_idx (p := fun x => !fewS x) k1
      simp only [Bool.not_not] at this
      rw [show l.all fewS = true from this, Bool.and_true]; exact fewAll2 l k2
theorem few_of {x : Sp} (h : fewS x = true) : x.attrs.length ≤ 20 := by
  unfold fewS at h
  simp only [Bool.and_eq_true, Bool.not_eq_true', decide_eq_false_iff_not] at h
  omega
theorem fewAll_len {l : List Sp} (h : fewAll l = true) : l.length ≤ 60 ∧ ∀ x ∈ l, x.attrs.length ≤ 20 := by
  unfold fewAll at h
  simp only [Bool.and_eq_true, Bool.not_eq_true', decide_eq_false_iff_not, List.all_eq_true] at h
  exact ⟨by omega, fun x hx => few_of (h.2 x hx)⟩
end Go.Proofs.Ytdomjccibhgbjaa

/- episodes: few and short. -/
namespace Go.Proofs.Ytdomjccibhgbjaa
open E
set_option maxRecDepth 100000
set_option linter.unusedVariables false
set_option linter.unusedSimpArgs false

def few15 : List Ep → Nat → Bool
  | [], n => decide ((n : Int) ≤ 120)
  | e :: l, n => bif decide ((n : Int) < 1000) then (bif fewAll e.spans then few15 l (n + 1 + e.spans.length) else false) else false
def fwS (l : List Ep) (n i : Nat) : SL := ⟨[(0, .sl 6 (l.map Ep.row)), (2, Bo false), (3, I (n : Int)), (4, I (i : Int))], [], []⟩
noncomputable def fwB : Code := codeAt Try.prog 10 [true, true, false, true, false, false]

theorem fwGo (l : List Ep) (x : Ep) (n i : Nat) (hx : l[i]? = some x) (hi : i < l.length) (hs : i ≤ n) (hn : n < 1000) (hb : fewAll x.spans = true)  : CodeC Try.prog 0 33 fwB (fwS l n i) .normal (fwS l (n + 1 + x.spans.length) (i + 1)) :=
 runS hmix [.reg 3 [(3, [], some true), (6, [], some true)], .reg 5 [(4, [.row (Ep.row x)], none), (5, [.call [] [] (Bo (fewAll x.spans)) []], none), (6, [], some false)], .reg 7 [(1, [.be (I ((n + 1 : Nat) : Int))], none), (6, [.row (Ep.row x)], none), (8, [.be (I ((n + 1 + x.spans.length : Nat) : Int))], none)], .reg 4 [(1, [.be (I ((i + 1 : Nat) : Int))], none)]] ⟨[0, 2, 3, 4], [], []⟩ [⟨dltm Ep.row hi⟩, ⟨(by simp; omega : decide (Int.ofNat n < 1000) = true)⟩, ⟨nn i⟩, ⟨ltm Ep.row hi⟩, ⟨gtm Ep.row hx⟩, ⟨(by exact cFewAll _ : Contract Try.prog 32 [.sl 10 (List.map Sp.row (Ep.spans x))] [] (Bo (fewAll (Ep.spans x))) [])⟩, ⟨(by simp; omega : (!fewAll (Ep.spans x)) = false)⟩, ⟨w64 (n + 1) (by omega)⟩, ⟨nn i⟩, ⟨ltm Ep.row hi⟩, ⟨gtm Ep.row hx⟩, ⟨(by have q := (fewAll_len hb).1; rw [i64_small (by simp; omega)]; simp : IntKind.wrap IntKind.i64 (Int.ofNat (n + 1 + List.length (List.map Sp.row (Ep.spans x)))) = Int.ofNat (n + 1 + List.length (Ep.spans x)))⟩, ⟨w64 (i + 1) (by omega)⟩]

theorem fwStop (l : List Ep) (x : Ep) (n i : Nat) (hx : l[i]? = some x) (hi : i < l.length) (hs : i ≤ n) (hn : n < 1000) (hb : fewAll x.spans = false)  : CodeC Try.prog 0 33 fwB (fwS l n i) .ret (fwS l n i) :=
 runS hmix [.reg 3 [(3, [], some true), (6, [], some true)], .reg 5 [(4, [.row (Ep.row x)], none), (5, [.call [] [] (Bo (fewAll x.spans)) []], none), (6, [], some true)]] ⟨[0, 2, 3, 4], [], []⟩ [⟨dltm Ep.row hi⟩, ⟨(by simp; omega : decide (Int.ofNat n < 1000) = true)⟩, ⟨nn i⟩, ⟨ltm Ep.row hi⟩, ⟨gtm Ep.row hx⟩, ⟨(by exact cFewAll _ : Contract Try.prog 32 [.sl 10 (List.map Sp.row (Ep.spans x))] [] (Bo (fewAll (Ep.spans x))) [])⟩, ⟨(by simp; omega : (!fewAll (Ep.spans x)) = true)⟩]

theorem fwMany (l : List Ep) (n i : Nat) (hi : i < l.length) (hn : 1000 ≤ n)  : CodeC Try.prog 0 33 fwB (fwS l n i) (.exit 0) (fwS l n i) :=
 runS hmix [.reg 3 [(3, [], some true), (6, [], some false)]] ⟨[0, 2, 3, 4], [], []⟩ [⟨dltm Ep.row hi⟩, ⟨(by simp; omega : decide (Int.ofNat n < 1000) = false)⟩]

theorem fwE (l : List Ep) (n i : Nat) (h : l.length ≤ i)  : CodeC Try.prog 0 33 fwB (fwS l n i) (.exit 0) (fwS l n i) :=
 runS hmix [.reg 3 [(3, [], some false)]] ⟨[0, 2, 3, 4], [], []⟩ [⟨dgem Ep.row h⟩]

theorem fwB1 (l : List Ep) (n i : Nat) (hl : LoopC Try.prog 0 33 fwB (fwS l 0 0) .ret (fwS l n i)) : Contract Try.prog 10 [.sl 6 (l.map Ep.row)] [] (Bo false) [] :=
 vcS hmix [.cut ⟨[0, 2, 3, 4], [], []⟩ .ret (fwS l n i)] [] [⟨hl⟩]

theorem fwB2 (l : List Ep) (n i : Nat) (hl : LoopC Try.prog 0 33 fwB (fwS l 0 0) (.exit 0) (fwS l n i)) : Contract Try.prog 10 [.sl 6 (l.map Ep.row)] [] (Bo (decide ((n : Int) ≤ 120))) [] :=
 vcS hmix [.cut ⟨[0, 2, 3, 4], [], []⟩ (.exit 0) (fwS l n i)] [] [⟨hl⟩]

theorem fwAll (l : List Ep) : ∀ m i n : Nat, i ≤ n → i + m = l.length → (few15 (l.drop i) n = false ∧ ∃ n' i', LoopC Try.prog 0 33 fwB (fwS l n i) .ret (fwS l n' i')) ∨ (∃ n' i' : Nat, few15 (l.drop i) n = decide ((n' : Int) ≤ 120) ∧ LoopC Try.prog 0 33 fwB (fwS l n i) (.exit 0) (fwS l n' i'))
  | 0, i, n, hs, h => by
    have : i = l.length := by omega
    subst this
    refine .inr ⟨n, l.length, ?_, LoopC.last (fwE l n _ (Nat.le_refl _)) (by simp)⟩
    rw [List.drop_length]
    rfl
  | m + 1, i, n, hs, h => by
    have hi : i < l.length := by omega
    have hx : l[i]? = some l[i] := List.getElem?_eq_getElem hi
    rw [List.drop_eq_getElem_cons hi]
    unfold few15
    by_cases hn : n < 1000
    · have hd : decide ((n : Int) < 1000) = true := by simp; omega
      rw [hd]
      cases hb : fewAll l[i].spans with
      | true =>
        rcases fwAll l m (i + 1) (n + 1 + l[i].spans.length) (by omega) (by omega) with ⟨k1, n', i', k2⟩ | ⟨n', i', k1, k2⟩
        · exact .inl ⟨k1, n', i', LoopC.next (fwGo l l[i] n i hx hi hs hn hb) k2⟩
        · exact .inr ⟨n', i', k1, LoopC.next (fwGo l l[i] n i hx hi hs hn hb) k2⟩
      | false => exact .inl ⟨rfl, n, i, LoopC.last (fwStop l l[i] n i hx hi hs hn hb) (by simp)⟩
    · have hd : decide ((n : Int) < 1000) = false := by simp; omega
      rw [hd]
      refine .inr ⟨n, i, ?_, LoopC.last (fwMany l n i hi (by omega)) (by simp)⟩
      simp only [cond_false]
      symm
      simp
      omega
theorem cFew15 (l : List Ep) : Contract Try.prog 10 [.sl 6 (l.map Ep.row)] [] (Bo (few15 l 0)) [] := by
  rcases fwAll l l.length 0 0 (Nat.le_refl _) (by omega) with ⟨k1, n, i, k2⟩ | ⟨n, i, k1, k2⟩
  · rw [List.drop_zero] at k1
    rw [k1]; exact fwB1 l n i k2
  · rw [List.drop_zero] at k1
    rw [k1]; exact fwB2 l n i k2
theorem few15_of : ∀ (l : List Ep) (n : Nat), few15 l n = true → n + l.length ≤ 120 ∧ (∀ e ∈ l, fewAll e.spans = true) ∧ n + l.length + (l.map fun e => e.spans.length).sum ≤ 120
  | [], n, h => by simp [few15] at h; exact ⟨by simp; omega, by simp, by simp; omega⟩
  | e :: l, n, h => by
    unfold few15 at h
    cases h1 : decide ((n : Int) < 1000) with
    | false => rw [h1] at h; cases h
    | true =>
      cases h2 : fewAll e.spans with
      | false => rw [h1, h2] at h; cases h
      | true =>
        rw [h1, h2] at h
        obtain ⟨k1, k2, k3⟩ := few15_of l _ h
        refine ⟨by simp; omega, ?_, by simp; omega⟩
        intro x hx
        rcases List.mem_cons.1 hx with rfl | hx
        · exact h2
        · exact k2 x hx

end Go.Proofs.Ytdomjccibhgbjaa

/- what is the same is told so. -/
namespace Go.Proofs.Ytdomjccibhgbjaa
open E
set_option maxRecDepth 100000
set_option linter.unusedVariables false
set_option linter.unusedSimpArgs false

def sfS (s : Sp) (i : Nat) : SL := ⟨[(2, .ptr 1000 0 0 0), (3, .ptr 2000 0 0 0), (5, I (i : Int))], [(1000, .box s.row), (2000, .box s.row)], [1000, 2000]⟩
def sgS (l : List Sp) (i : Nat) : SL := ⟨[(0, .sl 10 (l.map Sp.row)), (1, .sl 10 (l.map Sp.row)), (5, I (i : Int))], [], []⟩
def shS (l : List Ep) (i : Nat) : SL := ⟨[(0, .sl 6 (l.map Ep.row)), (1, .sl 6 (l.map Ep.row)), (5, I (i : Int))], [], []⟩
noncomputable def sfB : Code := codeAt Try.prog 73 [true, true, false, true, false, false]

noncomputable def sgB : Code := codeAt Try.prog 44 [true, true, false, true, false, false]

theorem sfG (s : Sp) (x : At) (i : Nat) (hx : s.attrs[i]? = some x) (hi : i < s.attrs.length) (hs : s.attrs.length ≤ 1000000)  : CodeC Try.prog 0 87 sfB (sfS s (i)) .normal (sfS s (i + 1)) :=
 runS hmix [.reg 4 [(4, [], some true)], .reg 6 [(4, [.row (At.row x)], none), (9, [.row (At.row x)], none), (10, [], some false)], .reg 5 [(1, [.be (I ((i + 1 : Nat) : Int))], none)]] ⟨[2, 3, 5], [(1000, 1000), (2000, 2000)], []⟩ [⟨dltm At.row hi⟩, ⟨nn i⟩, ⟨ltm At.row hi⟩, ⟨gtm At.row hx⟩, ⟨nn i⟩, ⟨ltm At.row hi⟩, ⟨gtm At.row hx⟩, ⟨(by simp [hx] : (!(At.key x == At.key x && (At.val x == At.val x && true))) = false)⟩, ⟨w64 (i + 1) (by omega)⟩]

theorem sfE (s : Sp) (i : Nat) (hs : s.attrs.length ≤ 1000000) (h : s.attrs.length ≤ i)  : CodeC Try.prog 0 87 sfB (sfS s (i)) (.exit 0) (sfS s (i)) :=
 runS hmix [.reg 4 [(4, [], some false)]] ⟨[2, 3, 5], [(1000, 1000), (2000, 2000)], []⟩ [⟨dgem At.row h⟩]

theorem sfL (s : Sp) (hs : s.attrs.length ≤ 1000000) : LoopC Try.prog 0 87 sfB (sfS s (0)) (.exit 0) (sfS s (s.attrs.length)) :=
  LoopC.pass s.attrs (fun i => sfS s (i)) (by simp) (fun i x hx hi => sfG s x i hx hi hs) (sfE s _ hs (Nat.le_refl _))

theorem cSameSpan (s : Sp) (hs : s.attrs.length ≤ 1000000) : Contract Try.prog 73 [s.v, s.v] [] (Bo true) [] :=
 vcS hmix [.reg 1 [(4, [], some false), (10, [], some false), (17, [], some false), (24, [], some false), (31, [], some false), (38, [], some false), (45, [], some false), (52, [], some false), (61, [], some false)], .cut ⟨[2, 3, 5], [(1000, 1000), (2000, 2000)], []⟩ (.exit 0) (sfS s s.attrs.length)] [] [⟨(by simp : (!(decide (Sp.hi s = Sp.hi s) && (decide (Sp.lo s = Sp.lo s) && true))) = false)⟩, ⟨(by simp : (Sp.id s != Sp.id s) = false)⟩, ⟨(by simp : (Sp.par s != Sp.par s) = false)⟩, ⟨(by simp : (!ByteArray.toList (Sp.svc s) == ByteArray.toList (Sp.svc s)) = false)⟩, ⟨(by simp : (!ByteArray.toList (Sp.op s) == ByteArray.toList (Sp.op s)) = false)⟩, ⟨(by simp : (Sp.start s != Sp.start s) = false)⟩, ⟨(by simp : (Sp.dur s != Sp.dur s) = false)⟩, ⟨(by simp : (!Sp.err s == Sp.err s) = false)⟩, ⟨(by simp : (Int.ofNat (List.length (List.map At.row (Sp.attrs s))) != Int.ofNat (List.length (List.map At.row (Sp.attrs s)))) = false)⟩, ⟨sfL s hs⟩]

theorem sgG (l : List Sp) (x : Sp) (i : Nat) (hx : l[i]? = some x) (hi : i < l.length) (hs : l.length ≤ 1000000) (hm : ∀ s ∈ l, s.attrs.length ≤ 1000000)  : CodeC Try.prog 0 27 sgB (sgS l (i)) .normal (sgS l (i + 1)) :=
 runS hmix [.reg 4 [(3, [], some true)], .reg 6 [(3, [.row (Sp.row x)], none), (7, [.row (Sp.row x)], none), (8, [.call [] [] (Bo true) []], none)], .reg 5 [(1, [.be (I ((i + 1 : Nat) : Int))], none)]] ⟨[0, 1, 5], [], []⟩ [⟨dltm Sp.row hi⟩, ⟨nn i⟩, ⟨ltm Sp.row hi⟩, ⟨gtm Sp.row hx⟩, ⟨nn i⟩, ⟨ltm Sp.row hi⟩, ⟨gtm Sp.row hx⟩, ⟨cSameSpan x (hm x (List.mem_of_getElem? hx))⟩, ⟨w64 (i + 1) (by omega)⟩]

theorem sgE (l : List Sp) (i : Nat) (hs : l.length ≤ 1000000) (hm : ∀ s ∈ l, s.attrs.length ≤ 1000000) (h : l.length ≤ i)  : CodeC Try.prog 0 27 sgB (sgS l (i)) (.exit 0) (sgS l (i)) :=
 runS hmix [.reg 4 [(3, [], some false)]] ⟨[0, 1, 5], [], []⟩ [⟨dgem Sp.row h⟩]

theorem sgL (l : List Sp) (hs : l.length ≤ 1000000) (hm : ∀ s ∈ l, s.attrs.length ≤ 1000000) : LoopC Try.prog 0 27 sgB (sgS l (0)) (.exit 0) (sgS l (l.length)) :=
  LoopC.pass l (fun i => sgS l (i)) (by simp) (fun i x hx hi => sgG l x i hx hi hs hm) (sgE l _ hs hm (Nat.le_refl _))

theorem cSameSpans (l : List Sp) (hs : l.length ≤ 1000000) (hm : ∀ s ∈ l, s.attrs.length ≤ 1000000) : Contract Try.prog 44 [.sl 10 (l.map Sp.row), .sl 10 (l.map Sp.row)] [] (Bo true) [] :=
 vcS hmix [.reg 1 [(4, [], some false)], .cut ⟨[0, 1, 5], [], []⟩ (.exit 0) (sgS l l.length)] [] [⟨(by simp : (Int.ofNat (List.length (List.map Sp.row l)) != Int.ofNat (List.length (List.map Sp.row l))) = false)⟩, ⟨sgL l hs hm⟩]

noncomputable def shB : Code := codeAt Try.prog 16 [true, true, false, true, false, false]

def okE (e : Ep) : Prop := e.spans.length ≤ 1000000 ∧ ∀ s ∈ e.spans, s.attrs.length ≤ 1000000
theorem shG (l : List Ep) (x : Ep) (i : Nat) (hx : l[i]? = some x) (hi : i < l.length) (hs : l.length ≤ 1000000) (hm : ∀ e ∈ l, okE e)  : CodeC Try.prog 0 81 shB (shS l (i)) .normal (shS l (i + 1)) :=
 runS hmix [.reg 4 [(3, [], some true)], .reg 6 [(4, [.row (Ep.row x)], none), (9, [.row (Ep.row x)], none), (10, [], some false), (16, [.row (Ep.row x)], none), (21, [.row (Ep.row x)], none), (22, [], some false), (29, [.row (Ep.row x)], none), (34, [.row (Ep.row x)], none), (35, [], some false), (42, [.row (Ep.row x)], none), (47, [.row (Ep.row x)], none), (48, [], some false), (55, [.row (Ep.row x)], none), (60, [.row (Ep.row x)], none), (61, [.call [] [] (Bo true) []], none)], .reg 5 [(1, [.be (I ((i + 1 : Nat) : Int))], none)]] ⟨[0, 1, 5], [], []⟩ [⟨dltm Ep.row hi⟩, ⟨nn i⟩, ⟨ltm Ep.row hi⟩, ⟨gtm Ep.row hx⟩, ⟨nn i⟩, ⟨ltm Ep.row hi⟩, ⟨gtm Ep.row hx⟩, ⟨(by simp [hx] : (!(decide (Ep.hi x = Ep.hi x) && (decide (Ep.lo x = Ep.lo x) && true))) = false)⟩, ⟨nn i⟩, ⟨ltm Ep.row hi⟩, ⟨gtm Ep.row hx⟩, ⟨nn i⟩, ⟨ltm Ep.row hi⟩, ⟨gtm Ep.row hx⟩, ⟨(by simp [hx] : (Ep.first x != Ep.first x) = false)⟩, ⟨nn i⟩, ⟨ltm Ep.row hi⟩, ⟨gtm Ep.row hx⟩, ⟨nn i⟩, ⟨ltm Ep.row hi⟩, ⟨gtm Ep.row hx⟩, ⟨(by simp [hx] : (Ep.last x != Ep.last x) = false)⟩, ⟨nn i⟩, ⟨ltm Ep.row hi⟩, ⟨gtm Ep.row hx⟩, ⟨nn i⟩, ⟨ltm Ep.row hi⟩, ⟨gtm Ep.row hx⟩, ⟨(by simp [hx] : (!Ep.sure x == Ep.sure x) = false)⟩, ⟨nn i⟩, ⟨ltm Ep.row hi⟩, ⟨gtm Ep.row hx⟩, ⟨nn i⟩, ⟨ltm Ep.row hi⟩, ⟨gtm Ep.row hx⟩, ⟨cSameSpans _ (hm x (List.mem_of_getElem? hx)).1 (hm x (List.mem_of_getElem? hx)).2⟩, ⟨w64 (i + 1) (by omega)⟩]

theorem shE (l : List Ep) (i : Nat) (hs : l.length ≤ 1000000) (hm : ∀ e ∈ l, okE e) (h : l.length ≤ i)  : CodeC Try.prog 0 81 shB (shS l (i)) (.exit 0) (shS l (i)) :=
 runS hmix [.reg 4 [(3, [], some false)]] ⟨[0, 1, 5], [], []⟩ [⟨dgem Ep.row h⟩]

theorem shL (l : List Ep) (hs : l.length ≤ 1000000) (hm : ∀ e ∈ l, okE e) : LoopC Try.prog 0 81 shB (shS l (0)) (.exit 0) (shS l (l.length)) :=
  LoopC.pass l (fun i => shS l (i)) (by simp) (fun i x hx hi => shG l x i hx hi hs hm) (shE l _ hs hm (Nat.le_refl _))

theorem cSameEps (l : List Ep) (hs : l.length ≤ 1000000) (hm : ∀ e ∈ l, okE e) : Contract Try.prog 16 [.sl 6 (l.map Ep.row), .sl 6 (l.map Ep.row)] [] (Bo true) [] :=
 vcS hmix [.reg 1 [(4, [], some false)], .cut ⟨[0, 1, 5], [], []⟩ (.exit 0) (shS l l.length)] [] [⟨(by simp : (Int.ofNat (List.length (List.map Ep.row l)) != Int.ofNat (List.length (List.map Ep.row l))) = false)⟩, ⟨shL l hs hm⟩]

theorem cSameBlock (b : Bk) (hs : b.eps.length ≤ 1000000) (hm : ∀ e ∈ b.eps, okE e) : Contract Try.prog 18 [b.v, b.v] [] (Bo true) [] :=
 vcS hmix [.reg 1 [(4, [], some true), (10, [], some true), (17, [], some true), (24, [.call [] [] (Bo true) []], none)]] [] [⟨(by simp : (Bk.num b == Bk.num b) = true)⟩, ⟨(by simp : (Bk.born b == Bk.born b) = true)⟩, ⟨(by simp : (Bk.tier b == Bk.tier b) = true)⟩, ⟨cSameEps _ hs hm⟩]

end Go.Proofs.Ytdomjccibhgbjaa

/- Block, the plain law: order, sums, small blocks. -/
namespace Go.Proofs.Ytdomjccibhgbjaa
open E
set_option maxRecDepth 100000
set_option linter.unusedVariables false
set_option linter.unusedSimpArgs false

theorem fewE_sm {e : Ep} (h : fewAll e.spans = true) : smE e ∧ okE e := by
  obtain ⟨h1, h2⟩ := fewAll_len h
  exact ⟨⟨by omega, fun s hs => by have := h2 s hs; unfold smS; omega⟩, ⟨by omega, fun s hs => by have := h2 s hs; omega⟩⟩
/-- What is of one trace keeps its order. -/
theorem mrg_filter {p : Ep → Bool} (hp : ∀ x y, p x = true → p y = true → soLt x y = false) : ∀ {A B : List Ep}, Srt soLt A → Srt soLt B → (mrg soLt A B).filter p = A.filter p ++ B.filter p
  | [], B, _, _ => by rw [mrg_nil_l]; simp
  | a :: A, [], _, _ => by rw [mrg_nil_r]; simp
  | a :: A, b :: B, hA, hB => by
    rw [mrg_cons]
    cases h : soLt b a with
    | false =>
      simp only [cond_false, List.filter_cons]
      rw [mrg_filter hp (List.Pairwise.of_cons hA) hB]
      cases p a <;> simp [List.filter_cons]
    | true =>
      simp only [cond_true]
      rw [List.filter_cons, mrg_filter hp hA (List.Pairwise.of_cons hB)]
      cases hb : p b with
      | false => simp [List.filter_cons, hb]
      | true =>
        have : (a :: A).filter p = [] := by
          rw [List.filter_eq_nil_iff]
          intro y hy hpy
          have h1 : soLt y a = false := by
            rcases List.mem_cons.1 hy with rfl | hy
            · exact soOrd.irrefl _
            · exact List.rel_of_pairwise_cons hA hy
          have h2 := soOrd.lt_of_lt_le h h1
          rw [hp b y hb hpy] at h2
          cases h2
        rw [this]
        simp [List.filter_cons, hb]
theorem srt_filter {p : Ep → Bool} (hp : ∀ x y, p x = true → p y = true → soLt x y = false) (l : List Ep) : (srt soLt l).filter p = l.filter p := by
  induction l using snoc_ind with
  | h0 => rfl
  | h1 l a ih =>
    rw [srt_snoc, mrg_filter hp (srt_srt soOrd l) (List.pairwise_singleton _ _), ih, List.filter_append]
theorem eqT_no {h o : Int} (x y : Ep) (hx : eqT h o x = true) (hy : eqT h o y = true) : soLt x y = false := by
  rw [soLt_eq]
  unfold eqT at hx hy
  simp at hx hy ⊢
  omega
theorem srt_twice (l : List Ep) : srt soLt (srt soLt l) = srt soLt l := srt_of_sorted soOrd (srt_srt soOrd l)
theorem srt_step {l : List Ep} {i : Nat} {x y : Ep} (hi : 0 < i) (hx : (srt soLt l)[i]? = some x) (hy : (srt soLt l)[i - 1]? = some y) : soLt x y = false := by
  have hs := srt_srt soOrd l
  obtain ⟨h1, e1⟩ := List.getElem?_eq_some_iff.1 hx
  obtain ⟨h2, e2⟩ := List.getElem?_eq_some_iff.1 hy
  have := List.pairwise_iff_getElem.1 hs (i - 1) i h2 h1 (by omega)
  rw [e1, e2] at this
  exact this

/-! ## Sums -/
theorem xor_bit {a c : Nat} : (a ^^^ c) ^^^ c = a := by rw [Nat.xor_assoc, Nat.xor_self, Nat.xor_zero]
theorem xor_inj {a b c : Nat} (h : a ^^^ c = b ^^^ c) : a = b := by
  have := congrArg (· ^^^ c) h
  simpa only [xor_bit] using this
theorem cst_top {n : Nat} (h : n < 4294967296) : (cst n).testBit 31 = (n % 2 == 1) := by
  unfold cst
  rw [Nat.testBit_xor, Nat.testBit_lt_two_pow (show n / 2 < 2 ^ 31 by omega)]
  rcases Nat.mod_two_eq_zero_or_one n with h0 | h0 <;> rw [h0] <;> decide
theorem cst_inj {a b : Nat} (ha : a < 4294967296) (hb : b < 4294967296) (h : cst a = cst b) : a = b := by
  have ht := cst_top ha
  rw [h, cst_top hb] at ht
  unfold cst at h
  rw [ht] at h
  have h2 := xor_inj h
  rw [Bool.eq_iff_iff] at ht
  simp only [beq_iff_eq] at ht
  omega
theorem cby_inj : ∀ (k : Nat) {a b : Nat}, a < 4294967296 → b < 4294967296 → cby k a = cby k b → a = b
  | 0, _, _, _, _, h => h
  | k + 1, _, _, ha, hb, h => cst_inj ha hb (cby_inj k (cst_lt ha) (cst_lt hb) h)
theorem crcF_inj {n m : Nat} {b c : UInt8} (hn : n < 4294967296) (hm : m < 4294967296) (h : crcF n b = crcF m c) : n ^^^ b.toNat = m ^^^ c.toNat :=
  cby_inj 8 (xor_lt hn (by have := u8_lt b; omega)) (xor_lt hm (by have := u8_lt c; omega)) h
theorem crc_fold_lt : ∀ (l : List UInt8) {n : Nat}, n < 4294967296 → l.foldl crcF n < 4294967296
  | [], _, h => h
  | b :: l, _, h => crc_fold_lt l (crcF_lt b h)
theorem crc_fold_inj : ∀ (l : List UInt8) {n m : Nat}, n < 4294967296 → m < 4294967296 → l.foldl crcF n = l.foldl crcF m → n = m
  | [], _, _, _, _, h => h
  | b :: l, n, m, hn, hm, h => xor_inj (crcF_inj hn hm (crc_fold_inj l (crcF_lt b hn) (crcF_lt b hm) h))
theorem crc_flip {A C : List UInt8} {b c : UInt8} (h : crcM (A ++ b :: C) = crcM (A ++ c :: C)) : b = c := by
  unfold crcM at h
  rw [List.foldl_append, List.foldl_append, List.foldl_cons, List.foldl_cons] at h
  have hA := crc_fold_lt A (n := 4294967295) (by decide)
  have h1 := crc_fold_lt C (crcF_lt b hA)
  have h2 := crc_fold_lt C (crcF_lt c hA)
  have h3 := crc_fold_inj C (crcF_lt b hA) (crcF_lt c hA) (by omega)
  have h4 := crcF_inj hA hA h3
  rw [Nat.xor_comm _ b.toNat, Nat.xor_comm _ c.toNat] at h4
  exact UInt8.toNat_inj.1 (xor_inj h4)
theorem fourB_inj {x y : Nat} (hx : x < 4294967296) (hy : y < 4294967296) (h : fourB x = fourB y) : x = y := by
  have h1 := (le_four (UInt8.ofNat x) (UInt8.ofNat (x / 256)) (UInt8.ofNat (x / 65536)) (UInt8.ofNat (x / 16777216)) x hx).2 rfl
  have h2 := (le_four (UInt8.ofNat x) (UInt8.ofNat (x / 256)) (UInt8.ofNat (x / 65536)) (UInt8.ofNat (x / 16777216)) y hy).2 h
  omega
/-- One byte turned: the sum does not fit. -/
theorem torn {x : List UInt8} {p : Nat} {b : UInt8} (hp : p < (sealB x).length) (hb : (sealB x)[p]? ≠ some b) : openOk ((sealB x).set p b) = false := by
  cases ho : openOk ((sealB x).set p b) with
  | false => rfl
  | true =>
    exfalso
    unfold openOk at ho
    simp only [Bool.and_eq_true, decide_eq_true_eq, beq_iff_eq] at ho
    obtain ⟨_, ho⟩ := ho
    have hl : (sealB x).length = x.length + 4 := by unfold sealB; rw [List.length_append, fourB_len]
    rw [List.length_set, hl, Nat.add_sub_cancel] at ho
    have hp' : p < x.length + 4 := by omega
    by_cases hc : p < x.length
    · have e1 : (sealB x).set p b = x.set p b ++ fourB (crcM x) := by
        unfold sealB
        rw [List.set_append_left _ _ hc]
      have hsl : (x.set p b).length = x.length := List.length_set
      rw [e1, ← hsl, List.drop_left, List.take_left] at ho
      have he := fourB_inj (crcM_lt _) (crcM_lt _) ho
      have ex : x = x.take p ++ x[p] :: x.drop (p + 1) := by
        rw [← List.drop_eq_getElem_cons hc, List.take_append_drop]
      have es : x.set p b = x.take p ++ b :: x.drop (p + 1) := by
        rw [List.set_eq_take_append_cons_drop, if_pos hc]
      rw [es] at he
      conv at he => lhs; rw [ex]
      have := crc_flip he
      apply hb
      unfold sealB
      rw [List.getElem?_append_left hc, List.getElem?_eq_getElem hc, this]
    · have e1 : (sealB x).set p b = x ++ (fourB (crcM x)).set (p - x.length) b := by
        unfold sealB
        rw [List.set_append_right _ _ (by omega)]
      rw [e1, List.drop_left, List.take_left] at ho
      apply hb
      unfold sealB
      rw [List.getElem?_append_right (by omega)]
      have h4 : p - x.length < (fourB (crcM x)).length := by rw [fourB_len]; omega
      have := congrArg (fun l : List UInt8 => l[p - x.length]?) ho
      simp only [List.getElem?_set_self h4] at this
      exact this.symm

/-! ## Small blocks -/
theorem sum_spans {B : Nat} {f : Ep → Nat} : ∀ {l : List Ep}, (∀ e ∈ l, f e ≤ 40 + B * e.spans.length) → (l.map f).sum ≤ 40 * l.length + B * (l.map fun e => e.spans.length).sum
  | [], _ => by simp
  | e :: l, h => by
    have h1 := h e (by simp)
    have h2 := sum_spans (f := f) (B := B) (l := l) fun x hx => h x (by simp [hx])
    simp only [List.map_cons, List.sum_cons, List.length_cons, Nat.mul_add]
    omega
theorem flat_sum {f : Ep → List UInt8} : ∀ l : List Ep, (l.flatMap f).length = (l.map fun e => (f e).length).sum
  | [] => rfl
  | e :: l => by rw [List.flatMap_cons, List.length_append, flat_sum l, List.map_cons, List.sum_cons]
/-- FewB episodes: what they are to all functions. -/
structure FewB (l : List Ep) : Prop where
  len : l.length ≤ 120
  all : ∀ e ∈ l, fewAll e.spans = true
  sum : (l.map fun e => e.spans.length).sum ≤ 120
theorem few_fo {l : List Ep} (h : few15 l 0 = true) : FewB l := by
  obtain ⟨h1, h2, h3⟩ := few15_of l 0 h
  exact ⟨by omega, h2, by omega⟩
theorem few_sm {l : List Ep} (h : FewB l) : ∀ e ∈ l, smE e := fun e he => (fewE_sm (h.all e he)).1
theorem few_ok {l : List Ep} (h : FewB l) : ∀ e ∈ l, okE e := fun e he => (fewE_sm (h.all e he)).2
theorem few_sp {l : List Ep} (h : FewB l) : ∀ e ∈ l, e.spans.length ≤ 60 ∧ ∀ s ∈ e.spans, s.attrs.length ≤ 20 := fun e he => by
  obtain ⟨h1, h2⟩ := fewAll_len (h.all e he)
  exact ⟨h1, fun s hs => by have := h2 s hs; omega⟩
/-- Whose numbers are in range (every argument's are). -/
def wfL (l : List Ep) : Prop := ∀ e ∈ l, wfE e
theorem few_bytes {b : Bk} (hf : FewB b.eps) (hw : wfL b.eps) (hr : rightM b = true) : okB b ∧ (bytesB b).length ≤ 60000 ∧ (b.eps.flatMap epB).length ≤ 50000 := by
  have h4 := (rightM_in hr).2.2.2
  have hs : ∀ e ∈ b.eps, (epB e).length ≤ 40 + 340 * e.spans.length := fun e he => epB_len fun s hs => ⟨(hw e he).2.2 s hs, (episode_ok (h4 e he)).2.2 s hs⟩
  have hsum := sum_spans hs
  rw [← flat_sum (f := epB)] at hsum
  have l1 := hf.len
  have l2 := hf.sum
  have k1 : (b.eps.flatMap epB).length ≤ 50000 := by omega
  refine ⟨⟨hr, by omega, by omega, fun e he => ⟨(hw e he).1, (hw e he).2.1, by have := (few_sp hf e he).1; omega, (hw e he).2.2⟩⟩, ?_, k1⟩
  have k2 := headB_len b
  have k3 := flat_len3 (f := entB) (B := 30) (n := 120) (by omega) fun e (_ : e ∈ b.eps) => entB_len e
  rw [bytesB_ok hr]
  unfold sealB bodyB
  simp only [List.length_append, fourB_len]
  omega
theorem bytesB_no {b : Bk} (h : rightM b = false) : bytesB b = [] := by unfold bytesB; rw [h]; rfl
theorem few_srt {l : List Ep} (h : FewB l) : (srt soLt l).length ≤ 120 ∧ (∀ e ∈ srt soLt l, fewAll e.spans = true) := ⟨by rw [srt_len]; exact h.len, fun e he => h.all e (srt_mem l e he)⟩
end Go.Proofs.Ytdomjccibhgbjaa

/- the document's example. -/
namespace Go.Proofs.Ytdomjccibhgbjaa
open E
set_option maxRecDepth 100000
set_option linter.unusedVariables false
set_option linter.unusedSimpArgs false

def sp0 : Sp := ⟨0, 0, 0, 0, ofB [97], ofB [98], 0, 0, false, []⟩
def ep0 : Ep := ⟨0, 0, 0, 0, false, [sp0]⟩
def bk0 : Bk := ⟨3, 4, 0, [ep0]⟩
def bkZ : Bk := ⟨0, 0, 0, []⟩
theorem bk0_right : rightM bk0 = true := by decide +kernel
theorem bk0_few : FewB bk0.eps := ⟨by decide, by decide +kernel, by decide⟩
theorem sp0_wf : wfS sp0 := ⟨⟨by decide, by decide⟩, ⟨by decide, by decide⟩, ⟨by decide, by decide⟩, ⟨by decide, by decide⟩⟩
theorem bk0_wf : wfL bk0.eps := by
  intro e he
  rw [List.mem_singleton.1 he]
  refine ⟨⟨by decide, by decide⟩, ⟨by decide, by decide⟩, fun s hs => ?_⟩
  rw [List.mem_singleton.1 hs]
  exact sp0_wf
theorem bk0_srt : srt soLt [ep0] = [ep0] := srt_of_sorted soOrd (List.pairwise_singleton _ _)
/-- What reading gives. -/
theorem cReadL (l : List UInt8) (hs : l.length ≤ 100000) : Contract Try.prog 11 [.sl 1 (l.map bR)] [] (bif readL l then .tup [Bk.v (blkL l), I 0] else .tup [Bk.v bkZ, I 2]) [] := cRead l hs
theorem cReadB {b : Bk} (h : okB b) (hs : (bytesB b).length ≤ 100000) : Contract Try.prog 11 [.sl 1 ((bytesB b).map bR)] [] (.tup [Bk.v b, I 0]) [] := by
  have := cReadL (bytesB b) hs
  rw [(read_to h).1, (read_to h).2.1] at this
  exact this
theorem cReadN {l : List UInt8} (h : readL l = false) (hs : l.length ≤ 100000) : Contract Try.prog 11 [.sl 1 (l.map bR)] [] (.tup [Bk.v bkZ, I 2]) [] := by
  have := cReadL l hs
  rw [h] at this
  exact this
/-- What the reference's reading gives: the same. -/
theorem cReadRL (l : List UInt8) (hs : l.length ≤ 100000) : Contract Try.prog 12 [.sl 1 (l.map bR)] [] (bif readL l then .tup [Bk.v (blkL l), I 0] else .tup [Bk.v bkZ, I 2]) [] := by
  have lt : (l.take (l.length - 4)).length ≤ 100000 := by rw [List.length_take]; omega
  have h := cReadBlock l hs (fun hb => by
    obtain ⟨b1, b2, b3⟩ := rbk_fro hb
    refine cBlockBytesO _ (by omega) (fun e he => by have := (b3 e he).2; omega) (fun e he => ?_) (fun _ => by omega)
    have := (b3 e he).1
    exact ⟨this.1, this.2.1, fun s hs => (this.2.2.2.2 s hs).1⟩)
  obtain ⟨k1, k2⟩ := read_eq (l := l) (by omega)
  have h' : Contract Try.prog 12 [.sl 1 (l.map bR)] [] (bif readR l then .tup [Bk.v (blkR l), I 0] else .tup [Bk.v bkZ, I 2]) [] := h
  rw [k1] at h'
  cases hr : readL l with
  | false => rw [hr] at h'; exact h'
  | true => rw [hr, k2 hr] at h'; exact h'
theorem cNumE_0 (n : Int)  : Contract Try.prog 13 [I n] [] (I n) ([]) :=
  vcP hmix [] [] [
      ] (by kernel_rfl)
    trivial

theorem cNumE (n : Int)  : Contract Try.prog 13 [I n] [] (I n) [] := by
  exact Contract.cast (by
    first
      | rfl) (by
    first
      | rfl) (cNumE_0 n  )

theorem cAlive_0   : Contract Try.prog 8 [] [] (Bo true) ([]) :=
  vcP hmix [.reg 1 [(0, [.call [] [] (.tup [Bk.v bkZ, I 2]) []], none)], .reg 2 [(3, [.beO ([ep0].map Ep.row)], none), (4, [.call [] [404000] (Bk.v bk0) []], none)], .reg 3 [(1, [.call [] [] (.sl 1 ((bytesB bk0).map bR)) []], none), (2, [.call [] [] (.tup [Bk.v bk0, I 0]) []], none)], .reg 4 [(1, [.call [] [] (I 2) []], none), (5, [.call [] [] (I 0) []], none), (21, [.call [] [] (Bo true) []], none)]] [] [
      Contract Try.prog (11 : Nat) [V.sl (1 : Nat) []] [] (V.tup [V.agg (Bk.row { num := (0 : Int), born := (0 : Int), tier := (0 : Int), eps := [] }), I (2 : Int)]) [],
      [[V.val (Value.int IntKind.u64 (0 : Int)), V.val (Value.int IntKind.u64 (0 : Int)), I (0 : Int), I (0 : Int), Bo false, V.sl (10 : Nat) [[V.val (Value.int IntKind.u64 (0 : Int)), V.val (Value.int IntKind.u64 (0 : Int)), V.val (Value.int IntKind.u64 (0 : Int)), V.val (Value.int IntKind.u64 (0 : Int)), Sg { data := { toList := [(97 : UInt8)] } }, Sg { data := { toList := [(98 : UInt8)] } }, I (0 : Int), I (0 : Int), Bo false, V.sl (2 : Nat) []]]]] = [Ep.row { hi := (0 : Int), lo := (0 : Int), first := (0 : Int), last := (0 : Int), sure := false, spans := [{ hi := (0 : Int), lo := (0 : Int), id := (0 : Int), par := (0 : Int), svc := { data := { toList := [(97 : UInt8)] } }, op := { data := { toList := [(98 : UInt8)] } }, start := (0 : Int), dur := (0 : Int), err := false, attrs := [] }] }],
      Contract Try.prog (14 : Nat) [I (3 : Int), I (4 : Int), I (0 : Int), V.sl (6 : Nat) [Ep.row { hi := (0 : Int), lo := (0 : Int), first := (0 : Int), last := (0 : Int), sure := false, spans := [{ hi := (0 : Int), lo := (0 : Int), id := (0 : Int), par := (0 : Int), svc := { data := { toList := [(97 : UInt8)] } }, op := { data := { toList := [(98 : UInt8)] } }, start := (0 : Int), dur := (0 : Int), err := false, attrs := [] }] }]] [] (V.agg (Bk.row { num := (3 : Int), born := (4 : Int), tier := (0 : Int), eps := [{ hi := (0 : Int), lo := (0 : Int), first := (0 : Int), last := (0 : Int), sure := false, spans := [{ hi := (0 : Int), lo := (0 : Int), id := (0 : Int), par := (0 : Int), svc := { data := { toList := [(97 : UInt8)] } }, op := { data := { toList := [(98 : UInt8)] } }, start := (0 : Int), dur := (0 : Int), err := false, attrs := [] }] }] })) [],
      Contract Try.prog (20 : Nat) [V.agg [I (3 : Int), I (4 : Int), I (0 : Int), V.sl (6 : Nat) [Ep.row { hi := (0 : Int), lo := (0 : Int), first := (0 : Int), last := (0 : Int), sure := false, spans := [{ hi := (0 : Int), lo := (0 : Int), id := (0 : Int), par := (0 : Int), svc := { data := { toList := [(97 : UInt8)] } }, op := { data := { toList := [(98 : UInt8)] } }, start := (0 : Int), dur := (0 : Int), err := false, attrs := [] }] }]]] [] (V.sl (1 : Nat) (List.map bR (bytesB { num := (3 : Int), born := (4 : Int), tier := (0 : Int), eps := [{ hi := (0 : Int), lo := (0 : Int), first := (0 : Int), last := (0 : Int), sure := false, spans := [{ hi := (0 : Int), lo := (0 : Int), id := (0 : Int), par := (0 : Int), svc := { data := { toList := [(97 : UInt8)] } }, op := { data := { toList := [(98 : UInt8)] } }, start := (0 : Int), dur := (0 : Int), err := false, attrs := [] }] }] }))) [],
      Contract Try.prog (11 : Nat) [V.sl (1 : Nat) (List.map bR (bytesB { num := (3 : Int), born := (4 : Int), tier := (0 : Int), eps := [{ hi := (0 : Int), lo := (0 : Int), first := (0 : Int), last := (0 : Int), sure := false, spans := [{ hi := (0 : Int), lo := (0 : Int), id := (0 : Int), par := (0 : Int), svc := { data := { toList := [(97 : UInt8)] } }, op := { data := { toList := [(98 : UInt8)] } }, start := (0 : Int), dur := (0 : Int), err := false, attrs := [] }] }] }))] [] (V.tup [V.agg (Bk.row { num := (3 : Int), born := (4 : Int), tier := (0 : Int), eps := [{ hi := (0 : Int), lo := (0 : Int), first := (0 : Int), last := (0 : Int), sure := false, spans := [{ hi := (0 : Int), lo := (0 : Int), id := (0 : Int), par := (0 : Int), svc := { data := { toList := [(97 : UInt8)] } }, op := { data := { toList := [(98 : UInt8)] } }, start := (0 : Int), dur := (0 : Int), err := false, attrs := [] }] }] }), I (0 : Int)]) [],
      Contract Try.prog (13 : Nat) [I (2 : Int)] [] (I (2 : Int)) [],
      Contract Try.prog (13 : Nat) [I (0 : Int)] [] (I (0 : Int)) [],
      Contract Try.prog (26 : Nat) [V.agg [I (3 : Int), I (4 : Int), I (0 : Int), V.sl (6 : Nat) [Ep.row { hi := (0 : Int), lo := (0 : Int), first := (0 : Int), last := (0 : Int), sure := false, spans := [{ hi := (0 : Int), lo := (0 : Int), id := (0 : Int), par := (0 : Int), svc := { data := { toList := [(97 : UInt8)] } }, op := { data := { toList := [(98 : UInt8)] } }, start := (0 : Int), dur := (0 : Int), err := false, attrs := [] }] }]]] [] (Bo true) []] (by kernel_rfl)
    (by
      simp only [allP]
      and_intros <;> first
        | exact cReadN (l := []) (by decide +kernel) (by decide)
        | (have w := mk0 3 4 0 [ep0] (by decide) (few_sm bk0_few); rw [bk0_srt] at w; exact w)
        | exact cBytes bk0 (by decide) (fun e he => by have := few_sp bk0_few e he; exact ⟨by omega, fun s hs => by have := this.2 s hs; omega⟩) bk0_wf
        | exact cReadB (few_bytes bk0_few bk0_wf bk0_right).1 (Nat.le_trans (few_bytes bk0_few bk0_wf bk0_right).2.1 (by decide))
        | exact cNumE _
        | (have w := cRightM bk0 (by decide) (fun e he => by have := few_sp bk0_few e he; exact ⟨by omega, fun s hs => by have := this.2 s hs; omega⟩); rw [bk0_right] at w; exact w)
        | exact rfl)

theorem cAlive   : Contract Try.prog 8 [] [] (Bo true) [] := by
  exact Contract.cast (by
    first
      | rfl) (by
    first
      | rfl) (cAlive_0   )

end Go.Proofs.Ytdomjccibhgbjaa

/- no block of which a bit was turned is one. -/
namespace Go.Proofs.Ytdomjccibhgbjaa
open E
set_option maxRecDepth 100000
set_option linter.unusedVariables false
set_option linter.unusedSimpArgs false

/-- A number's rest, that is not below 0. -/
theorem tmodN (c m : Nat) : Int.tmod (c : Int) (m : Int) = ((c % m : Nat) : Int) := by
  rw [Int.tmod_eq_emod_of_nonneg (by omega)]
  rfl
theorem sh1 {j : Nat} (h : j < 8) : shlI IntKind.u8 1 (Int.ofNat j) = Int.ofNat (2 ^ j) := by
  have : ∀ j : Fin 8, shlI IntKind.u8 1 (Int.ofNat j.val) = Int.ofNat (2 ^ j.val) := by decide
  exact this ⟨j, h⟩
theorem two_lt {j : Nat} (h : j < 8) : 2 ^ j < 256 := by
  have : ∀ j : Fin 8, 2 ^ j.val < 256 := by decide
  exact this ⟨j, h⟩
theorem xor1 {z z2 : UInt8} {j : Nat} (h : j < 8) (hz : z2.toNat = z.toNat ^^^ 2 ^ j) : Int.ofNat ((z.toNat % 256 ^^^ 2 ^ j % 256) % 256) = Int.ofNat z2.toNat := by
  have h1 := u8_lt z
  have h2 := two_lt h
  have h3 := u8_lt z2
  rw [Nat.mod_eq_of_lt h1, Nat.mod_eq_of_lt h2, ← hz, Nat.mod_eq_of_lt h3]
theorem tdivN (c m : Nat) : Int.tdiv (c : Int) (m : Int) = ((c / m : Nat) : Int) := by
  rw [Int.tdiv_eq_ediv_of_nonneg (by omega)]
  rfl
theorem toN1_0 (b : Bk) (x : List UInt8) (cut bit : Int) (hB : Contract Try.prog 9 [b.v] [] (.sl 1 (x.map bR)) []) (hf : few15 b.eps 0 = false) : Contract Try.prog 3 [b.v, I cut, I bit] [] (Bo true) ([]) :=
  vcP hmix [.reg 1 [(0, [.call [] [] (Bo true) []], none)], .reg 2 [(1, [.call [] [] (.sl 1 (x.map bR)) []], none)], .reg 3 [(5, [.call [] [] (Bo (few15 b.eps 0)) []], none), (6, [], some true)]] [] [
      Contract Try.prog (8 : Nat) [] [] (Bo true) [],
      Contract Try.prog (9 : Nat) [V.agg [I (Bk.num b), I (Bk.born b), I (Bk.tier b), V.sl (6 : Nat) (List.map Ep.row (Bk.eps b))]] [] (V.sl (1 : Nat) (List.map bR x)) [],
      Contract Try.prog (10 : Nat) [V.sl (6 : Nat) (List.map Ep.row (Bk.eps b))] [] (Bo (few15 (Bk.eps b) (0 : Nat))) [],
      (!few15 (Bk.eps b) (0 : Nat)) = true] (by kernel_rfl)
    (by
      simp only [allP]
      and_intros <;> first
        | exact cAlive
        | exact hB
        | exact cFew15 b.eps
        | (simp [hf]; done))

theorem toN1 (b : Bk) (x : List UInt8) (cut bit : Int) (hB : Contract Try.prog 9 [b.v] [] (.sl 1 (x.map bR)) []) (hf : few15 b.eps 0 = false) : Contract Try.prog 3 [b.v, I cut, I bit] [] (Bo true) [] := by
  exact Contract.cast (by
    first
      | rfl) (by
    first
      | rfl) (toN1_0 b x cut bit hB hf )

theorem toN2_0 (b : Bk) (x : List UInt8) (cut bit : Int) (hB : Contract Try.prog 9 [b.v] [] (.sl 1 (x.map bR)) []) (hf : few15 b.eps 0 = true) (h : x.length = 0) : Contract Try.prog 3 [b.v, I cut, I bit] [] (Bo true) ([]) :=
  vcP hmix [.reg 1 [(0, [.call [] [] (Bo true) []], none)], .reg 2 [(1, [.call [] [] (.sl 1 (x.map bR)) []], none)], .reg 3 [(5, [.call [] [] (Bo (few15 b.eps 0)) []], none), (6, [], some false), (10, [.be (I (x.length : Int))], none), (11, [], some true)]] [] [
      Contract Try.prog (8 : Nat) [] [] (Bo true) [],
      Contract Try.prog (9 : Nat) [V.agg [I (Bk.num b), I (Bk.born b), I (Bk.tier b), V.sl (6 : Nat) (List.map Ep.row (Bk.eps b))]] [] (V.sl (1 : Nat) (List.map bR x)) [],
      Contract Try.prog (10 : Nat) [V.sl (6 : Nat) (List.map Ep.row (Bk.eps b))] [] (Bo (few15 (Bk.eps b) (0 : Nat))) [],
      (!few15 (Bk.eps b) (0 : Nat)) = false,
      Int.ofNat (List.length (List.map bR x)) = Int.ofNat (List.length x),
      (Int.ofNat (List.length x) == (0 : Int)) = true] (by kernel_rfl)
    (by
      simp only [allP]
      and_intros <;> first
        | exact cAlive
        | exact hB
        | exact cFew15 b.eps
        | (simp [hf]; done)
        | (simp [h]; done))

theorem toN2 (b : Bk) (x : List UInt8) (cut bit : Int) (hB : Contract Try.prog 9 [b.v] [] (.sl 1 (x.map bR)) []) (hf : few15 b.eps 0 = true) (h : x.length = 0) : Contract Try.prog 3 [b.v, I cut, I bit] [] (Bo true) [] := by
  exact Contract.cast (by
    first
      | rfl) (by
    first
      | rfl) (toN2_0 b x cut bit hB hf h )

theorem toN3_0 (b : Bk) (x : List UInt8) (cut bit : Int) (hB : Contract Try.prog 9 [b.v] [] (.sl 1 (x.map bR)) []) (hf : few15 b.eps 0 = true) (h : x.length ≠ 0) (hc : cut < 0) : Contract Try.prog 3 [b.v, I cut, I bit] [] (Bo true) ([]) :=
  vcP hmix [.reg 1 [(0, [.call [] [] (Bo true) []], none)], .reg 2 [(1, [.call [] [] (.sl 1 (x.map bR)) []], none)], .reg 3 [(5, [.call [] [] (Bo (few15 b.eps 0)) []], none), (6, [], some false), (10, [.be (I (x.length : Int))], none), (11, [], some false), (15, [], some true)]] [] [
      Contract Try.prog (8 : Nat) [] [] (Bo true) [],
      Contract Try.prog (9 : Nat) [V.agg [I (Bk.num b), I (Bk.born b), I (Bk.tier b), V.sl (6 : Nat) (List.map Ep.row (Bk.eps b))]] [] (V.sl (1 : Nat) (List.map bR x)) [],
      Contract Try.prog (10 : Nat) [V.sl (6 : Nat) (List.map Ep.row (Bk.eps b))] [] (Bo (few15 (Bk.eps b) (0 : Nat))) [],
      (!few15 (Bk.eps b) (0 : Nat)) = false,
      Int.ofNat (List.length (List.map bR x)) = Int.ofNat (List.length x),
      (Int.ofNat (List.length x) == (0 : Int)) = false,
      decide (cut < (0 : Int)) = true] (by kernel_rfl)
    (by
      simp only [allP]
      and_intros <;> first
        | exact cAlive
        | exact hB
        | exact cFew15 b.eps
        | (simp [hf]; done)
        | (simp only [beq_eq_false_iff_ne, ne_eq, Int.ofNat_eq_natCast]; omega)
        | (simp; omega))

theorem toN3 (b : Bk) (x : List UInt8) (cut bit : Int) (hB : Contract Try.prog 9 [b.v] [] (.sl 1 (x.map bR)) []) (hf : few15 b.eps 0 = true) (h : x.length ≠ 0) (hc : cut < 0) : Contract Try.prog 3 [b.v, I cut, I bit] [] (Bo true) [] := by
  exact Contract.cast (by
    first
      | rfl) (by
    first
      | rfl) (toN3_0 b x cut bit hB hf h hc )

theorem toN4_0 (b : Bk) (x : List UInt8) (cut bit : Int) (hB : Contract Try.prog 9 [b.v] [] (.sl 1 (x.map bR)) []) (hf : few15 b.eps 0 = true) (h : x.length ≠ 0) (hc : 0 ≤ cut) (hb : bit < 0) : Contract Try.prog 3 [b.v, I cut, I bit] [] (Bo true) ([]) :=
  vcP hmix [.reg 1 [(0, [.call [] [] (Bo true) []], none)], .reg 2 [(1, [.call [] [] (.sl 1 (x.map bR)) []], none)], .reg 3 [(5, [.call [] [] (Bo (few15 b.eps 0)) []], none), (6, [], some false), (10, [.be (I (x.length : Int))], none), (11, [], some false), (15, [], some false), (19, [], some true)]] [] [
      Contract Try.prog (8 : Nat) [] [] (Bo true) [],
      Contract Try.prog (9 : Nat) [V.agg [I (Bk.num b), I (Bk.born b), I (Bk.tier b), V.sl (6 : Nat) (List.map Ep.row (Bk.eps b))]] [] (V.sl (1 : Nat) (List.map bR x)) [],
      Contract Try.prog (10 : Nat) [V.sl (6 : Nat) (List.map Ep.row (Bk.eps b))] [] (Bo (few15 (Bk.eps b) (0 : Nat))) [],
      (!few15 (Bk.eps b) (0 : Nat)) = false,
      Int.ofNat (List.length (List.map bR x)) = Int.ofNat (List.length x),
      (Int.ofNat (List.length x) == (0 : Int)) = false,
      decide (cut < (0 : Int)) = false,
      decide (bit < (0 : Int)) = true] (by kernel_rfl)
    (by
      simp only [allP]
      and_intros <;> first
        | exact cAlive
        | exact hB
        | exact cFew15 b.eps
        | (simp [hf]; done)
        | (simp only [beq_eq_false_iff_ne, ne_eq, Int.ofNat_eq_natCast]; omega)
        | (simp; omega))

theorem toN4 (b : Bk) (x : List UInt8) (cut bit : Int) (hB : Contract Try.prog 9 [b.v] [] (.sl 1 (x.map bR)) []) (hf : few15 b.eps 0 = true) (h : x.length ≠ 0) (hc : 0 ≤ cut) (hb : bit < 0) : Contract Try.prog 3 [b.v, I cut, I bit] [] (Bo true) [] := by
  exact Contract.cast (by
    first
      | rfl) (by
    first
      | rfl) (toN4_0 b x cut bit hB hf h hc hb )

theorem toY_0 (b : Bk) (x : List UInt8) (cut bit : Int) (p k : Nat) (z z2 : UInt8) (y : Bk) (e : Int) (hB : Contract Try.prog 9 [b.v] [] (.sl 1 (x.map bR)) []) (hf : few15 b.eps 0 = true) (h : x.length ≠ 0) (hl : x.length ≤ 100000) (hc : 0 ≤ cut) (hb : 0 ≤ bit) (hp : Int.tmod cut (x.length : Int) = (p : Int)) (hp2 : p < x.length) (hk : Int.tmod bit ((8 * x.length : Nat) : Int) = (k : Int)) (hk2 : k / 8 < x.length) (hz : x[k / 8]? = some z) (hz2 : z2.toNat = z.toNat ^^^ 2 ^ (k % 8)) (h1 : Contract Try.prog 11 [.sl 1 ((x.take p).map bR)] [] (.tup [Bk.v y, I e]) []) (h2 : Contract Try.prog 12 [.sl 1 ((x.take p).map bR)] [] (.tup [Bk.v y, I e]) []) (h3 : Contract Try.prog 11 [.sl 1 ((x.set (k / 8) z2).map bR)] [] (.tup [Bk.v bkZ, I 2]) []) : Contract Try.prog 3 [b.v, I cut, I bit] [] (Bo true) ([]) :=
  vcP hmix [.reg 1 [(0, [.call [] [] (Bo true) []], none)], .reg 2 [(1, [.call [] [] (.sl 1 (x.map bR)) []], none)], .reg 3 [(5, [.call [] [] (Bo (few15 b.eps 0)) []], none), (6, [], some false), (10, [.be (I (x.length : Int))], none), (11, [], some false), (15, [], some false), (19, [], some false)], .reg 5 [(3, [.be (I (x.length : Int))], none), (4, [.idx 0, .be (I (p : Int))], none), (5, [.be (.sl 1 ((x.take p).map bR))], none), (6, [.call [] [] (.tup [Bk.v y, I e]) []], none)], .reg 6 [(3, [.be (I (x.length : Int))], none), (4, [.idx 0, .be (I (p : Int))], none), (5, [.be (.sl 1 ((x.take p).map bR))], none), (6, [.call [] [] (.tup [Bk.v y, I e]) []], none)], .reg 7 [(1, [.beO (x.map bR)], none)], .reg 8 [(2, [.be (I (x.length : Int))], none), (3, [.be (I ((8 * x.length : Nat) : Int))], none), (4, [.idx 0, .be (I (k : Int))], none)], .reg 9 [(2, [.be (I ((k / 8 : Nat) : Int))], none), (5, [.be (I ((k / 8 : Nat) : Int))], none), (7, [.row (bR z)], none), (9, [.be (I ((k % 8 : Nat) : Int))], none), (10, [.be (U ((k % 8 : Nat) : Int))], none), (11, [.idx 0, .be (.val (.int .u8 ((2 ^ (k % 8) : Nat) : Int)))], none), (12, [.be (.val (.int .u8 ((z2.toNat : Nat) : Int)))], none), (14, [.row (bR z), .beO ((x.set (k / 8) z2).map bR)], none)], .reg 10 [(1, [.call [] [1402000] (.tup [Bk.v bkZ, I 2]) []], none)], .reg 11 [(1, [.call [] [] (I e) []], none), (3, [], some true), (6, [.call [] [] (I 2) []], none)]] [] [
      Contract Try.prog (8 : Nat) [] [] (Bo true) [],
      Contract Try.prog (9 : Nat) [V.agg [I (Bk.num b), I (Bk.born b), I (Bk.tier b), V.sl (6 : Nat) (List.map Ep.row (Bk.eps b))]] [] (V.sl (1 : Nat) (List.map bR x)) [],
      Contract Try.prog (10 : Nat) [V.sl (6 : Nat) (List.map Ep.row (Bk.eps b))] [] (Bo (few15 (Bk.eps b) (0 : Nat))) [],
      (!few15 (Bk.eps b) (0 : Nat)) = false,
      Int.ofNat (List.length (List.map bR x)) = Int.ofNat (List.length x),
      (Int.ofNat (List.length x) == (0 : Int)) = false,
      decide (cut < (0 : Int)) = false,
      decide (bit < (0 : Int)) = false,
      Int.ofNat (List.length (List.map bR x)) = Int.ofNat (List.length x),
      Int.ofNat (List.length x) ≠ (0 : Int),
      Int.tmod cut (Int.ofNat (List.length x)) = Int.ofNat p,
      (0 : Int) ≤ (0 : Int),
      (0 : Int) ≤ Int.ofNat p,
      Int.ofNat p ≤ Int.ofNat (List.length (List.map bR x)),
      List.take p (List.map bR x) = List.map bR (List.take p x),
      Contract Try.prog (11 : Nat) [V.sl (1 : Nat) (List.map bR (List.take p x))] [] (V.tup [V.agg (Bk.row y), I e]) [],
      Int.ofNat (List.length (List.map bR x)) = Int.ofNat (List.length x),
      Int.ofNat (List.length x) ≠ (0 : Int),
      Int.tmod cut (Int.ofNat (List.length x)) = Int.ofNat p,
      (0 : Int) ≤ (0 : Int),
      (0 : Int) ≤ Int.ofNat p,
      Int.ofNat p ≤ Int.ofNat (List.length (List.map bR x)),
      List.take p (List.map bR x) = List.map bR (List.take p x),
      Contract Try.prog (12 : Nat) [V.sl (1 : Nat) (List.map bR (List.take p x))] [] (V.tup [V.agg (Bk.row y), I e]) [],
      List.length (List.map bR x) * (1 : Nat) ≤ (140737488355328 : Nat),
      List.map bR x = List.map bR x,
      Int.ofNat (List.length (List.map bR x)) = Int.ofNat (List.length x),
      IntKind.wrap IntKind.i64 ((8 : Int) * Int.ofNat (List.length x)) = Int.ofNat ((8 : Nat) * List.length x),
      Int.ofNat ((8 : Nat) * List.length x) ≠ (0 : Int),
      Int.tmod bit (Int.ofNat ((8 : Nat) * List.length x)) = Int.ofNat k,
      IntKind.wrap IntKind.i64 (Int.ofNat (k / (8 : Nat))) = Int.ofNat (k / (8 : Nat)),
      IntKind.wrap IntKind.i64 (Int.ofNat (k / (8 : Nat))) = Int.ofNat (k / (8 : Nat)),
      (0 : Int) ≤ Int.ofNat (k / (8 : Nat)),
      Int.ofNat (k / (8 : Nat)) < Int.ofNat (List.length (List.map bR x)),
      (List.map bR x)[k / (8 : Nat)]? = some (bR z),
      Int.ofNat (k % (8 : Nat)) = Int.ofNat (k % (8 : Nat)),
      Int.ofNat (k % (8 : Nat) % (18446744073709551616 : Nat)) = Int.ofNat (k % (8 : Nat)),
      (0 : Int) ≤ Int.ofNat (k % (8 : Nat)),
      shlI IntKind.u8 (1 : Int) (Int.ofNat (k % (8 : Nat))) = Int.ofNat ((2 : Nat) ^ (k % (8 : Nat))),
      Int.ofNat (((UInt8.toNat z % (256 : Nat)) ^^^ ((2 : Nat) ^ (k % (8 : Nat)) % (256 : Nat))) % (256 : Nat)) = Int.ofNat (UInt8.toNat z2),
      (0 : Int) ≤ Int.ofNat (k / (8 : Nat)),
      Int.ofNat (k / (8 : Nat)) < Int.ofNat (List.length (List.map bR x)),
      (List.map bR x)[k / (8 : Nat)]? = some (bR z),
      List.set (List.map bR x) (k / (8 : Nat)) [V.val (Value.int IntKind.u8 (Int.ofNat (UInt8.toNat z2)))] = List.map bR (List.set x (k / (8 : Nat)) z2),
      Contract Try.prog (11 : Nat) [V.sl (1 : Nat) (List.map bR (List.set x (k / (8 : Nat)) z2))] [] (V.tup [V.agg (Bk.row { num := (0 : Int), born := (0 : Int), tier := (0 : Int), eps := [] }), I (2 : Int)]) [],
      Contract Try.prog (13 : Nat) [I e] [] (I e) [],
      (e == e) = true,
      Contract Try.prog (13 : Nat) [I (2 : Int)] [] (I (2 : Int)) []] (by kernel_rfl)
    (by
      simp only [allP]
      and_intros <;> first
        | omega
        | exact cAlive
        | exact hB
        | exact cFew15 b.eps
        | (simp [hf]; done)
        | exact h1
        | exact h2
        | exact h3
        | exact cNumE _
        | exact sh1 (Nat.mod_lt _ (by decide))
        | exact xor1 (Nat.mod_lt _ (by decide)) hz2
        | (rw [List.getElem?_map, hz]; rfl)
        | (rw [List.map_set]; rfl)
        | (rw [i64_small (by simp only [Int.ofNat_eq_natCast]; omega)]; simp; done)
        | exact i64_small (by simp only [Int.ofNat_eq_natCast]; omega)
        | (rw [Nat.mod_eq_of_lt (by omega)]; done)
        | (simp only [beq_eq_false_iff_ne, ne_eq, Int.ofNat_eq_natCast]; omega)
        | (simp; omega))

theorem toY (b : Bk) (x : List UInt8) (cut bit : Int) (p k : Nat) (z z2 : UInt8) (y : Bk) (e : Int) (hB : Contract Try.prog 9 [b.v] [] (.sl 1 (x.map bR)) []) (hf : few15 b.eps 0 = true) (h : x.length ≠ 0) (hl : x.length ≤ 100000) (hc : 0 ≤ cut) (hb : 0 ≤ bit) (hp : Int.tmod cut (x.length : Int) = (p : Int)) (hp2 : p < x.length) (hk : Int.tmod bit ((8 * x.length : Nat) : Int) = (k : Int)) (hk2 : k / 8 < x.length) (hz : x[k / 8]? = some z) (hz2 : z2.toNat = z.toNat ^^^ 2 ^ (k % 8)) (h1 : Contract Try.prog 11 [.sl 1 ((x.take p).map bR)] [] (.tup [Bk.v y, I e]) []) (h2 : Contract Try.prog 12 [.sl 1 ((x.take p).map bR)] [] (.tup [Bk.v y, I e]) []) (h3 : Contract Try.prog 11 [.sl 1 ((x.set (k / 8) z2).map bR)] [] (.tup [Bk.v bkZ, I 2]) []) : Contract Try.prog 3 [b.v, I cut, I bit] [] (Bo true) [] := by
  exact Contract.cast (by
    first
      | rfl) (by
    first
      | rfl) (toY_0 b x cut bit p k z z2 y e hB hf h hl hc hb hp hp2 hk hk2 hz hz2 h1 h2 h3 )

theorem attB_sz (a : At) : (attB a).length ≤ 10 * szL a.row := by
  have h1 := textB_len a.key
  have h2 := textB_len a.val
  simp only [attB, List.flatMap_cons, List.flatMap_nil, List.append_nil, List.length_append, At.row, szL, Sg, V.sz]
  omega
theorem flat_sz {α : Type} {f : α → List UInt8} {row : α → List V} (h : ∀ x, (f x).length ≤ 10 * szL (row x)) : ∀ l : List α, (l.flatMap f).length ≤ 10 * szRs (l.map row)
  | [] => Nat.zero_le _
  | x :: l => by
    have := h x
    have := flat_sz h l
    simp only [List.flatMap_cons, List.length_append, List.map_cons, szRs]
    omega
theorem spanB_sz (s : Sp) : (spanB s).length ≤ 10 * szL s.row := by
  have := spanB_app s []
  rw [List.append_nil] at this
  rw [this]
  have h1 := vintI_len s.hi
  have h2 := vintI_len s.lo
  have h3 := vintI_len s.id
  have h4 := vintI_len s.par
  have h5 := textB_len s.svc
  have h6 := textB_len s.op
  have h7 := vintI_len s.start
  have h8 := vintI_len s.dur
  have h9 := flagB_len s.err
  have h10 := vintI_len (s.attrs.length : Int)
  have h11 := flat_sz attB_sz s.attrs
  simp only [List.length_append, List.append_nil, Sp.row, szL, U, I, Bo, Sg, V.sz]
  omega
theorem epB_sz (e : Ep) : (epB e).length ≤ 10 * szL e.row := by
  have h1 := vintI_len e.first
  have h2 := vintI_len e.last
  have h3 := flagB_len e.sure
  have h4 := vintI_len (e.spans.length : Int)
  have h5 := flat_sz spanB_sz e.spans
  have := epB_app e []
  rw [List.append_nil] at this
  rw [this]
  simp only [List.length_append, List.append_nil, Ep.row, szL, U, I, Bo, V.sz]
  omega
theorem eps_sz : ∀ l : List Ep, 6 * l.length ≤ szRs (l.map Ep.row)
  | [] => Nat.zero_le _
  | e :: l => by
    have := eps_sz l
    simp only [List.length_cons, List.map_cons, szRs, Ep.row, szL, U, I, Bo, V.sz]
    omega
theorem cTorn (b : Bk) (cut bit : Int) (hm : ∀ e ∈ b.eps, e.spans.length ≤ 1048576) (hw : wfL b.eps) (hz : (Bk.v b).sz ≤ 1048576) : Contract Try.prog 3 [b.v, I cut, I bit] [] (Bo true) [] := by
  have e1 := eps_sz b.eps
  have e2 := flat_sz epB_sz b.eps
  have e3 : szRs (b.eps.map Ep.row) ≤ 1048576 := by
    simp only [Bk.v, Bk.row, V.sz, szL, I] at hz
    omega
  have hB := cBlockBytes b (by omega) hm hw (fun _ => by omega)
  cases hf : few15 b.eps 0 with
  | false => exact toN1 b _ cut bit hB hf
  | true =>
    have hk := few_fo hf
    by_cases h0 : (bytesB b).length = 0
    · exact toN2 b _ cut bit hB hf h0
    · by_cases hc : cut < 0
      · exact toN3 b _ cut bit hB hf h0 hc
      · by_cases hb : bit < 0
        · exact toN4 b _ cut bit hB hf h0 (by omega) hb
        · have hr : rightM b = true := by
            cases hr : rightM b with
            | true => rfl
            | false => rw [bytesB_no hr] at h0; exact absurd rfl h0
          obtain ⟨b1, b2, _⟩ := few_bytes hk hw hr
          have hpos : 0 < (bytesB b).length := by omega
          have p2 := Nat.mod_lt cut.toNat hpos
          have k2 := Nat.mod_lt bit.toNat (show 0 < 8 * (bytesB b).length by omega)
          generalize hp : cut.toNat % (bytesB b).length = p at p2
          generalize hkk : bit.toNat % (8 * (bytesB b).length) = k at k2
          have q1 : Int.tmod cut ((bytesB b).length : Int) = (p : Int) := by
            have : cut = (cut.toNat : Int) := by omega
            rw [this, tmodN, hp]
          have q2 : Int.tmod bit ((8 * (bytesB b).length : Nat) : Int) = (k : Int) := by
            have : bit = (bit.toNat : Int) := by omega
            rw [this, tmodN, hkk]
          have k3 : k / 8 < (bytesB b).length := by omega
          have hz1 : (bytesB b)[k / 8]? = some (bytesB b)[k / 8] := List.getElem?_eq_getElem k3
          generalize (bytesB b)[k / 8] = z at hz1
          have hj : k % 8 < 8 := Nat.mod_lt _ (by decide)
          have hlt : z.toNat ^^^ 2 ^ (k % 8) < 256 := Nat.xor_lt_two_pow (n := 8) (u8_lt z) (two_lt hj)
          have hz2 : (UInt8.ofNat (z.toNat ^^^ 2 ^ (k % 8))).toNat = z.toNat ^^^ 2 ^ (k % 8) := by rw [UInt8.toNat_ofNat', Nat.mod_eq_of_lt hlt]
          generalize UInt8.ofNat (z.toNat ^^^ 2 ^ (k % 8)) = z2 at hz2
          have hne : (bytesB b)[k / 8]? ≠ some z2 := by
            rw [hz1]
            intro h
            simp only [Option.some.injEq] at h
            subst h
            have h9 : z.toNat ^^^ (z.toNat ^^^ 2 ^ (k % 8)) = z.toNat ^^^ z.toNat := by rw [← hz2]
            rw [← Nat.xor_assoc, Nat.xor_self, Nat.zero_xor] at h9
            have := Nat.two_pow_pos (k % 8)
            omega
          have h3 : readL ((bytesB b).set (k / 8) z2) = false := by
            unfold readL
            have : openOk ((bytesB b).set (k / 8) z2) = false := by
              rw [bytesB_ok hr] at hne k3 ⊢
              exact torn k3 hne
            rw [this]
            rfl
          have ht : ((bytesB b).take p).length ≤ 100000 := by rw [List.length_take]; omega
          have r1 := cReadL _ ht
          have r2 := cReadRL _ ht
          have r3 := cReadN h3 (by rw [List.length_set]; omega)
          cases hr2 : readL ((bytesB b).take p) with
          | true => rw [hr2] at r1 r2; exact toY b _ cut bit p k z z2 _ _ hB hf h0 (by omega) (by omega) (by omega) q1 p2 q2 k3 hz1 hz2 r1 r2 r3
          | false => rw [hr2] at r1 r2; exact toY b _ cut bit p k z z2 _ _ hB hf h0 (by omega) (by omega) (by omega) q1 p2 q2 k3 hz1 hz2 r1 r2 r3
end Go.Proofs.Ytdomjccibhgbjaa

