/- bucket: what its functions give (and those of the reference). -/
import Derived.Test.YtfaoiniaphmjnaaChecked
import Derived.Test.YtfaoiniaphmjnaaEngX
namespace Go.Proofs.Ytfaoiniaphmjnaa
open E
set_option maxRecDepth 100000

theorem hmix : Try.prog.follows .mixedOrders = true := by kernel_rfl

def U (n : Int) : V := .val (.int .u64 n)

/-- A counter's cells. -/
def ctr (f : Nat → Int) : V := .agg [I (f 0), I (f 1), I (f 2), I (f 3), I (f 4), I (f 5), I (f 6), I (f 7), I (f 8), I (f 9)]

structure Sp where
  hi : Int
  lo : Int
  id : Int
  par : Int
  svc : ByteArray
  op : ByteArray
  start : Int
  dur : Int
  err : Bool
  attrs : List (List V)

def Sp.v (s : Sp) : V := .agg [U s.hi, U s.lo, U s.id, U s.par, Sg s.svc, Sg s.op, I s.start, I s.dur, Bo s.err, .sl 2 s.attrs]

def step (d x n : Int) : Int := bif decide (x ≤ d) then IntKind.i64.wrap (n + 1) else n
def ofR (d : Int) : Int := step d 1000 (step d 500 (step d 100 (step d 50 (step d 10 (step d 5 (step d 1 0))))))

def mn (a b : Int) : Int := if b < a then b else a
def mx (a b : Int) : Int := if a < b then b else a
def plusR (a b most : Int) : Int :=
  let m := mx 0 most
  let a := mx 0 (mn a m)
  let b := mx 0 (mn b m)
  IntKind.i64.wrap (a + mn b (IntKind.i64.wrap (m - a)))
def capR (n low high : Int) : Int := bif decide (n < low) then low else bif decide (high < n) then high else n
def sumR (a b most : Int) : Int :=
  let m := capR most 0 9223372036854775807
  let a := capR a 0 m
  let b := capR b 0 m
  bif decide (IntKind.i64.wrap (m - a) < b) then m else IntKind.i64.wrap (a + b)

def oneF (k : Int) (err : Bool) : Nat → Int
  | 0 => 1
  | 1 => bif err then 1 else 0
  | i => bif decide (k = (i : Int) - 2) then 1 else 0

theorem c17 (n low high : Int) : Contract Try.prog 17 [I n, I low, I high] [] (I (capR n low high)) [] := by
  cases h1 : decide (n < low) with
  | true => rw [show capR n low high = low by simp only [capR, h1, cond_true]]; exact vcP hmix [.reg 1 [(2, [], some true)]] [] [decide (n < low) = true] (by kernel_rfl) h1
  | false =>
    cases h2 : decide (high < n) with
    | true => rw [show capR n low high = high by simp only [capR, h1, h2, cond_true, cond_false]]; exact vcP hmix [.reg 1 [(2, [], some false)], .reg 3 [(2, [], some true)]] [] [decide (n < low) = false, decide (high < n) = true] (by kernel_rfl) ⟨h1, h2⟩
    | false => rw [show capR n low high = n by simp only [capR, h1, h2, cond_false]]; exact vcP hmix [.reg 1 [(2, [], some false)], .reg 3 [(2, [], some false)]] [] [decide (n < low) = false, decide (high < n) = false] (by kernel_rfl) ⟨h1, h2⟩

def F17 : List V → Option V
  | [.val (.int .i64 n), .val (.int .i64 low), .val (.int .i64 high)] => some (I (capR n low high))
  | _ => none

theorem c16 (a b most : Int) : Contract Try.prog 16 [I a, I b, I most] [] (I (sumR a b most)) [] := by
  cases h : decide (IntKind.i64.wrap (capR most 0 9223372036854775807 - capR a 0 (capR most 0 9223372036854775807)) < capR b 0 (capR most 0 9223372036854775807)) with
  | true =>
    rw [show sumR a b most = capR most 0 9223372036854775807 by simp only [sumR, h, cond_true]]
    exact vcP hmix [.reg 4 [(4, [], some true)], .tab [(17, F17)]] [] [Contract Try.prog 17 [I most, I 0, I 9223372036854775807] [] (I (capR most 0 9223372036854775807)) [],
      Contract Try.prog 17 [I a, I 0, I (capR most 0 9223372036854775807)] [] (I (capR a 0 (capR most 0 9223372036854775807))) [],
      Contract Try.prog 17 [I b, I 0, I (capR most 0 9223372036854775807)] [] (I (capR b 0 (capR most 0 9223372036854775807))) [],
      decide (IntKind.i64.wrap (capR most 0 9223372036854775807 - capR a 0 (capR most 0 9223372036854775807)) < capR b 0 (capR most 0 9223372036854775807)) = true] (by kernel_rfl) ⟨c17 .., c17 .., c17 .., h⟩
  | false =>
    rw [show sumR a b most = IntKind.i64.wrap (capR a 0 (capR most 0 9223372036854775807) + capR b 0 (capR most 0 9223372036854775807)) by simp only [sumR, h, cond_false]]
    exact vcP hmix [.reg 4 [(4, [], some false)], .tab [(17, F17)]] [] [Contract Try.prog 17 [I most, I 0, I 9223372036854775807] [] (I (capR most 0 9223372036854775807)) [],
      Contract Try.prog 17 [I a, I 0, I (capR most 0 9223372036854775807)] [] (I (capR a 0 (capR most 0 9223372036854775807))) [],
      Contract Try.prog 17 [I b, I 0, I (capR most 0 9223372036854775807)] [] (I (capR b 0 (capR most 0 9223372036854775807))) [],
      decide (IntKind.i64.wrap (capR most 0 9223372036854775807 - capR a 0 (capR most 0 9223372036854775807)) < capR b 0 (capR most 0 9223372036854775807)) = false] (by kernel_rfl) ⟨c17 .., c17 .., c17 .., h⟩

theorem c15 (a b most : Int) : Contract Try.prog 15 [I a, I b, I most] [] (I (plusR a b most)) [] := vcP hmix [] [] [] (by kernel_rfl) trivial

theorem c8 (d : Int) : Contract Try.prog 8 [I d] [] (I (ofR d)) [] :=
  vcP hmix [.unroll 8, .fork 14 [] [], .fork 14 [] [], .fork 14 [] [], .fork 14 [] [], .fork 14 [] [], .fork 14 [] [], .fork 14 [] []] [] [(0 : Int) ≤ 0, (0 : Int) < 7, (0 : Int) ≤ 1, (1 : Int) < 7, (0 : Int) ≤ 2, (2 : Int) < 7, (0 : Int) ≤ 3, (3 : Int) < 7, (0 : Int) ≤ 4, (4 : Int) < 7, (0 : Int) ≤ 5, (5 : Int) < 7, (0 : Int) ≤ 6, (6 : Int) < 7] (by kernel_rfl) (by simp [allP])

theorem c9 (d : Int) : Contract Try.prog 9 [I d] [] (I (ofR d)) [] :=
  vcP hmix [.unroll 8, .fork 18 [] [], .fork 18 [] [], .fork 18 [] [], .fork 18 [] [], .fork 18 [] [], .fork 18 [] [], .fork 18 [] []] [] [(0 : Int) ≤ 0, (0 : Int) < 7, (0 : Int) ≤ 1, (1 : Int) < 7, (0 : Int) ≤ 2, (2 : Int) < 7, (0 : Int) ≤ 3, (3 : Int) < 7, (0 : Int) ≤ 4, (4 : Int) < 7, (0 : Int) ≤ 5, (5 : Int) < 7, (0 : Int) ≤ 6, (6 : Int) < 7] (by kernel_rfl) (by simp [allP])

end Go.Proofs.Ytfaoiniaphmjnaa
