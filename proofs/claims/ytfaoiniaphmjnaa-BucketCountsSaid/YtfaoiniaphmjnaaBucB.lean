/- bucket: counters. -/
import Derived.Test.YtfaoiniaphmjnaaBucA
namespace Go.Proofs.Ytfaoiniaphmjnaa
open E
set_option maxRecDepth 100000

def F8 : List V → Option V
  | [.val (.int .i64 d)] => some (I (ofR d))
  | _ => none
def F15 : List V → Option V
  | [.val (.int .i64 a), .val (.int .i64 b), .val (.int .i64 m)] => some (I (plusR a b m))
  | _ => none
def F16 : List V → Option V
  | [.val (.int .i64 a), .val (.int .i64 b), .val (.int .i64 m)] => some (I (sumR a b m))
  | _ => none

def toI : V → Int
  | .val (.int _ n) => n
  | _ => 0
/-- A counter's numbers. -/
def num (cs : List V) (i : Nat) : Int := toI (cs.getD i .undef)

def flag (cs : List V) (i : Nat) : Bool := match cs.getD i .undef with
  | .val (.bool b) => b
  | _ => false

def joinF (p : Int → Int → Int → Int) (a b : Nat → Int) (m : Int) (i : Nat) : Int := p (a i) (b i) m

def F12 : List V → Option V
  | [.agg xs, .agg ys, .val (.int .i64 m)] => some (ctr (joinF plusR (num xs) (num ys) m))
  | _ => none
def F13 : List V → Option V
  | [.agg xs, .agg ys, .val (.int .i64 m)] => some (ctr (joinF sumR (num xs) (num ys) m))
  | _ => none

theorem c12 (a b : Nat → Int) (m : Int) : Contract Try.prog 12 [ctr a, ctr b, I m] [] (ctr (joinF plusR a b m)) [] :=
  vcP hmix [.unroll 9, .tab [(15, F15)]] [] [Contract Try.prog 15 [I (a 0), I (b 0), I m] [] (I (plusR (a 0) (b 0) m)) [], Contract Try.prog 15 [I (a 1), I (b 1), I m] [] (I (plusR (a 1) (b 1) m)) [], Contract Try.prog 15 [I (a 2), I (b 2), I m] [] (I (plusR (a 2) (b 2) m)) [], Contract Try.prog 15 [I (a 3), I (b 3), I m] [] (I (plusR (a 3) (b 3) m)) [], Contract Try.prog 15 [I (a 4), I (b 4), I m] [] (I (plusR (a 4) (b 4) m)) [], Contract Try.prog 15 [I (a 5), I (b 5), I m] [] (I (plusR (a 5) (b 5) m)) [], Contract Try.prog 15 [I (a 6), I (b 6), I m] [] (I (plusR (a 6) (b 6) m)) [], Contract Try.prog 15 [I (a 7), I (b 7), I m] [] (I (plusR (a 7) (b 7) m)) [], Contract Try.prog 15 [I (a 8), I (b 8), I m] [] (I (plusR (a 8) (b 8) m)) [], Contract Try.prog 15 [I (a 9), I (b 9), I m] [] (I (plusR (a 9) (b 9) m)) []] (by kernel_rfl)
    ⟨c15 .., c15 .., c15 .., c15 .., c15 .., c15 .., c15 .., c15 .., c15 .., c15 ..⟩

theorem c13 (a b : Nat → Int) (m : Int) : Contract Try.prog 13 [ctr a, ctr b, I m] [] (ctr (joinF sumR a b m)) [] :=
  vcP hmix [.unroll 9, .tab [(16, F16)]] [] [Contract Try.prog 16 [I (a 0), I (b 0), I m] [] (I (sumR (a 0) (b 0) m)) [], Contract Try.prog 16 [I (a 1), I (b 1), I m] [] (I (sumR (a 1) (b 1) m)) [], Contract Try.prog 16 [I (a 2), I (b 2), I m] [] (I (sumR (a 2) (b 2) m)) [], Contract Try.prog 16 [I (a 3), I (b 3), I m] [] (I (sumR (a 3) (b 3) m)) [], Contract Try.prog 16 [I (a 4), I (b 4), I m] [] (I (sumR (a 4) (b 4) m)) [], Contract Try.prog 16 [I (a 5), I (b 5), I m] [] (I (sumR (a 5) (b 5) m)) [], Contract Try.prog 16 [I (a 6), I (b 6), I m] [] (I (sumR (a 6) (b 6) m)) [], Contract Try.prog 16 [I (a 7), I (b 7), I m] [] (I (sumR (a 7) (b 7) m)) [], Contract Try.prog 16 [I (a 8), I (b 8), I m] [] (I (sumR (a 8) (b 8) m)) [], Contract Try.prog 16 [I (a 9), I (b 9), I m] [] (I (sumR (a 9) (b 9) m)) []] (by kernel_rfl)
    ⟨c16 .., c16 .., c16 .., c16 .., c16 .., c16 .., c16 .., c16 .., c16 .., c16 ..⟩

theorem step_range (d x n : Int) (h : 0 ≤ n ∧ n ≤ 100) : (step d x n = n + 1 ∧ x ≤ d) ∨ (step d x n = n ∧ d < x) := by
  unfold step
  cases h2 : decide (x ≤ d) with
  | true =>
    left
    have : x ≤ d := of_decide_eq_true h2
    refine ⟨?_, this⟩
    simp only [cond_true, IntKind.wrap]
    simp [IntKind.signed, IntKind.bits]
    omega
  | false =>
    right
    have : ¬ x ≤ d := of_decide_eq_false h2
    exact ⟨by simp only [cond_false], by omega⟩

/-- The bucket is a count. -/
theorem ofR_cases (d : Int) : ofR d = 0 ∨ ofR d = 1 ∨ ofR d = 2 ∨ ofR d = 3 ∨ ofR d = 4 ∨ ofR d = 5 ∨ ofR d = 6 ∨ ofR d = 7 := by
  unfold ofR
  have h1 := step_range d 1 0 (by omega)
  have h2 := step_range d 5 (step d 1 0) (by omega)
  have h3 := step_range d 10 (step d 5 (step d 1 0)) (by omega)
  have h4 := step_range d 50 (step d 10 (step d 5 (step d 1 0))) (by omega)
  have h5 := step_range d 100 (step d 50 (step d 10 (step d 5 (step d 1 0)))) (by omega)
  have h6 := step_range d 500 (step d 100 (step d 50 (step d 10 (step d 5 (step d 1 0))))) (by omega)
  have h7 := step_range d 1000 (step d 500 (step d 100 (step d 50 (step d 10 (step d 5 (step d 1 0)))))) (by omega)
  omega

theorem c14 (s : Sp) : Contract Try.prog 14 [s.v] [] (ctr (oneF (ofR s.dur) s.err)) [] := by
  cases s with
  | mk hi lo id par svc op start dur err attrs =>
  show Contract Try.prog 14 [Sp.v ⟨hi, lo, id, par, svc, op, start, dur, err, attrs⟩] [] (ctr (oneF (ofR dur) err)) []
  rcases ofR_cases dur with h | h | h | h | h | h | h | h <;> rw [h] <;> cases err
  · exact vcP hmix [.reg 2 [(4, [.idx 0], none)], .tab [(8, F8)]] [] [Contract Try.prog 8 [I dur] [] (I (ofR dur)) [], ofR dur = 0] (by kernel_rfl) ⟨c8 dur, h⟩
  · exact vcP hmix [.reg 2 [(4, [.idx 0], none)], .tab [(8, F8)]] [] [Contract Try.prog 8 [I dur] [] (I (ofR dur)) [], ofR dur = 0] (by kernel_rfl) ⟨c8 dur, h⟩
  · exact vcP hmix [.reg 2 [(4, [.idx 1], none)], .tab [(8, F8)]] [] [Contract Try.prog 8 [I dur] [] (I (ofR dur)) [], ofR dur = 1] (by kernel_rfl) ⟨c8 dur, h⟩
  · exact vcP hmix [.reg 2 [(4, [.idx 1], none)], .tab [(8, F8)]] [] [Contract Try.prog 8 [I dur] [] (I (ofR dur)) [], ofR dur = 1] (by kernel_rfl) ⟨c8 dur, h⟩
  · exact vcP hmix [.reg 2 [(4, [.idx 2], none)], .tab [(8, F8)]] [] [Contract Try.prog 8 [I dur] [] (I (ofR dur)) [], ofR dur = 2] (by kernel_rfl) ⟨c8 dur, h⟩
  · exact vcP hmix [.reg 2 [(4, [.idx 2], none)], .tab [(8, F8)]] [] [Contract Try.prog 8 [I dur] [] (I (ofR dur)) [], ofR dur = 2] (by kernel_rfl) ⟨c8 dur, h⟩
  · exact vcP hmix [.reg 2 [(4, [.idx 3], none)], .tab [(8, F8)]] [] [Contract Try.prog 8 [I dur] [] (I (ofR dur)) [], ofR dur = 3] (by kernel_rfl) ⟨c8 dur, h⟩
  · exact vcP hmix [.reg 2 [(4, [.idx 3], none)], .tab [(8, F8)]] [] [Contract Try.prog 8 [I dur] [] (I (ofR dur)) [], ofR dur = 3] (by kernel_rfl) ⟨c8 dur, h⟩
  · exact vcP hmix [.reg 2 [(4, [.idx 4], none)], .tab [(8, F8)]] [] [Contract Try.prog 8 [I dur] [] (I (ofR dur)) [], ofR dur = 4] (by kernel_rfl) ⟨c8 dur, h⟩
  · exact vcP hmix [.reg 2 [(4, [.idx 4], none)], .tab [(8, F8)]] [] [Contract Try.prog 8 [I dur] [] (I (ofR dur)) [], ofR dur = 4] (by kernel_rfl) ⟨c8 dur, h⟩
  · exact vcP hmix [.reg 2 [(4, [.idx 5], none)], .tab [(8, F8)]] [] [Contract Try.prog 8 [I dur] [] (I (ofR dur)) [], ofR dur = 5] (by kernel_rfl) ⟨c8 dur, h⟩
  · exact vcP hmix [.reg 2 [(4, [.idx 5], none)], .tab [(8, F8)]] [] [Contract Try.prog 8 [I dur] [] (I (ofR dur)) [], ofR dur = 5] (by kernel_rfl) ⟨c8 dur, h⟩
  · exact vcP hmix [.reg 2 [(4, [.idx 6], none)], .tab [(8, F8)]] [] [Contract Try.prog 8 [I dur] [] (I (ofR dur)) [], ofR dur = 6] (by kernel_rfl) ⟨c8 dur, h⟩
  · exact vcP hmix [.reg 2 [(4, [.idx 6], none)], .tab [(8, F8)]] [] [Contract Try.prog 8 [I dur] [] (I (ofR dur)) [], ofR dur = 6] (by kernel_rfl) ⟨c8 dur, h⟩
  · exact vcP hmix [.reg 2 [(4, [.idx 7], none)], .tab [(8, F8)]] [] [Contract Try.prog 8 [I dur] [] (I (ofR dur)) [], ofR dur = 7] (by kernel_rfl) ⟨c8 dur, h⟩
  · exact vcP hmix [.reg 2 [(4, [.idx 7], none)], .tab [(8, F8)]] [] [Contract Try.prog 8 [I dur] [] (I (ofR dur)) [], ofR dur = 7] (by kernel_rfl) ⟨c8 dur, h⟩

def F14 : List V → Option V
  | [.agg cs] => some (ctr (oneF (ofR (num cs 7)) (flag cs 8)))
  | _ => none

theorem c10 (a : Nat → Int) (s : Sp) (m : Int) : Contract Try.prog 10 [ctr a, s.v, I m] [] (ctr (joinF plusR a (oneF (ofR s.dur) s.err) m)) [] :=
  vcP hmix [.tab [(14, F14), (12, F12)]] [] [Contract Try.prog 14 [s.v] [] (ctr (oneF (ofR s.dur) s.err)) [], Contract Try.prog 12 [ctr a, ctr (oneF (ofR s.dur) s.err), I m] [] (ctr (joinF plusR a (oneF (ofR s.dur) s.err) m)) []] (by kernel_rfl) ⟨c14 s, c12 _ _ _⟩

theorem c11 (a : Nat → Int) (s : Sp) (m : Int) : Contract Try.prog 11 [ctr a, s.v, I m] [] (ctr (joinF sumR a (oneF (ofR s.dur) s.err) m)) [] := by
  cases s with
  | mk hi lo id par svc op start dur err attrs =>
  show Contract Try.prog 11 [ctr a, Sp.v ⟨hi, lo, id, par, svc, op, start, dur, err, attrs⟩, I m] [] (ctr (joinF sumR a (oneF (ofR dur) err) m)) []
  rcases ofR_cases dur with h | h | h | h | h | h | h | h <;> rw [h] <;> cases err
  · exact vcP hmix [.reg 2 [(4, [.idx 0], none)], .tab [(9, F8), (13, F13)]] [] [Contract Try.prog 9 [I dur] [] (I (ofR dur)) [], ofR dur = 0, Contract Try.prog 13 [ctr a, ctr (oneF 0 false), I m] [] (ctr (joinF sumR a (oneF 0 false) m)) []] (by kernel_rfl) ⟨c9 dur, h, c13 _ _ _⟩
  · exact vcP hmix [.reg 2 [(4, [.idx 0], none)], .tab [(9, F8), (13, F13)]] [] [Contract Try.prog 9 [I dur] [] (I (ofR dur)) [], ofR dur = 0, Contract Try.prog 13 [ctr a, ctr (oneF 0 true), I m] [] (ctr (joinF sumR a (oneF 0 true) m)) []] (by kernel_rfl) ⟨c9 dur, h, c13 _ _ _⟩
  · exact vcP hmix [.reg 2 [(4, [.idx 1], none)], .tab [(9, F8), (13, F13)]] [] [Contract Try.prog 9 [I dur] [] (I (ofR dur)) [], ofR dur = 1, Contract Try.prog 13 [ctr a, ctr (oneF 1 false), I m] [] (ctr (joinF sumR a (oneF 1 false) m)) []] (by kernel_rfl) ⟨c9 dur, h, c13 _ _ _⟩
  · exact vcP hmix [.reg 2 [(4, [.idx 1], none)], .tab [(9, F8), (13, F13)]] [] [Contract Try.prog 9 [I dur] [] (I (ofR dur)) [], ofR dur = 1, Contract Try.prog 13 [ctr a, ctr (oneF 1 true), I m] [] (ctr (joinF sumR a (oneF 1 true) m)) []] (by kernel_rfl) ⟨c9 dur, h, c13 _ _ _⟩
  · exact vcP hmix [.reg 2 [(4, [.idx 2], none)], .tab [(9, F8), (13, F13)]] [] [Contract Try.prog 9 [I dur] [] (I (ofR dur)) [], ofR dur = 2, Contract Try.prog 13 [ctr a, ctr (oneF 2 false), I m] [] (ctr (joinF sumR a (oneF 2 false) m)) []] (by kernel_rfl) ⟨c9 dur, h, c13 _ _ _⟩
  · exact vcP hmix [.reg 2 [(4, [.idx 2], none)], .tab [(9, F8), (13, F13)]] [] [Contract Try.prog 9 [I dur] [] (I (ofR dur)) [], ofR dur = 2, Contract Try.prog 13 [ctr a, ctr (oneF 2 true), I m] [] (ctr (joinF sumR a (oneF 2 true) m)) []] (by kernel_rfl) ⟨c9 dur, h, c13 _ _ _⟩
  · exact vcP hmix [.reg 2 [(4, [.idx 3], none)], .tab [(9, F8), (13, F13)]] [] [Contract Try.prog 9 [I dur] [] (I (ofR dur)) [], ofR dur = 3, Contract Try.prog 13 [ctr a, ctr (oneF 3 false), I m] [] (ctr (joinF sumR a (oneF 3 false) m)) []] (by kernel_rfl) ⟨c9 dur, h, c13 _ _ _⟩
  · exact vcP hmix [.reg 2 [(4, [.idx 3], none)], .tab [(9, F8), (13, F13)]] [] [Contract Try.prog 9 [I dur] [] (I (ofR dur)) [], ofR dur = 3, Contract Try.prog 13 [ctr a, ctr (oneF 3 true), I m] [] (ctr (joinF sumR a (oneF 3 true) m)) []] (by kernel_rfl) ⟨c9 dur, h, c13 _ _ _⟩
  · exact vcP hmix [.reg 2 [(4, [.idx 4], none)], .tab [(9, F8), (13, F13)]] [] [Contract Try.prog 9 [I dur] [] (I (ofR dur)) [], ofR dur = 4, Contract Try.prog 13 [ctr a, ctr (oneF 4 false), I m] [] (ctr (joinF sumR a (oneF 4 false) m)) []] (by kernel_rfl) ⟨c9 dur, h, c13 _ _ _⟩
  · exact vcP hmix [.reg 2 [(4, [.idx 4], none)], .tab [(9, F8), (13, F13)]] [] [Contract Try.prog 9 [I dur] [] (I (ofR dur)) [], ofR dur = 4, Contract Try.prog 13 [ctr a, ctr (oneF 4 true), I m] [] (ctr (joinF sumR a (oneF 4 true) m)) []] (by kernel_rfl) ⟨c9 dur, h, c13 _ _ _⟩
  · exact vcP hmix [.reg 2 [(4, [.idx 5], none)], .tab [(9, F8), (13, F13)]] [] [Contract Try.prog 9 [I dur] [] (I (ofR dur)) [], ofR dur = 5, Contract Try.prog 13 [ctr a, ctr (oneF 5 false), I m] [] (ctr (joinF sumR a (oneF 5 false) m)) []] (by kernel_rfl) ⟨c9 dur, h, c13 _ _ _⟩
  · exact vcP hmix [.reg 2 [(4, [.idx 5], none)], .tab [(9, F8), (13, F13)]] [] [Contract Try.prog 9 [I dur] [] (I (ofR dur)) [], ofR dur = 5, Contract Try.prog 13 [ctr a, ctr (oneF 5 true), I m] [] (ctr (joinF sumR a (oneF 5 true) m)) []] (by kernel_rfl) ⟨c9 dur, h, c13 _ _ _⟩
  · exact vcP hmix [.reg 2 [(4, [.idx 6], none)], .tab [(9, F8), (13, F13)]] [] [Contract Try.prog 9 [I dur] [] (I (ofR dur)) [], ofR dur = 6, Contract Try.prog 13 [ctr a, ctr (oneF 6 false), I m] [] (ctr (joinF sumR a (oneF 6 false) m)) []] (by kernel_rfl) ⟨c9 dur, h, c13 _ _ _⟩
  · exact vcP hmix [.reg 2 [(4, [.idx 6], none)], .tab [(9, F8), (13, F13)]] [] [Contract Try.prog 9 [I dur] [] (I (ofR dur)) [], ofR dur = 6, Contract Try.prog 13 [ctr a, ctr (oneF 6 true), I m] [] (ctr (joinF sumR a (oneF 6 true) m)) []] (by kernel_rfl) ⟨c9 dur, h, c13 _ _ _⟩
  · exact vcP hmix [.reg 2 [(4, [.idx 7], none)], .tab [(9, F8), (13, F13)]] [] [Contract Try.prog 9 [I dur] [] (I (ofR dur)) [], ofR dur = 7, Contract Try.prog 13 [ctr a, ctr (oneF 7 false), I m] [] (ctr (joinF sumR a (oneF 7 false) m)) []] (by kernel_rfl) ⟨c9 dur, h, c13 _ _ _⟩
  · exact vcP hmix [.reg 2 [(4, [.idx 7], none)], .tab [(9, F8), (13, F13)]] [] [Contract Try.prog 9 [I dur] [] (I (ofR dur)) [], ofR dur = 7, Contract Try.prog 13 [ctr a, ctr (oneF 7 true), I m] [] (ctr (joinF sumR a (oneF 7 true) m)) []] (by kernel_rfl) ⟨c9 dur, h, c13 _ _ _⟩

def F10 : List V → Option V
  | [.agg xs, .agg cs, .val (.int .i64 m)] => some (ctr (joinF plusR (num xs) (oneF (ofR (num cs 7)) (flag cs 8)) m))
  | _ => none
def F11 : List V → Option V
  | [.agg xs, .agg cs, .val (.int .i64 m)] => some (ctr (joinF sumR (num xs) (oneF (ofR (num cs 7)) (flag cs 8)) m))
  | _ => none

def sp7 : Sp := ⟨0, 0, 0, 0, ByteArray.empty, ByteArray.empty, 0, 7, true, []⟩
theorem c7 : Contract Try.prog 7 [] [] (Bo true) [] :=
  vcP hmix [.tab [(10, F10), (8, F8)]] [] [Contract Try.prog 10 [ctr (fun _ => 0), sp7.v, I 9] [] (ctr (joinF plusR (fun _ => 0) (oneF (ofR 7) true) 9)) [], Contract Try.prog 8 [I 0] [] (I (ofR 0)) []] (by kernel_rfl) ⟨c10 _ sp7 _, c8 _⟩
end Go.Proofs.Ytfaoiniaphmjnaa
