/- bucket: BucketOrder. -/
import Derived.Test.YtebifjkpbibdcaaRows
import Derived.Test.YtebifjkpbibdcaaBucB
namespace Go.Proofs.Ytebifjkpbibdcaa
open E Go.ChangeShapes Go.WideShapes Go.ChangeAt Go.RowKit
set_option maxRecDepth 100000

theorem ofR_range (d : Int) : 0 ≤ ofR d ∧ ofR d < 8 := by
  have := ofR_cases d
  omega

theorem ofR_mono {a b : Int} (h : a ≤ b) : ofR a ≤ ofR b := by
  unfold ofR
  have key : ∀ d : Int, ∃ n1 n2 n3 n4 n5 n6 n7 : Int, n1 = step d 1 0 ∧ n2 = step d 5 n1 ∧ n3 = step d 10 n2 ∧ n4 = step d 50 n3 ∧ n5 = step d 100 n4 ∧ n6 = step d 500 n5 ∧ n7 = step d 1000 n6 ∧
      ((n1 = 1 ∧ 1 ≤ d) ∨ (n1 = 0 ∧ d < 1)) ∧ ((n2 = n1 + 1 ∧ 5 ≤ d) ∨ (n2 = n1 ∧ d < 5)) ∧ ((n3 = n2 + 1 ∧ 10 ≤ d) ∨ (n3 = n2 ∧ d < 10)) ∧ ((n4 = n3 + 1 ∧ 50 ≤ d) ∨ (n4 = n3 ∧ d < 50)) ∧
      ((n5 = n4 + 1 ∧ 100 ≤ d) ∨ (n5 = n4 ∧ d < 100)) ∧ ((n6 = n5 + 1 ∧ 500 ≤ d) ∨ (n6 = n5 ∧ d < 500)) ∧ ((n7 = n6 + 1 ∧ 1000 ≤ d) ∨ (n7 = n6 ∧ d < 1000)) := by
    intro d
    have h1 := step_range d 1 0 (by omega)
    have h2 := step_range d 5 (step d 1 0) (by omega)
    have h3 := step_range d 10 (step d 5 (step d 1 0)) (by omega)
    have h4 := step_range d 50 (step d 10 (step d 5 (step d 1 0))) (by omega)
    have h5 := step_range d 100 (step d 50 (step d 10 (step d 5 (step d 1 0)))) (by omega)
    have h6 := step_range d 500 (step d 100 (step d 50 (step d 10 (step d 5 (step d 1 0))))) (by omega)
    have h7 := step_range d 1000 (step d 500 (step d 100 (step d 50 (step d 10 (step d 5 (step d 1 0)))))) (by omega)
    exact ⟨_, _, _, _, _, _, _, rfl, rfl, rfl, rfl, rfl, rfl, rfl, by omega, h2, h3, h4, h5, h6, h7⟩
  obtain ⟨a1, a2, a3, a4, a5, a6, a7, rfl, rfl, rfl, rfl, rfl, rfl, e7, p1, p2, p3, p4, p5, p6, p7⟩ := key a
  obtain ⟨b1, b2, b3, b4, b5, b6, b7, rfl, rfl, rfl, rfl, rfl, rfl, f7, q1, q2, q3, q4, q5, q6, q7⟩ := key b
  rw [← e7, ← f7]
  omega

def F7 : List V → Option V := fun _ => some (Bo true)

theorem c6 (a b : Int) : Contract Try.prog 6 [I a, I b] [] (Bo true) [] := by
  have ra := ofR_range a
  have rb := ofR_range b
  cases h : decide (a ≤ b) with
  | true =>
    have h2 : decide (ofR b < ofR a) = false := decide_eq_false (by have := ofR_mono (of_decide_eq_true h); omega)
    exact vcP hmix [.unroll 8, .reg 10 [(3, [], some true), (7, [], some true), (11, [], some true), (15, [], some true), (20, [], some true), (24, [], some false)], .tab [(7, F7), (8, F8)]] []
      [Contract Try.prog 7 [] [] (Bo true) [], (0 : Int) ≤ 0, (0 : Int) < 7, Contract Try.prog 8 [I 1] [] (I (ofR 1)) [], (0 : Int) ≤ 0, (0 : Int) < 7, Contract Try.prog 8 [I 0] [] (I (ofR 0)) [], (0 : Int) ≤ 1, (1 : Int) < 7, Contract Try.prog 8 [I 5] [] (I (ofR 5)) [], (0 : Int) ≤ 1, (1 : Int) < 7, Contract Try.prog 8 [I 4] [] (I (ofR 4)) [], (0 : Int) ≤ 2, (2 : Int) < 7, Contract Try.prog 8 [I 10] [] (I (ofR 10)) [], (0 : Int) ≤ 2, (2 : Int) < 7, Contract Try.prog 8 [I 9] [] (I (ofR 9)) [], (0 : Int) ≤ 3, (3 : Int) < 7, Contract Try.prog 8 [I 50] [] (I (ofR 50)) [], (0 : Int) ≤ 3, (3 : Int) < 7, Contract Try.prog 8 [I 49] [] (I (ofR 49)) [], (0 : Int) ≤ 4, (4 : Int) < 7, Contract Try.prog 8 [I 100] [] (I (ofR 100)) [], (0 : Int) ≤ 4, (4 : Int) < 7, Contract Try.prog 8 [I 99] [] (I (ofR 99)) [], (0 : Int) ≤ 5, (5 : Int) < 7, Contract Try.prog 8 [I 500] [] (I (ofR 500)) [], (0 : Int) ≤ 5, (5 : Int) < 7, Contract Try.prog 8 [I 499] [] (I (ofR 499)) [], (0 : Int) ≤ 6, (6 : Int) < 7, Contract Try.prog 8 [I 1000] [] (I (ofR 1000)) [], (0 : Int) ≤ 6, (6 : Int) < 7, Contract Try.prog 8 [I 999] [] (I (ofR 999)) [], Contract Try.prog 8 [I a] [] (I (ofR a)) [], Contract Try.prog 8 [I b] [] (I (ofR b)) [], decide (0 ≤ ofR a) = true, decide (ofR a < 8) = true, decide (0 ≤ ofR b) = true, decide (ofR b < 8) = true, decide (a ≤ b) = true, decide (ofR b < ofR a) = false] (by kernel_rfl)
      ⟨c7, by decide, by decide, c8 _, by decide, by decide, c8 _, by decide, by decide, c8 _, by decide, by decide, c8 _, by decide, by decide, c8 _, by decide, by decide, c8 _, by decide, by decide, c8 _, by decide, by decide, c8 _, by decide, by decide, c8 _, by decide, by decide, c8 _, by decide, by decide, c8 _, by decide, by decide, c8 _, by decide, by decide, c8 _, by decide, by decide, c8 _, c8 _, c8 _, decide_eq_true ra.1, decide_eq_true ra.2, decide_eq_true rb.1, decide_eq_true rb.2, h, h2⟩
  | false =>
    exact vcP hmix [.unroll 8, .reg 10 [(3, [], some true), (7, [], some true), (11, [], some true), (15, [], some true), (20, [], some false)], .tab [(7, F7), (8, F8)]] []
      [Contract Try.prog 7 [] [] (Bo true) [], (0 : Int) ≤ 0, (0 : Int) < 7, Contract Try.prog 8 [I 1] [] (I (ofR 1)) [], (0 : Int) ≤ 0, (0 : Int) < 7, Contract Try.prog 8 [I 0] [] (I (ofR 0)) [], (0 : Int) ≤ 1, (1 : Int) < 7, Contract Try.prog 8 [I 5] [] (I (ofR 5)) [], (0 : Int) ≤ 1, (1 : Int) < 7, Contract Try.prog 8 [I 4] [] (I (ofR 4)) [], (0 : Int) ≤ 2, (2 : Int) < 7, Contract Try.prog 8 [I 10] [] (I (ofR 10)) [], (0 : Int) ≤ 2, (2 : Int) < 7, Contract Try.prog 8 [I 9] [] (I (ofR 9)) [], (0 : Int) ≤ 3, (3 : Int) < 7, Contract Try.prog 8 [I 50] [] (I (ofR 50)) [], (0 : Int) ≤ 3, (3 : Int) < 7, Contract Try.prog 8 [I 49] [] (I (ofR 49)) [], (0 : Int) ≤ 4, (4 : Int) < 7, Contract Try.prog 8 [I 100] [] (I (ofR 100)) [], (0 : Int) ≤ 4, (4 : Int) < 7, Contract Try.prog 8 [I 99] [] (I (ofR 99)) [], (0 : Int) ≤ 5, (5 : Int) < 7, Contract Try.prog 8 [I 500] [] (I (ofR 500)) [], (0 : Int) ≤ 5, (5 : Int) < 7, Contract Try.prog 8 [I 499] [] (I (ofR 499)) [], (0 : Int) ≤ 6, (6 : Int) < 7, Contract Try.prog 8 [I 1000] [] (I (ofR 1000)) [], (0 : Int) ≤ 6, (6 : Int) < 7, Contract Try.prog 8 [I 999] [] (I (ofR 999)) [], Contract Try.prog 8 [I a] [] (I (ofR a)) [], Contract Try.prog 8 [I b] [] (I (ofR b)) [], decide (0 ≤ ofR a) = true, decide (ofR a < 8) = true, decide (0 ≤ ofR b) = true, decide (ofR b < 8) = true, decide (a ≤ b) = false] (by kernel_rfl)
      ⟨c7, by decide, by decide, c8 _, by decide, by decide, c8 _, by decide, by decide, c8 _, by decide, by decide, c8 _, by decide, by decide, c8 _, by decide, by decide, c8 _, by decide, by decide, c8 _, by decide, by decide, c8 _, by decide, by decide, c8 _, by decide, by decide, c8 _, by decide, by decide, c8 _, by decide, by decide, c8 _, by decide, by decide, c8 _, by decide, by decide, c8 _, c8 _, c8 _, decide_eq_true ra.1, decide_eq_true ra.2, decide_eq_true rb.1, decide_eq_true rb.2, h⟩

theorem own : ownKnob Try.prog.godebug = none := by kernel_rfl
theorem laidOut : laidOutB Try.prog = true := by kernel_rfl

theorem order_lifted (os : Os) (started : os.Started) (H : Type) (enc : TypeId × Value → H) :
    ReturnsInHanded {} Try.checked os 6 .any (Rows.bucketOrderSpec.pre6 enc Try.prog Try.f6 Rows.bucketOrderRow.domain false) (Rows.bucketOrderSpec.post enc Try.prog Try.f6 false true false false) := by
  refine returnsInHanded_of_change (C := Try.checked) own started (by kernel_rfl) Try.func6
    (ChangeSpec.witness6 (enc := enc) (C := Try.checked) false ⟨#[], #[.int .i64 0, .int .i64 0], []⟩ 8 (by kernel_rfl) (by kernel_rfl) (by kernel_rfl) (by kernel_rfl)) ?_
  intro W base args ds gs before hval hW _ _
  refine row_of (P := Try.prog) (tb := 4) laidOut rfl (by kernel_rfl) (by kernel_rfl) (by kernel_rfl) Try.underlying4 (fun ds h => ?_) (fun us h => ?_) W base args ds gs before hval hW
  · match ds, h with
    | [_, _], _ => rfl
  · obtain ⟨u, us, rfl, h1, u2, us2, rfl, h2, rfl⟩ := h
    obtain ⟨a, ha, _⟩ : ∃ n, [u] = [V.val (.int .i64 n)] ∧ (Lit.int .i64 n).wf = true := h1
    obtain ⟨b, hb, _⟩ : ∃ n, [u2] = [V.val (.int .i64 n)] ∧ (Lit.int .i64 n).wf = true := h2
    cases ha
    cases hb
    exact c6 a b

theorem BucketOrder_proved : Rows.BucketOrderSaid :=
  OpenClaim.holds_of_wide 6 Try.f6 rfl rfl rfl rfl rfl rfl rfl ⟨rfl, rfl, rfl, rfl, rfl⟩ rfl rfl rfl rfl rfl (by kernel_rfl) Try.func6 (by kernel_rfl)
    (of_decide_eq_true (by kernel_rfl)) (by unfold Func.isWrapper; first | (rw [if_pos (by decide +kernel)]; kernel_rfl) | (rw [if_neg (by decide +kernel)]; exact ⟨rfl, rfl⟩))
    (fun os started H enc _ => order_lifted os started H enc)
#print axioms BucketOrder_proved
end Go.Proofs.Ytebifjkpbibdcaa
