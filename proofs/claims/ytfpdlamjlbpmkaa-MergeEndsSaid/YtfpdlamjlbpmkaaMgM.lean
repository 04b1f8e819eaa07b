/- merge: the example. -/
import Derived.Test.YtfpdlamjlbpmkaaMgL
namespace Go.Proofs.Ytfpdlamjlbpmkaa
open E
set_option maxRecDepth 100000
set_option linter.unusedVariables false
set_option linter.unusedSimpArgs false


theorem pick_ex : pickM [⟨0, 0, 1, []⟩, ⟨0, 0, 0, []⟩, ⟨0, 0, 1, []⟩] = (true, 0, 2) := by decide
theorem cAlive_0   : Contract Try.prog 7 [] [] (Bo true) ([]) :=
  vcP hmix [.reg 1 [(0, [.call [] [] (.tup [I 0, I 0, Bo false]) []], none)], .reg 2 [(4, [.call [] [] (.tup [I 0, I 2, Bo true]) []], none)]] [] [
      Contract Try.prog (9 : Nat) [V.sl (4 : Nat) []] [] (V.tup [I (0 : Int), I (0 : Int), Bo false]) [],
      Contract Try.prog (9 : Nat) [V.sl (4 : Nat) [[I (0 : Int), I (0 : Int), I (1 : Int), V.sl (6 : Nat) []], [I (0 : Int), I (0 : Int), I (0 : Int), V.sl (6 : Nat) []], [I (0 : Int), I (0 : Int), I (1 : Int), V.sl (6 : Nat) []]]] [] (V.tup [I (0 : Int), I (2 : Int), Bo true]) [],
      true = true] (by kernel_rfl)
    (by
      simp only [allP]
      and_intros <;> first
        | exact cPick [] (by simp)
        | (have q := cPick [⟨0, 0, 1, []⟩, ⟨0, 0, 0, []⟩, ⟨0, 0, 1, []⟩] (by simp); rw [pick_ex] at q; exact q)
        | (simp; done))

theorem cAlive   : Contract Try.prog 7 [] [] (Bo true) [] := by
  exact Contract.cast (by
    first
      | rfl) (by
    first
      | rfl) (cAlive_0   )

end Go.Proofs.Ytfpdlamjlbpmkaa
