/-
  No cell of these rows narrows 'for every input' (looked for: loops, veiled, ifaces, maps, wideKeys, modest, calm, conditions, laid).
  DERIVED. THE GIVEN ROWS OF THIS SEAT. 4 by the template 'for every input the law returns true; each argument reads behind the call as it read before'; 0 by the template 'total and deterministic' (their statements: YthhggnnfiohnpaaTotals.lean).
  GIVEN WITH THE SEED: the statements are not yours to turn. If you find one false, say at which input.
  Laid BY PROGRAM, IN A SANDBOX (cutbox-rows.mjs): the forced cells as the released guide's own fill.sh prints them over the translation f6b8e6ea0b570271… (all of the seat's roots in one cut). By AI agents, Wed Nov 11 2026. No macro, syntax, notation, axiom, sorry.
-/
import Derived.Test.YthhggnnfiohnpaaChecked
import GoSem.Claim
import GoSem.ClaimJoined
import GoSem.ClaimMapViews
import Derived.JoinedTies
import Derived.KernelRfl
namespace Go.Proofs.Ythhggnnfiohnpaa
/- THE CELL 'sum', in the pinned program and in every row, IS THE sha256 OF THE DUMP (.gsa) THAT YthhggnnfiohnpaaProg.lean LOADS. Nothing in Lean hashes anything: it is a label: what it is worth is what the hold of that sum in a sandbox is worth. -/
noncomputable def Try.pinned : Pinned := { name := "ythhggnnfiohnpaa", sum := "f6b8e6ea0b570271bca054efb42feca17f343a0e7529f93b3b1687225ee31a0b", checked := Try.checked }
namespace Rows
def none {H : Type} : Left H := { results := [], args := [] }

/-- 'gleaninglaw29.TreeRing': WHATEVER THE INPUT: true; the input reads as it did. -/
def treeRingSpec : ChangeSpec := { name := "treeRing", fn := fun _ => fun
  | [d1, d2] => { results := [.lit (.bool true)], args := [d1, d2] }
  | _ => none }
def treeRingRow : OpenClaim := { program := "ythhggnnfiohnpaa", sum := "f6b8e6ea0b570271bca054efb42feca17f343a0e7529f93b3b1687225ee31a0b", func := "gleaning/gleaninglaw29.TreeRing", spec := "treeRing", unfollowed := true, recurses := true, apart := false }
def TreeRingSaid : Prop := treeRingRow.holds Try.pinned (OpenSpec.ofChange treeRingSpec)

/-- ITS FALSE NEIGHBOUR: 'it returns false'. Refute it at one input. -/
def treeRingWrong : ChangeSpec := { name := "treeRing", fn := fun _ => fun
  | [d1, d2] => { results := [.lit (.bool false)], args := [d1, d2] }
  | _ => none }
def TreeRingWrongFalsely : Prop := treeRingRow.holds Try.pinned (OpenSpec.ofChange treeRingWrong)

/-- 'gleaninglaw29.TreeTells': WHATEVER THE INPUT: true; the input reads as it did. -/
def treeTellsSpec : ChangeSpec := { name := "treeTells", fn := fun _ => fun
  | [d] => { results := [.lit (.bool true)], args := [d] }
  | _ => none }
def treeTellsRow : OpenClaim := { program := "ythhggnnfiohnpaa", sum := "f6b8e6ea0b570271bca054efb42feca17f343a0e7529f93b3b1687225ee31a0b", func := "gleaning/gleaninglaw29.TreeTells", spec := "treeTells", unfollowed := true, recurses := true, apart := false }
def TreeTellsSaid : Prop := treeTellsRow.holds Try.pinned (OpenSpec.ofChange treeTellsSpec)

/-- ITS FALSE NEIGHBOUR: 'it returns false'. Refute it at one input. -/
def treeTellsWrong : ChangeSpec := { name := "treeTells", fn := fun _ => fun
  | [d] => { results := [.lit (.bool false)], args := [d] }
  | _ => none }
def TreeTellsWrongFalsely : Prop := treeTellsRow.holds Try.pinned (OpenSpec.ofChange treeTellsWrong)

/-- 'gleaninglaw29.TreeWhole': WHATEVER THE INPUT: true; the input reads as it did. -/
def treeWholeSpec : ChangeSpec := { name := "treeWhole", fn := fun _ => fun
  | [d] => { results := [.lit (.bool true)], args := [d] }
  | _ => none }
def treeWholeRow : OpenClaim := { program := "ythhggnnfiohnpaa", sum := "f6b8e6ea0b570271bca054efb42feca17f343a0e7529f93b3b1687225ee31a0b", func := "gleaning/gleaninglaw29.TreeWhole", spec := "treeWhole", unfollowed := true, recurses := true, apart := false }
def TreeWholeSaid : Prop := treeWholeRow.holds Try.pinned (OpenSpec.ofChange treeWholeSpec)

/-- ITS FALSE NEIGHBOUR: 'it returns false'. Refute it at one input. -/
def treeWholeWrong : ChangeSpec := { name := "treeWhole", fn := fun _ => fun
  | [d] => { results := [.lit (.bool false)], args := [d] }
  | _ => none }
def TreeWholeWrongFalsely : Prop := treeWholeRow.holds Try.pinned (OpenSpec.ofChange treeWholeWrong)

/-- 'gleaninglaw29.TreeChain': WHATEVER THE INPUT: true; the input reads as it did. -/
def treeChainSpec : ChangeSpec := { name := "treeChain", fn := fun _ => fun
  | [d1, d2] => { results := [.lit (.bool true)], args := [d1, d2] }
  | _ => none }
def treeChainRow : OpenClaim := { program := "ythhggnnfiohnpaa", sum := "f6b8e6ea0b570271bca054efb42feca17f343a0e7529f93b3b1687225ee31a0b", func := "gleaning/gleaninglaw29.TreeChain", spec := "treeChain", unfollowed := true, recurses := true, apart := false }
def TreeChainSaid : Prop := treeChainRow.holds Try.pinned (OpenSpec.ofChange treeChainSpec)

/-- ITS FALSE NEIGHBOUR: 'it returns false'. Refute it at one input. -/
def treeChainWrong : ChangeSpec := { name := "treeChain", fn := fun _ => fun
  | [d1, d2] => { results := [.lit (.bool false)], args := [d1, d2] }
  | _ => none }
def TreeChainWrongFalsely : Prop := treeChainRow.holds Try.pinned (OpenSpec.ofChange treeChainWrong)

/- THE SECOND FORM. 'bulk': how many values and letters a reading holds, each counted each time it is reached (what is shared counts as often as it is met; a slice's spare places count too). A statement '..UptoSaid' is the law's where the arguments, and the package variables that the reading takes, are together of bulk at most 1048576: NARROWER than '..Said'. Prove '..Said' where nothing that the law and all that it calls make is longer than what came in: it says more and counts as full. Else prove '..UptoSaid'. A law counts once. -/
mutual
def uptoBulk {H : Type} : DataW H → Nat
  | .lit (.string bytes) => bytes.length + 1
  | .lit _ => 1
  | .nil => 1
  | .ptr d => uptoBulk d + 1
  | .slice elems spare => uptoBulkAll elems + uptoBulkAll spare + 1
  | .agg parts => uptoBulkAll parts + 1
  | .iface _ d => uptoBulk d + 1
  | .map entries => uptoBulkEntries entries + 1
  | .held _ => 1
def uptoBulkAll {H : Type} : List (DataW H) → Nat
  | [] => 0
  | d :: r => uptoBulk d + uptoBulkAll r
def uptoBulkEntries {H : Type} : List (Lit × DataW H) → Nat
  | [] => 0
  | x :: r => uptoBulkEntry x + uptoBulkEntries r
def uptoBulkEntry {H : Type} : Lit × DataW H → Nat
  | (.string bytes, d) => bytes.length + uptoBulk d + 1
  | (_, d) => uptoBulk d + 1
 end
def uptoSmall : (H : Type) → List (DataW H) → Bool := fun _ ds => decide (uptoBulkAll ds ≤ 1048576)
def OpenSpec.upto (s : _root_.Go.ChangeSpec) : _root_.Go.OpenSpec := { _root_.Go.OpenSpec.ofChange s with cond := some uptoSmall }

/-- 'gleaninglaw29.TreeRing', WHERE WHAT IT READS IS OF BULK AT MOST 1048576: true; the input reads as it did. -/
def treeRingUptoRow : OpenClaim := { program := "ythhggnnfiohnpaa", sum := "f6b8e6ea0b570271bca054efb42feca17f343a0e7529f93b3b1687225ee31a0b", func := "gleaning/gleaninglaw29.TreeRing", spec := "treeRing", unfollowed := true, recurses := true, apart := false, narrowed := true }
def TreeRingUptoSaid : Prop := treeRingUptoRow.holds Try.pinned (OpenSpec.upto treeRingSpec)

/-- 'gleaninglaw29.TreeTells', WHERE WHAT IT READS IS OF BULK AT MOST 1048576: true; the input reads as it did. -/
def treeTellsUptoRow : OpenClaim := { program := "ythhggnnfiohnpaa", sum := "f6b8e6ea0b570271bca054efb42feca17f343a0e7529f93b3b1687225ee31a0b", func := "gleaning/gleaninglaw29.TreeTells", spec := "treeTells", unfollowed := true, recurses := true, apart := false, narrowed := true }
def TreeTellsUptoSaid : Prop := treeTellsUptoRow.holds Try.pinned (OpenSpec.upto treeTellsSpec)

/-- 'gleaninglaw29.TreeWhole', WHERE WHAT IT READS IS OF BULK AT MOST 1048576: true; the input reads as it did. -/
def treeWholeUptoRow : OpenClaim := { program := "ythhggnnfiohnpaa", sum := "f6b8e6ea0b570271bca054efb42feca17f343a0e7529f93b3b1687225ee31a0b", func := "gleaning/gleaninglaw29.TreeWhole", spec := "treeWhole", unfollowed := true, recurses := true, apart := false, narrowed := true }
def TreeWholeUptoSaid : Prop := treeWholeUptoRow.holds Try.pinned (OpenSpec.upto treeWholeSpec)

/-- 'gleaninglaw29.TreeChain', WHERE WHAT IT READS IS OF BULK AT MOST 1048576: true; the input reads as it did. -/
def treeChainUptoRow : OpenClaim := { program := "ythhggnnfiohnpaa", sum := "f6b8e6ea0b570271bca054efb42feca17f343a0e7529f93b3b1687225ee31a0b", func := "gleaning/gleaninglaw29.TreeChain", spec := "treeChain", unfollowed := true, recurses := true, apart := false, narrowed := true }
def TreeChainUptoSaid : Prop := treeChainUptoRow.holds Try.pinned (OpenSpec.upto treeChainSpec)

end Rows
end Go.Proofs.Ythhggnnfiohnpaa
