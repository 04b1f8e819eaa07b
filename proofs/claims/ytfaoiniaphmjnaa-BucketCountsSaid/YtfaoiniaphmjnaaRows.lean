/-
  No cell of these rows narrows 'for every input' (looked for: loops, veiled, ifaces, maps, wideKeys, modest, calm, conditions, laid).
  DERIVED. THE GIVEN ROWS OF THIS SEAT. 4 by the template 'for every input the law returns true; each argument reads behind the call as it read before'; 0 by the template 'total and deterministic' (their statements: YtfaoiniaphmjnaaTotals.lean).
  GIVEN WITH THE SEED: the statements are not yours to turn. If you find one false, say at which input.
  Laid BY PROGRAM, IN A SANDBOX (cutbox-rows.mjs): the forced cells as the released guide's own fill.sh prints them over the translation 0a3f88ea3c8cd048… (all of the seat's roots in one cut). By AI agents, Wed Nov 11 2026. No macro, syntax, notation, axiom, sorry.
-/
import Derived.Test.YtfaoiniaphmjnaaChecked
import GoSem.Claim
import GoSem.ClaimJoined
import GoSem.ClaimMapViews
import Derived.JoinedTies
import Derived.KernelRfl
namespace Go.Proofs.Ytfaoiniaphmjnaa
/- THE CELL 'sum', in the pinned program and in every row, IS THE sha256 OF THE DUMP (.gsa) THAT YtfaoiniaphmjnaaProg.lean LOADS. Nothing in Lean hashes anything: it is a label: what it is worth is what the hold of that sum in a sandbox is worth. -/
noncomputable def Try.pinned : Pinned := { name := "ytfaoiniaphmjnaa", sum := "0a3f88ea3c8cd048c79edf58d92a1b3c9e4ddd594d8e16158d7e561cccc98393", checked := Try.checked }
namespace Rows
def none {H : Type} : Left H := { results := [], args := [] }

/-- 'gleaninglaw8.BucketTells': WHATEVER THE INPUT: true; the input reads as it did. -/
def bucketTellsSpec : ChangeSpec := { name := "bucketTells", fn := fun _ => fun
  | [d1, d2, d3, d4, d5] => { results := [.lit (.bool true)], args := [d1, d2, d3, d4, d5] }
  | _ => none }
def bucketTellsRow : OpenClaim := { program := "ytfaoiniaphmjnaa", sum := "0a3f88ea3c8cd048c79edf58d92a1b3c9e4ddd594d8e16158d7e561cccc98393", func := "gleaning/gleaninglaw8.BucketTells", spec := "bucketTells", apart := false }
def BucketTellsSaid : Prop := bucketTellsRow.holds Try.pinned (OpenSpec.ofChange bucketTellsSpec)

/-- ITS FALSE NEIGHBOUR: 'it returns false'. Refute it at one input. -/
def bucketTellsWrong : ChangeSpec := { name := "bucketTells", fn := fun _ => fun
  | [d1, d2, d3, d4, d5] => { results := [.lit (.bool false)], args := [d1, d2, d3, d4, d5] }
  | _ => none }
def BucketTellsWrongFalsely : Prop := bucketTellsRow.holds Try.pinned (OpenSpec.ofChange bucketTellsWrong)

/-- 'gleaninglaw8.BucketCounts': WHATEVER THE INPUT: true; the input reads as it did. -/
def bucketCountsSpec : ChangeSpec := { name := "bucketCounts", fn := fun _ => fun
  | [d1, d2, d3] => { results := [.lit (.bool true)], args := [d1, d2, d3] }
  | _ => none }
def bucketCountsRow : OpenClaim := { program := "ytfaoiniaphmjnaa", sum := "0a3f88ea3c8cd048c79edf58d92a1b3c9e4ddd594d8e16158d7e561cccc98393", func := "gleaning/gleaninglaw8.BucketCounts", spec := "bucketCounts", apart := false }
def BucketCountsSaid : Prop := bucketCountsRow.holds Try.pinned (OpenSpec.ofChange bucketCountsSpec)

/-- ITS FALSE NEIGHBOUR: 'it returns false'. Refute it at one input. -/
def bucketCountsWrong : ChangeSpec := { name := "bucketCounts", fn := fun _ => fun
  | [d1, d2, d3] => { results := [.lit (.bool false)], args := [d1, d2, d3] }
  | _ => none }
def BucketCountsWrongFalsely : Prop := bucketCountsRow.holds Try.pinned (OpenSpec.ofChange bucketCountsWrong)

/-- 'gleaninglaw8.BucketJoins': WHATEVER THE INPUT: true; the input reads as it did. -/
def bucketJoinsSpec : ChangeSpec := { name := "bucketJoins", fn := fun _ => fun
  | [d1, d2, d3, d4] => { results := [.lit (.bool true)], args := [d1, d2, d3, d4] }
  | _ => none }
def bucketJoinsRow : OpenClaim := { program := "ytfaoiniaphmjnaa", sum := "0a3f88ea3c8cd048c79edf58d92a1b3c9e4ddd594d8e16158d7e561cccc98393", func := "gleaning/gleaninglaw8.BucketJoins", spec := "bucketJoins", apart := false }
def BucketJoinsSaid : Prop := bucketJoinsRow.holds Try.pinned (OpenSpec.ofChange bucketJoinsSpec)

/-- ITS FALSE NEIGHBOUR: 'it returns false'. Refute it at one input. -/
def bucketJoinsWrong : ChangeSpec := { name := "bucketJoins", fn := fun _ => fun
  | [d1, d2, d3, d4] => { results := [.lit (.bool false)], args := [d1, d2, d3, d4] }
  | _ => none }
def BucketJoinsWrongFalsely : Prop := bucketJoinsRow.holds Try.pinned (OpenSpec.ofChange bucketJoinsWrong)

/-- 'gleaninglaw8.BucketOrder': WHATEVER THE INPUT: true; the input reads as it did. -/
def bucketOrderSpec : ChangeSpec := { name := "bucketOrder", fn := fun _ => fun
  | [d1, d2] => { results := [.lit (.bool true)], args := [d1, d2] }
  | _ => none }
def bucketOrderRow : OpenClaim := { program := "ytfaoiniaphmjnaa", sum := "0a3f88ea3c8cd048c79edf58d92a1b3c9e4ddd594d8e16158d7e561cccc98393", func := "gleaning/gleaninglaw8.BucketOrder", spec := "bucketOrder", apart := false }
def BucketOrderSaid : Prop := bucketOrderRow.holds Try.pinned (OpenSpec.ofChange bucketOrderSpec)

/-- ITS FALSE NEIGHBOUR: 'it returns false'. Refute it at one input. -/
def bucketOrderWrong : ChangeSpec := { name := "bucketOrder", fn := fun _ => fun
  | [d1, d2] => { results := [.lit (.bool false)], args := [d1, d2] }
  | _ => none }
def BucketOrderWrongFalsely : Prop := bucketOrderRow.holds Try.pinned (OpenSpec.ofChange bucketOrderWrong)

/- THE SECOND FORM. 'bulk': how many values and letters a reading holds, each counted each time it is reached (what is shared counts as often as it is met; a slice's spare places count too). A statement '..UptoSaid' is the law's where the arguments, and the package variables that the reading takes, are together of bulk at most 1048576: NARROWER than '..Said'. Prove '..Said' where nothing that the law and all that it calls make is longer than what came in: it says more and counts as full. Else prove '..UptoSaid'. A law counts once. -/
mutual
def uptoBulk {H : Type} : DataW H → Nat
  | .lit (.string bytes) => bytes.length + 1
  | .lit _ => 1
  | .nil => 1
  | .ptr d => uptoBulk d + 1
  | .slice elems spare => uptoBulkAll elems + uptoBulkAll spare + 1
  | .agg parts => uptoBulkAll parts + 1
  | .iface _ d => uptoBulk d + 1
  | .map entries => uptoBulkEntries entries + 1
  | .held _ => 1
def uptoBulkAll {H : Type} : List (DataW H) → Nat
  | [] => 0
  | d :: r => uptoBulk d + uptoBulkAll r
def uptoBulkEntries {H : Type} : List (Lit × DataW H) → Nat
  | [] => 0
  | x :: r => uptoBulkEntry x + uptoBulkEntries r
def uptoBulkEntry {H : Type} : Lit × DataW H → Nat
  | (.string bytes, d) => bytes.length + uptoBulk d + 1
  | (_, d) => uptoBulk d + 1
 end
def uptoSmall : (H : Type) → List (DataW H) → Bool := fun _ ds => decide (uptoBulkAll ds ≤ 1048576)
def OpenSpec.upto (s : _root_.Go.ChangeSpec) : _root_.Go.OpenSpec := { _root_.Go.OpenSpec.ofChange s with cond := some uptoSmall }

/-- 'gleaninglaw8.BucketTells', WHERE WHAT IT READS IS OF BULK AT MOST 1048576: true; the input reads as it did. -/
def bucketTellsUptoRow : OpenClaim := { program := "ytfaoiniaphmjnaa", sum := "0a3f88ea3c8cd048c79edf58d92a1b3c9e4ddd594d8e16158d7e561cccc98393", func := "gleaning/gleaninglaw8.BucketTells", spec := "bucketTells", apart := false, narrowed := true }
def BucketTellsUptoSaid : Prop := bucketTellsUptoRow.holds Try.pinned (OpenSpec.upto bucketTellsSpec)

/-- 'gleaninglaw8.BucketCounts', WHERE WHAT IT READS IS OF BULK AT MOST 1048576: true; the input reads as it did. -/
def bucketCountsUptoRow : OpenClaim := { program := "ytfaoiniaphmjnaa", sum := "0a3f88ea3c8cd048c79edf58d92a1b3c9e4ddd594d8e16158d7e561cccc98393", func := "gleaning/gleaninglaw8.BucketCounts", spec := "bucketCounts", apart := false, narrowed := true }
def BucketCountsUptoSaid : Prop := bucketCountsUptoRow.holds Try.pinned (OpenSpec.upto bucketCountsSpec)

/-- 'gleaninglaw8.BucketJoins', WHERE WHAT IT READS IS OF BULK AT MOST 1048576: true; the input reads as it did. -/
def bucketJoinsUptoRow : OpenClaim := { program := "ytfaoiniaphmjnaa", sum := "0a3f88ea3c8cd048c79edf58d92a1b3c9e4ddd594d8e16158d7e561cccc98393", func := "gleaning/gleaninglaw8.BucketJoins", spec := "bucketJoins", apart := false, narrowed := true }
def BucketJoinsUptoSaid : Prop := bucketJoinsUptoRow.holds Try.pinned (OpenSpec.upto bucketJoinsSpec)

/-- 'gleaninglaw8.BucketOrder', WHERE WHAT IT READS IS OF BULK AT MOST 1048576: true; the input reads as it did. -/
def bucketOrderUptoRow : OpenClaim := { program := "ytfaoiniaphmjnaa", sum := "0a3f88ea3c8cd048c79edf58d92a1b3c9e4ddd594d8e16158d7e561cccc98393", func := "gleaning/gleaninglaw8.BucketOrder", spec := "bucketOrder", apart := false, narrowed := true }
def BucketOrderUptoSaid : Prop := bucketOrderUptoRow.holds Try.pinned (OpenSpec.upto bucketOrderSpec)

end Rows
end Go.Proofs.Ytfaoiniaphmjnaa
