/-
  No cell of these rows narrows 'for every input' (looked for: loops, veiled, ifaces, maps, wideKeys, modest, calm, conditions, laid).
  DERIVED. THE GIVEN ROWS OF THIS SEAT. 3 by the template 'for every input the law returns true; each argument reads behind the call as it read before'; 0 by the template 'total and deterministic' (their statements: YtieffigehkjifaaTotals.lean).
  GIVEN WITH THE SEED: the statements are not yours to turn. If you find one false, say at which input.
  Laid BY PROGRAM, IN A SANDBOX (cutbox-rows.mjs): the forced cells as the released guide's own fill.sh prints them over the translation e72fe4a7023dec99… (all of the seat's roots in one cut). By AI agents, Wed Nov 11 2026. No macro, syntax, notation, axiom, sorry.
-/
import Derived.Test.YtieffigehkjifaaChecked
import GoSem.Claim
import GoSem.ClaimJoined
import GoSem.ClaimMapViews
import Derived.JoinedTies
import Derived.KernelRfl
namespace Go.Proofs.Ytieffigehkjifaa
/- THE CELL 'sum', in the pinned program and in every row, IS THE sha256 OF THE DUMP (.gsa) THAT YtieffigehkjifaaProg.lean LOADS. Nothing in Lean hashes anything: it is a label: what it is worth is what the hold of that sum in a sandbox is worth. -/
noncomputable def Try.pinned : Pinned := { name := "ytieffigehkjifaa", sum := "e72fe4a7023dec99fc132feea5afa529ebfe57608c857dfb9c7e04742948baad", checked := Try.checked }
namespace Rows
def none {H : Type} : Left H := { results := [], args := [] }

/-- 'gleaninglaw11.EdgesAny': WHATEVER THE INPUT: true; the input reads as it did. -/
def edgesAnySpec : ChangeSpec := { name := "edgesAny", fn := fun _ => fun
  | [d1, d2, d3, d4] => { results := [.lit (.bool true)], args := [d1, d2, d3, d4] }
  | _ => none }
def edgesAnyRow : OpenClaim := { program := "ytieffigehkjifaa", sum := "e72fe4a7023dec99fc132feea5afa529ebfe57608c857dfb9c7e04742948baad", func := "gleaning/gleaninglaw11.EdgesAny", spec := "edgesAny", inPlace := ["slices.overlaps[gleaning/api.Edge]"], unfollowed := true, recurses := true, apart := false }
def EdgesAnySaid : Prop := edgesAnyRow.holds Try.pinned (OpenSpec.ofChange edgesAnySpec)

/-- ITS FALSE NEIGHBOUR: 'it returns false'. Refute it at one input. -/
def edgesAnyWrong : ChangeSpec := { name := "edgesAny", fn := fun _ => fun
  | [d1, d2, d3, d4] => { results := [.lit (.bool false)], args := [d1, d2, d3, d4] }
  | _ => none }
def EdgesAnyWrongFalsely : Prop := edgesAnyRow.holds Try.pinned (OpenSpec.ofChange edgesAnyWrong)

/-- 'gleaninglaw11.EdgesChain': WHATEVER THE INPUT: true; the input reads as it did. -/
def edgesChainSpec : ChangeSpec := { name := "edgesChain", fn := fun _ => fun
  | [d1, d2] => { results := [.lit (.bool true)], args := [d1, d2] }
  | _ => none }
def edgesChainRow : OpenClaim := { program := "ytieffigehkjifaa", sum := "e72fe4a7023dec99fc132feea5afa529ebfe57608c857dfb9c7e04742948baad", func := "gleaning/gleaninglaw11.EdgesChain", spec := "edgesChain", inPlace := ["slices.overlaps[gleaning/api.Edge]"], unfollowed := true, recurses := true, apart := false }
def EdgesChainSaid : Prop := edgesChainRow.holds Try.pinned (OpenSpec.ofChange edgesChainSpec)

/-- ITS FALSE NEIGHBOUR: 'it returns false'. Refute it at one input. -/
def edgesChainWrong : ChangeSpec := { name := "edgesChain", fn := fun _ => fun
  | [d1, d2] => { results := [.lit (.bool false)], args := [d1, d2] }
  | _ => none }
def EdgesChainWrongFalsely : Prop := edgesChainRow.holds Try.pinned (OpenSpec.ofChange edgesChainWrong)

/-- 'gleaninglaw11.EdgesTogether': WHATEVER THE INPUT: true; the input reads as it did. -/
def edgesTogetherSpec : ChangeSpec := { name := "edgesTogether", fn := fun _ => fun
  | [d1, d2, d3, d4] => { results := [.lit (.bool true)], args := [d1, d2, d3, d4] }
  | _ => none }
def edgesTogetherRow : OpenClaim := { program := "ytieffigehkjifaa", sum := "e72fe4a7023dec99fc132feea5afa529ebfe57608c857dfb9c7e04742948baad", func := "gleaning/gleaninglaw11.EdgesTogether", spec := "edgesTogether", inPlace := ["slices.overlaps[gleaning/api.Edge]"], unfollowed := true, recurses := true, apart := false }
def EdgesTogetherSaid : Prop := edgesTogetherRow.holds Try.pinned (OpenSpec.ofChange edgesTogetherSpec)

/-- ITS FALSE NEIGHBOUR: 'it returns false'. Refute it at one input. -/
def edgesTogetherWrong : ChangeSpec := { name := "edgesTogether", fn := fun _ => fun
  | [d1, d2, d3, d4] => { results := [.lit (.bool false)], args := [d1, d2, d3, d4] }
  | _ => none }
def EdgesTogetherWrongFalsely : Prop := edgesTogetherRow.holds Try.pinned (OpenSpec.ofChange edgesTogetherWrong)

/- THE SECOND FORM. 'bulk': how many values and letters a reading holds, each counted each time it is reached (what is shared counts as often as it is met; a slice's spare places count too). A statement '..UptoSaid' is the law's where the arguments, and the package variables that the reading takes, are together of bulk at most 1048576: NARROWER than '..Said'. Prove '..Said' where nothing that the law and all that it calls make is longer than what came in: it says more and counts as full. Else prove '..UptoSaid'. A law counts once. -/
mutual
def uptoBulk {H : Type} : DataW H → Nat
  | .lit (.string bytes) => bytes.length + 1
  | .lit _ => 1
  | .nil => 1
  | .ptr d => uptoBulk d + 1
  | .slice elems spare => uptoBulkAll elems + uptoBulkAll spare + 1
  | .agg parts => uptoBulkAll parts + 1
  | .iface _ d => uptoBulk d + 1
  | .map entries => uptoBulkEntries entries + 1
  | .held _ => 1
def uptoBulkAll {H : Type} : List (DataW H) → Nat
  | [] => 0
  | d :: r => uptoBulk d + uptoBulkAll r
def uptoBulkEntries {H : Type} : List (Lit × DataW H) → Nat
  | [] => 0
  | x :: r => uptoBulkEntry x + uptoBulkEntries r
def uptoBulkEntry {H : Type} : Lit × DataW H → Nat
  | (.string bytes, d) => bytes.length + uptoBulk d + 1
  | (_, d) => uptoBulk d + 1
 end
def uptoSmall : (H : Type) → List (DataW H) → Bool := fun _ ds => decide (uptoBulkAll ds ≤ 1048576)
def OpenSpec.upto (s : _root_.Go.ChangeSpec) : _root_.Go.OpenSpec := { _root_.Go.OpenSpec.ofChange s with cond := some uptoSmall }

/-- 'gleaninglaw11.EdgesAny', WHERE WHAT IT READS IS OF BULK AT MOST 1048576: true; the input reads as it did. -/
def edgesAnyUptoRow : OpenClaim := { program := "ytieffigehkjifaa", sum := "e72fe4a7023dec99fc132feea5afa529ebfe57608c857dfb9c7e04742948baad", func := "gleaning/gleaninglaw11.EdgesAny", spec := "edgesAny", inPlace := ["slices.overlaps[gleaning/api.Edge]"], unfollowed := true, recurses := true, apart := false, narrowed := true }
def EdgesAnyUptoSaid : Prop := edgesAnyUptoRow.holds Try.pinned (OpenSpec.upto edgesAnySpec)

/-- 'gleaninglaw11.EdgesChain', WHERE WHAT IT READS IS OF BULK AT MOST 1048576: true; the input reads as it did. -/
def edgesChainUptoRow : OpenClaim := { program := "ytieffigehkjifaa", sum := "e72fe4a7023dec99fc132feea5afa529ebfe57608c857dfb9c7e04742948baad", func := "gleaning/gleaninglaw11.EdgesChain", spec := "edgesChain", inPlace := ["slices.overlaps[gleaning/api.Edge]"], unfollowed := true, recurses := true, apart := false, narrowed := true }
def EdgesChainUptoSaid : Prop := edgesChainUptoRow.holds Try.pinned (OpenSpec.upto edgesChainSpec)

/-- 'gleaninglaw11.EdgesTogether', WHERE WHAT IT READS IS OF BULK AT MOST 1048576: true; the input reads as it did. -/
def edgesTogetherUptoRow : OpenClaim := { program := "ytieffigehkjifaa", sum := "e72fe4a7023dec99fc132feea5afa529ebfe57608c857dfb9c7e04742948baad", func := "gleaning/gleaninglaw11.EdgesTogether", spec := "edgesTogether", inPlace := ["slices.overlaps[gleaning/api.Edge]"], unfollowed := true, recurses := true, apart := false, narrowed := true }
def EdgesTogetherUptoSaid : Prop := edgesTogetherUptoRow.holds Try.pinned (OpenSpec.upto edgesTogetherSpec)

end Rows
end Go.Proofs.Ytieffigehkjifaa
