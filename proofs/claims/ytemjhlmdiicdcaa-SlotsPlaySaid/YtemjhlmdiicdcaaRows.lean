/-
  No cell of these rows narrows 'for every input' (looked for: loops, veiled, ifaces, maps, wideKeys, modest, calm, conditions, laid).
  DERIVED. THE GIVEN ROWS OF THIS SEAT. 3 by the template 'for every input the law returns true; each argument reads behind the call as it read before'; 0 by the template 'total and deterministic' (their statements: YtemjhlmdiicdcaaTotals.lean).
  GIVEN WITH THE SEED: the statements are not yours to turn. If you find one false, say at which input.
  Laid BY PROGRAM, IN A SANDBOX (cutbox-rows.mjs): the forced cells as the released guide's own fill.sh prints them over the translation 64813d25aabc94c0… (all of the seat's roots in one cut). By AI agents, Wed Nov 11 2026. No macro, syntax, notation, axiom, sorry.
-/
import Derived.Test.YtemjhlmdiicdcaaChecked
import GoSem.Claim
import GoSem.ClaimJoined
import GoSem.ClaimMapViews
import Derived.JoinedTies
import Derived.KernelRfl
namespace Go.Proofs.Ytemjhlmdiicdcaa
/- THE CELL 'sum', in the pinned program and in every row, IS THE sha256 OF THE DUMP (.gsa) THAT YtemjhlmdiicdcaaProg.lean LOADS. Nothing in Lean hashes anything: it is a label: what it is worth is what the hold of that sum in a sandbox is worth. -/
noncomputable def Try.pinned : Pinned := { name := "ytemjhlmdiicdcaa", sum := "64813d25aabc94c08e8414153ab602362f55d2cb20ea28b16e4e50d9ce5deef8", checked := Try.checked }
namespace Rows
def none {H : Type} : Left H := { results := [], args := [] }

/-- 'gleaninglaw12.SlotsNew': WHATEVER THE INPUT: true; the input reads as it did. -/
def slotsNewSpec : ChangeSpec := { name := "slotsNew", fn := fun _ => fun
  | [d1, d2] => { results := [.lit (.bool true)], args := [d1, d2] }
  | _ => none }
def slotsNewRow : OpenClaim := { program := "ytemjhlmdiicdcaa", sum := "64813d25aabc94c08e8414153ab602362f55d2cb20ea28b16e4e50d9ce5deef8", func := "gleaning/gleaninglaw12.SlotsNew", spec := "slotsNew", inPlace := ["slices.overlaps[gleaning/api.Exemplar]"], unfollowed := true, recurses := true, apart := false }
def SlotsNewSaid : Prop := slotsNewRow.holds Try.pinned (OpenSpec.ofChange slotsNewSpec)

/-- ITS FALSE NEIGHBOUR: 'it returns false'. Refute it at one input. -/
def slotsNewWrong : ChangeSpec := { name := "slotsNew", fn := fun _ => fun
  | [d1, d2] => { results := [.lit (.bool false)], args := [d1, d2] }
  | _ => none }
def SlotsNewWrongFalsely : Prop := slotsNewRow.holds Try.pinned (OpenSpec.ofChange slotsNewWrong)

/-- 'gleaninglaw12.SlotsPlay': WHATEVER THE INPUT: true; the input reads as it did. -/
def slotsPlaySpec : ChangeSpec := { name := "slotsPlay", fn := fun _ => fun
  | [d1, d2, d3] => { results := [.lit (.bool true)], args := [d1, d2, d3] }
  | _ => none }
def slotsPlayRow : OpenClaim := { program := "ytemjhlmdiicdcaa", sum := "64813d25aabc94c08e8414153ab602362f55d2cb20ea28b16e4e50d9ce5deef8", func := "gleaning/gleaninglaw12.SlotsPlay", spec := "slotsPlay", inPlace := ["slices.overlaps[gleaning/api.Exemplar]"], unfollowed := true, recurses := true, apart := false }
def SlotsPlaySaid : Prop := slotsPlayRow.holds Try.pinned (OpenSpec.ofChange slotsPlaySpec)

/-- ITS FALSE NEIGHBOUR: 'it returns false'. Refute it at one input. -/
def slotsPlayWrong : ChangeSpec := { name := "slotsPlay", fn := fun _ => fun
  | [d1, d2, d3] => { results := [.lit (.bool false)], args := [d1, d2, d3] }
  | _ => none }
def SlotsPlayWrongFalsely : Prop := slotsPlayRow.holds Try.pinned (OpenSpec.ofChange slotsPlayWrong)

/-- 'gleaninglaw12.SlotsGone': WHATEVER THE INPUT: true; the input reads as it did. -/
def slotsGoneSpec : ChangeSpec := { name := "slotsGone", fn := fun _ => fun
  | [d1, d2, d3] => { results := [.lit (.bool true)], args := [d1, d2, d3] }
  | _ => none }
def slotsGoneRow : OpenClaim := { program := "ytemjhlmdiicdcaa", sum := "64813d25aabc94c08e8414153ab602362f55d2cb20ea28b16e4e50d9ce5deef8", func := "gleaning/gleaninglaw12.SlotsGone", spec := "slotsGone", inPlace := ["slices.overlaps[gleaning/api.Exemplar]"], unfollowed := true, recurses := true, apart := false }
def SlotsGoneSaid : Prop := slotsGoneRow.holds Try.pinned (OpenSpec.ofChange slotsGoneSpec)

/-- ITS FALSE NEIGHBOUR: 'it returns false'. Refute it at one input. -/
def slotsGoneWrong : ChangeSpec := { name := "slotsGone", fn := fun _ => fun
  | [d1, d2, d3] => { results := [.lit (.bool false)], args := [d1, d2, d3] }
  | _ => none }
def SlotsGoneWrongFalsely : Prop := slotsGoneRow.holds Try.pinned (OpenSpec.ofChange slotsGoneWrong)

/- THE SECOND FORM. 'bulk': how many values and letters a reading holds, each counted each time it is reached (what is shared counts as often as it is met; a slice's spare places count too). A statement '..UptoSaid' is the law's where the arguments, and the package variables that the reading takes, are together of bulk at most 1048576: NARROWER than '..Said'. Prove '..Said' where nothing that the law and all that it calls make is longer than what came in: it says more and counts as full. Else prove '..UptoSaid'. A law counts once. -/
mutual
def uptoBulk {H : Type} : DataW H → Nat
  | .lit (.string bytes) => bytes.length + 1
  | .lit _ => 1
  | .nil => 1
  | .ptr d => uptoBulk d + 1
  | .slice elems spare => uptoBulkAll elems + uptoBulkAll spare + 1
  | .agg parts => uptoBulkAll parts + 1
  | .iface _ d => uptoBulk d + 1
  | .map entries => uptoBulkEntries entries + 1
  | .held _ => 1
def uptoBulkAll {H : Type} : List (DataW H) → Nat
  | [] => 0
  | d :: r => uptoBulk d + uptoBulkAll r
def uptoBulkEntries {H : Type} : List (Lit × DataW H) → Nat
  | [] => 0
  | x :: r => uptoBulkEntry x + uptoBulkEntries r
def uptoBulkEntry {H : Type} : Lit × DataW H → Nat
  | (.string bytes, d) => bytes.length + uptoBulk d + 1
  | (_, d) => uptoBulk d + 1
 end
def uptoSmall : (H : Type) → List (DataW H) → Bool := fun _ ds => decide (uptoBulkAll ds ≤ 1048576)
def OpenSpec.upto (s : _root_.Go.ChangeSpec) : _root_.Go.OpenSpec := { _root_.Go.OpenSpec.ofChange s with cond := some uptoSmall }

/-- 'gleaninglaw12.SlotsNew', WHERE WHAT IT READS IS OF BULK AT MOST 1048576: true; the input reads as it did. -/
def slotsNewUptoRow : OpenClaim := { program := "ytemjhlmdiicdcaa", sum := "64813d25aabc94c08e8414153ab602362f55d2cb20ea28b16e4e50d9ce5deef8", func := "gleaning/gleaninglaw12.SlotsNew", spec := "slotsNew", inPlace := ["slices.overlaps[gleaning/api.Exemplar]"], unfollowed := true, recurses := true, apart := false, narrowed := true }
def SlotsNewUptoSaid : Prop := slotsNewUptoRow.holds Try.pinned (OpenSpec.upto slotsNewSpec)

/-- 'gleaninglaw12.SlotsPlay', WHERE WHAT IT READS IS OF BULK AT MOST 1048576: true; the input reads as it did. -/
def slotsPlayUptoRow : OpenClaim := { program := "ytemjhlmdiicdcaa", sum := "64813d25aabc94c08e8414153ab602362f55d2cb20ea28b16e4e50d9ce5deef8", func := "gleaning/gleaninglaw12.SlotsPlay", spec := "slotsPlay", inPlace := ["slices.overlaps[gleaning/api.Exemplar]"], unfollowed := true, recurses := true, apart := false, narrowed := true }
def SlotsPlayUptoSaid : Prop := slotsPlayUptoRow.holds Try.pinned (OpenSpec.upto slotsPlaySpec)

/-- 'gleaninglaw12.SlotsGone', WHERE WHAT IT READS IS OF BULK AT MOST 1048576: true; the input reads as it did. -/
def slotsGoneUptoRow : OpenClaim := { program := "ytemjhlmdiicdcaa", sum := "64813d25aabc94c08e8414153ab602362f55d2cb20ea28b16e4e50d9ce5deef8", func := "gleaning/gleaninglaw12.SlotsGone", spec := "slotsGone", inPlace := ["slices.overlaps[gleaning/api.Exemplar]"], unfollowed := true, recurses := true, apart := false, narrowed := true }
def SlotsGoneUptoSaid : Prop := slotsGoneUptoRow.holds Try.pinned (OpenSpec.upto slotsGoneSpec)

end Rows
end Go.Proofs.Ytemjhlmdiicdcaa
