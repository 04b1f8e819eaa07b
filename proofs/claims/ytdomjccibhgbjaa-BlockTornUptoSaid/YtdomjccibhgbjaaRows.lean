/-
  No cell of these rows narrows 'for every input' (looked for: loops, veiled, ifaces, maps, wideKeys, modest, calm, conditions, laid).
  DERIVED. THE GIVEN ROWS OF THIS SEAT. 5 by the template 'for every input the law returns true; each argument reads behind the call as it read before'; 0 by the template 'total and deterministic' (their statements: YtdomjccibhgbjaaTotals.lean).
  GIVEN WITH THE SEED: the statements are not yours to turn. If you find one false, say at which input.
  Laid BY PROGRAM, IN A SANDBOX (cutbox-rows.mjs): the forced cells as the released guide's own fill.sh prints them over the translation d7b5542d49ed1e1d… (all of the seat's roots in one cut). By AI agents, Wed Nov 11 2026. No macro, syntax, notation, axiom, sorry.
-/
import Derived.Test.YtdomjccibhgbjaaChecked
import GoSem.Claim
import GoSem.ClaimJoined
import GoSem.ClaimMapViews
import Derived.JoinedTies
import Derived.KernelRfl
namespace Go.Proofs.Ytdomjccibhgbjaa
/- THE CELL 'sum', in the pinned program and in every row, IS THE sha256 OF THE DUMP (.gsa) THAT YtdomjccibhgbjaaProg.lean LOADS. Nothing in Lean hashes anything: it is a label: what it is worth is what the hold of that sum in a sandbox is worth. -/
noncomputable def Try.pinned : Pinned := { name := "ytdomjccibhgbjaa", sum := "d7b5542d49ed1e1d941bfd9105104fdf071eccab499d7fdabd8388c00c25c7f0", checked := Try.checked }
namespace Rows
def none {H : Type} : Left H := { results := [], args := [] }

/-- 'gleaninglaw18.BlockTorn': WHATEVER THE INPUT: true; the input reads as it did. -/
def blockTornSpec : ChangeSpec := { name := "blockTorn", fn := fun _ => fun
  | [d1, d2, d3] => { results := [.lit (.bool true)], args := [d1, d2, d3] }
  | _ => none }
def blockTornRow : OpenClaim := { program := "ytdomjccibhgbjaa", sum := "d7b5542d49ed1e1d941bfd9105104fdf071eccab499d7fdabd8388c00c25c7f0", func := "gleaning/gleaninglaw18.BlockTorn", spec := "blockTorn", unfollowed := true, recurses := true, apart := false }
def BlockTornSaid : Prop := blockTornRow.holds Try.pinned (OpenSpec.ofChange blockTornSpec)

/-- ITS FALSE NEIGHBOUR: 'it returns false'. Refute it at one input. -/
def blockTornWrong : ChangeSpec := { name := "blockTorn", fn := fun _ => fun
  | [d1, d2, d3] => { results := [.lit (.bool false)], args := [d1, d2, d3] }
  | _ => none }
def BlockTornWrongFalsely : Prop := blockTornRow.holds Try.pinned (OpenSpec.ofChange blockTornWrong)

/-- 'gleaninglaw18.BlockSorts': WHATEVER THE INPUT: true; the input reads as it did. -/
def blockSortsSpec : ChangeSpec := { name := "blockSorts", fn := fun _ => fun
  | [d1, d2] => { results := [.lit (.bool true)], args := [d1, d2] }
  | _ => none }
def blockSortsRow : OpenClaim := { program := "ytdomjccibhgbjaa", sum := "d7b5542d49ed1e1d941bfd9105104fdf071eccab499d7fdabd8388c00c25c7f0", func := "gleaning/gleaninglaw18.BlockSorts", spec := "blockSorts", unfollowed := true, recurses := true, apart := false }
def BlockSortsSaid : Prop := blockSortsRow.holds Try.pinned (OpenSpec.ofChange blockSortsSpec)

/-- ITS FALSE NEIGHBOUR: 'it returns false'. Refute it at one input. -/
def blockSortsWrong : ChangeSpec := { name := "blockSorts", fn := fun _ => fun
  | [d1, d2] => { results := [.lit (.bool false)], args := [d1, d2] }
  | _ => none }
def BlockSortsWrongFalsely : Prop := blockSortsRow.holds Try.pinned (OpenSpec.ofChange blockSortsWrong)

/-- 'gleaninglaw18.BlockLays': WHATEVER THE INPUT: true; the input reads as it did. -/
def blockLaysSpec : ChangeSpec := { name := "blockLays", fn := fun _ => fun
  | [d] => { results := [.lit (.bool true)], args := [d] }
  | _ => none }
def blockLaysRow : OpenClaim := { program := "ytdomjccibhgbjaa", sum := "d7b5542d49ed1e1d941bfd9105104fdf071eccab499d7fdabd8388c00c25c7f0", func := "gleaning/gleaninglaw18.BlockLays", spec := "blockLays", unfollowed := true, recurses := true, apart := false }
def BlockLaysSaid : Prop := blockLaysRow.holds Try.pinned (OpenSpec.ofChange blockLaysSpec)

/-- ITS FALSE NEIGHBOUR: 'it returns false'. Refute it at one input. -/
def blockLaysWrong : ChangeSpec := { name := "blockLays", fn := fun _ => fun
  | [d] => { results := [.lit (.bool false)], args := [d] }
  | _ => none }
def BlockLaysWrongFalsely : Prop := blockLaysRow.holds Try.pinned (OpenSpec.ofChange blockLaysWrong)

/-- 'gleaninglaw18.BlockFinds': WHATEVER THE INPUT: true; the input reads as it did. -/
def blockFindsSpec : ChangeSpec := { name := "blockFinds", fn := fun _ => fun
  | [d1, d2] => { results := [.lit (.bool true)], args := [d1, d2] }
  | _ => none }
def blockFindsRow : OpenClaim := { program := "ytdomjccibhgbjaa", sum := "d7b5542d49ed1e1d941bfd9105104fdf071eccab499d7fdabd8388c00c25c7f0", func := "gleaning/gleaninglaw18.BlockFinds", spec := "blockFinds", unfollowed := true, recurses := true, apart := false }
def BlockFindsSaid : Prop := blockFindsRow.holds Try.pinned (OpenSpec.ofChange blockFindsSpec)

/-- ITS FALSE NEIGHBOUR: 'it returns false'. Refute it at one input. -/
def blockFindsWrong : ChangeSpec := { name := "blockFinds", fn := fun _ => fun
  | [d1, d2] => { results := [.lit (.bool false)], args := [d1, d2] }
  | _ => none }
def BlockFindsWrongFalsely : Prop := blockFindsRow.holds Try.pinned (OpenSpec.ofChange blockFindsWrong)

/-- 'gleaninglaw18.BlockTells': WHATEVER THE INPUT: true; the input reads as it did. -/
def blockTellsSpec : ChangeSpec := { name := "blockTells", fn := fun _ => fun
  | [d1, d2, d3, d4, d5, d6, d7] => { results := [.lit (.bool true)], args := [d1, d2, d3, d4, d5, d6, d7] }
  | _ => none }
def blockTellsRow : OpenClaim := { program := "ytdomjccibhgbjaa", sum := "d7b5542d49ed1e1d941bfd9105104fdf071eccab499d7fdabd8388c00c25c7f0", func := "gleaning/gleaninglaw18.BlockTells", spec := "blockTells", unfollowed := true, recurses := true, apart := false }
def BlockTellsSaid : Prop := blockTellsRow.holds Try.pinned (OpenSpec.ofChange blockTellsSpec)

/-- ITS FALSE NEIGHBOUR: 'it returns false'. Refute it at one input. -/
def blockTellsWrong : ChangeSpec := { name := "blockTells", fn := fun _ => fun
  | [d1, d2, d3, d4, d5, d6, d7] => { results := [.lit (.bool false)], args := [d1, d2, d3, d4, d5, d6, d7] }
  | _ => none }
def BlockTellsWrongFalsely : Prop := blockTellsRow.holds Try.pinned (OpenSpec.ofChange blockTellsWrong)

/- THE SECOND FORM. 'bulk': how many values and letters a reading holds, each counted each time it is reached (what is shared counts as often as it is met; a slice's spare places count too). A statement '..UptoSaid' is the law's where the arguments, and the package variables that the reading takes, are together of bulk at most 1048576: NARROWER than '..Said'. Prove '..Said' where nothing that the law and all that it calls make is longer than what came in: it says more and counts as full. Else prove '..UptoSaid'. A law counts once. -/
mutual
def uptoBulk {H : Type} : DataW H → Nat
  | .lit (.string bytes) => bytes.length + 1
  | .lit _ => 1
  | .nil => 1
  | .ptr d => uptoBulk d + 1
  | .slice elems spare => uptoBulkAll elems + uptoBulkAll spare + 1
  | .agg parts => uptoBulkAll parts + 1
  | .iface _ d => uptoBulk d + 1
  | .map entries => uptoBulkEntries entries + 1
  | .held _ => 1
def uptoBulkAll {H : Type} : List (DataW H) → Nat
  | [] => 0
  | d :: r => uptoBulk d + uptoBulkAll r
def uptoBulkEntries {H : Type} : List (Lit × DataW H) → Nat
  | [] => 0
  | x :: r => uptoBulkEntry x + uptoBulkEntries r
def uptoBulkEntry {H : Type} : Lit × DataW H → Nat
  | (.string bytes, d) => bytes.length + uptoBulk d + 1
  | (_, d) => uptoBulk d + 1
 end
def uptoSmall : (H : Type) → List (DataW H) → Bool := fun _ ds => decide (uptoBulkAll ds ≤ 1048576)
def OpenSpec.upto (s : _root_.Go.ChangeSpec) : _root_.Go.OpenSpec := { _root_.Go.OpenSpec.ofChange s with cond := some uptoSmall }

/-- 'gleaninglaw18.BlockTorn', WHERE WHAT IT READS IS OF BULK AT MOST 1048576: true; the input reads as it did. -/
def blockTornUptoRow : OpenClaim := { program := "ytdomjccibhgbjaa", sum := "d7b5542d49ed1e1d941bfd9105104fdf071eccab499d7fdabd8388c00c25c7f0", func := "gleaning/gleaninglaw18.BlockTorn", spec := "blockTorn", unfollowed := true, recurses := true, apart := false, narrowed := true }
def BlockTornUptoSaid : Prop := blockTornUptoRow.holds Try.pinned (OpenSpec.upto blockTornSpec)

/-- 'gleaninglaw18.BlockSorts', WHERE WHAT IT READS IS OF BULK AT MOST 1048576: true; the input reads as it did. -/
def blockSortsUptoRow : OpenClaim := { program := "ytdomjccibhgbjaa", sum := "d7b5542d49ed1e1d941bfd9105104fdf071eccab499d7fdabd8388c00c25c7f0", func := "gleaning/gleaninglaw18.BlockSorts", spec := "blockSorts", unfollowed := true, recurses := true, apart := false, narrowed := true }
def BlockSortsUptoSaid : Prop := blockSortsUptoRow.holds Try.pinned (OpenSpec.upto blockSortsSpec)

/-- 'gleaninglaw18.BlockLays', WHERE WHAT IT READS IS OF BULK AT MOST 1048576: true; the input reads as it did. -/
def blockLaysUptoRow : OpenClaim := { program := "ytdomjccibhgbjaa", sum := "d7b5542d49ed1e1d941bfd9105104fdf071eccab499d7fdabd8388c00c25c7f0", func := "gleaning/gleaninglaw18.BlockLays", spec := "blockLays", unfollowed := true, recurses := true, apart := false, narrowed := true }
def BlockLaysUptoSaid : Prop := blockLaysUptoRow.holds Try.pinned (OpenSpec.upto blockLaysSpec)

/-- 'gleaninglaw18.BlockFinds', WHERE WHAT IT READS IS OF BULK AT MOST 1048576: true; the input reads as it did. -/
def blockFindsUptoRow : OpenClaim := { program := "ytdomjccibhgbjaa", sum := "d7b5542d49ed1e1d941bfd9105104fdf071eccab499d7fdabd8388c00c25c7f0", func := "gleaning/gleaninglaw18.BlockFinds", spec := "blockFinds", unfollowed := true, recurses := true, apart := false, narrowed := true }
def BlockFindsUptoSaid : Prop := blockFindsUptoRow.holds Try.pinned (OpenSpec.upto blockFindsSpec)

/-- 'gleaninglaw18.BlockTells', WHERE WHAT IT READS IS OF BULK AT MOST 1048576: true; the input reads as it did. -/
def blockTellsUptoRow : OpenClaim := { program := "ytdomjccibhgbjaa", sum := "d7b5542d49ed1e1d941bfd9105104fdf071eccab499d7fdabd8388c00c25c7f0", func := "gleaning/gleaninglaw18.BlockTells", spec := "blockTells", unfollowed := true, recurses := true, apart := false, narrowed := true }
def BlockTellsUptoSaid : Prop := blockTellsUptoRow.holds Try.pinned (OpenSpec.upto blockTellsSpec)

end Rows
end Go.Proofs.Ytdomjccibhgbjaa
