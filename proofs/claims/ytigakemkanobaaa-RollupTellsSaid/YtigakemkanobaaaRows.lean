/-
  No cell of these rows narrows 'for every input' (looked for: loops, veiled, ifaces, maps, wideKeys, modest, calm, conditions, laid).
  DERIVED. THE GIVEN ROWS OF THIS SEAT. 5 by the template 'for every input the law returns true; each argument reads behind the call as it read before'; 0 by the template 'total and deterministic' (their statements: YtigakemkanobaaaTotals.lean).
  GIVEN WITH THE SEED: the statements are not yours to turn. If you find one false, say at which input.
  Laid BY PROGRAM, IN A SANDBOX (cutbox-rows.mjs): the forced cells as the released guide's own fill.sh prints them over the translation 5deff1a372a21f2e… (all of the seat's roots in one cut). By AI agents, Wed Nov 11 2026. No macro, syntax, notation, axiom, sorry.
-/
import Derived.Test.YtigakemkanobaaaChecked
import GoSem.Claim
import GoSem.ClaimJoined
import GoSem.ClaimMapViews
import Derived.JoinedTies
import Derived.KernelRfl
namespace Go.Proofs.Ytigakemkanobaaa
/- THE CELL 'sum', in the pinned program and in every row, IS THE sha256 OF THE DUMP (.gsa) THAT YtigakemkanobaaaProg.lean LOADS. Nothing in Lean hashes anything: it is a label: what it is worth is what the hold of that sum in a sandbox is worth. -/
noncomputable def Try.pinned : Pinned := { name := "ytigakemkanobaaa", sum := "5deff1a372a21f2e1e89335df326f35838e3006d4c750c7979ff5797baddbb0d", checked := Try.checked }
namespace Rows
def none {H : Type} : Left H := { results := [], args := [] }

/-- 'gleaninglaw10.RollupAny': WHATEVER THE INPUT: true; the input reads as it did. -/
def rollupAnySpec : ChangeSpec := { name := "rollupAny", fn := fun _ => fun
  | [d1, d2, d3] => { results := [.lit (.bool true)], args := [d1, d2, d3] }
  | _ => none }
def rollupAnyRow : OpenClaim := { program := "ytigakemkanobaaa", sum := "5deff1a372a21f2e1e89335df326f35838e3006d4c750c7979ff5797baddbb0d", func := "gleaning/gleaninglaw10.RollupAny", spec := "rollupAny", inPlace := ["slices.overlaps[gleaning/api.Row]", "sync/atomic.LoadInt64", "sync/atomic.AddInt64"], unfollowed := true, recurses := true, apart := false }
def RollupAnySaid : Prop := rollupAnyRow.holds Try.pinned (OpenSpec.ofChange rollupAnySpec)

/-- ITS FALSE NEIGHBOUR: 'it returns false'. Refute it at one input. -/
def rollupAnyWrong : ChangeSpec := { name := "rollupAny", fn := fun _ => fun
  | [d1, d2, d3] => { results := [.lit (.bool false)], args := [d1, d2, d3] }
  | _ => none }
def RollupAnyWrongFalsely : Prop := rollupAnyRow.holds Try.pinned (OpenSpec.ofChange rollupAnyWrong)

/-- 'gleaninglaw10.RollupSums': WHATEVER THE INPUT: true; the input reads as it did. -/
def rollupSumsSpec : ChangeSpec := { name := "rollupSums", fn := fun _ => fun
  | [d1, d2] => { results := [.lit (.bool true)], args := [d1, d2] }
  | _ => none }
def rollupSumsRow : OpenClaim := { program := "ytigakemkanobaaa", sum := "5deff1a372a21f2e1e89335df326f35838e3006d4c750c7979ff5797baddbb0d", func := "gleaning/gleaninglaw10.RollupSums", spec := "rollupSums", inPlace := ["slices.overlaps[gleaning/api.Row]", "sync/atomic.LoadInt64", "sync/atomic.AddInt64"], unfollowed := true, recurses := true, apart := false }
def RollupSumsSaid : Prop := rollupSumsRow.holds Try.pinned (OpenSpec.ofChange rollupSumsSpec)

/-- ITS FALSE NEIGHBOUR: 'it returns false'. Refute it at one input. -/
def rollupSumsWrong : ChangeSpec := { name := "rollupSums", fn := fun _ => fun
  | [d1, d2] => { results := [.lit (.bool false)], args := [d1, d2] }
  | _ => none }
def RollupSumsWrongFalsely : Prop := rollupSumsRow.holds Try.pinned (OpenSpec.ofChange rollupSumsWrong)

/-- 'gleaninglaw10.RollupCounts': WHATEVER THE INPUT: true; the input reads as it did. -/
def rollupCountsSpec : ChangeSpec := { name := "rollupCounts", fn := fun _ => fun
  | [d1, d2] => { results := [.lit (.bool true)], args := [d1, d2] }
  | _ => none }
def rollupCountsRow : OpenClaim := { program := "ytigakemkanobaaa", sum := "5deff1a372a21f2e1e89335df326f35838e3006d4c750c7979ff5797baddbb0d", func := "gleaning/gleaninglaw10.RollupCounts", spec := "rollupCounts", inPlace := ["slices.overlaps[gleaning/api.Row]", "sync/atomic.LoadInt64", "sync/atomic.AddInt64"], unfollowed := true, recurses := true, apart := false }
def RollupCountsSaid : Prop := rollupCountsRow.holds Try.pinned (OpenSpec.ofChange rollupCountsSpec)

/-- ITS FALSE NEIGHBOUR: 'it returns false'. Refute it at one input. -/
def rollupCountsWrong : ChangeSpec := { name := "rollupCounts", fn := fun _ => fun
  | [d1, d2] => { results := [.lit (.bool false)], args := [d1, d2] }
  | _ => none }
def RollupCountsWrongFalsely : Prop := rollupCountsRow.holds Try.pinned (OpenSpec.ofChange rollupCountsWrong)

/-- 'gleaninglaw10.RollupTells': WHATEVER THE INPUT: true; the input reads as it did. -/
def rollupTellsSpec : ChangeSpec := { name := "rollupTells", fn := fun _ => fun
  | [d1, d2, d3, d4, d5, d6, d7, d8] => { results := [.lit (.bool true)], args := [d1, d2, d3, d4, d5, d6, d7, d8] }
  | _ => none }
def rollupTellsRow : OpenClaim := { program := "ytigakemkanobaaa", sum := "5deff1a372a21f2e1e89335df326f35838e3006d4c750c7979ff5797baddbb0d", func := "gleaning/gleaninglaw10.RollupTells", spec := "rollupTells", inPlace := ["slices.overlaps[gleaning/api.Row]", "sync/atomic.LoadInt64", "sync/atomic.AddInt64"], unfollowed := true, recurses := true, apart := false }
def RollupTellsSaid : Prop := rollupTellsRow.holds Try.pinned (OpenSpec.ofChange rollupTellsSpec)

/-- ITS FALSE NEIGHBOUR: 'it returns false'. Refute it at one input. -/
def rollupTellsWrong : ChangeSpec := { name := "rollupTells", fn := fun _ => fun
  | [d1, d2, d3, d4, d5, d6, d7, d8] => { results := [.lit (.bool false)], args := [d1, d2, d3, d4, d5, d6, d7, d8] }
  | _ => none }
def RollupTellsWrongFalsely : Prop := rollupTellsRow.holds Try.pinned (OpenSpec.ofChange rollupTellsWrong)

/-- 'gleaninglaw10.RollupExpires': WHATEVER THE INPUT: true; the input reads as it did. -/
def rollupExpiresSpec : ChangeSpec := { name := "rollupExpires", fn := fun _ => fun
  | [d1, d2, d3, d4] => { results := [.lit (.bool true)], args := [d1, d2, d3, d4] }
  | _ => none }
def rollupExpiresRow : OpenClaim := { program := "ytigakemkanobaaa", sum := "5deff1a372a21f2e1e89335df326f35838e3006d4c750c7979ff5797baddbb0d", func := "gleaning/gleaninglaw10.RollupExpires", spec := "rollupExpires", inPlace := ["slices.overlaps[gleaning/api.Row]", "sync/atomic.LoadInt64", "sync/atomic.AddInt64"], unfollowed := true, recurses := true, apart := false }
def RollupExpiresSaid : Prop := rollupExpiresRow.holds Try.pinned (OpenSpec.ofChange rollupExpiresSpec)

/-- ITS FALSE NEIGHBOUR: 'it returns false'. Refute it at one input. -/
def rollupExpiresWrong : ChangeSpec := { name := "rollupExpires", fn := fun _ => fun
  | [d1, d2, d3, d4] => { results := [.lit (.bool false)], args := [d1, d2, d3, d4] }
  | _ => none }
def RollupExpiresWrongFalsely : Prop := rollupExpiresRow.holds Try.pinned (OpenSpec.ofChange rollupExpiresWrong)

/- THE SECOND FORM. 'bulk': how many values and letters a reading holds, each counted each time it is reached (what is shared counts as often as it is met; a slice's spare places count too). A statement '..UptoSaid' is the law's where the arguments, and the package variables that the reading takes, are together of bulk at most 1048576: NARROWER than '..Said'. Prove '..Said' where nothing that the law and all that it calls make is longer than what came in: it says more and counts as full. Else prove '..UptoSaid'. A law counts once. -/
mutual
def uptoBulk {H : Type} : DataW H → Nat
  | .lit (.string bytes) => bytes.length + 1
  | .lit _ => 1
  | .nil => 1
  | .ptr d => uptoBulk d + 1
  | .slice elems spare => uptoBulkAll elems + uptoBulkAll spare + 1
  | .agg parts => uptoBulkAll parts + 1
  | .iface _ d => uptoBulk d + 1
  | .map entries => uptoBulkEntries entries + 1
  | .held _ => 1
def uptoBulkAll {H : Type} : List (DataW H) → Nat
  | [] => 0
  | d :: r => uptoBulk d + uptoBulkAll r
def uptoBulkEntries {H : Type} : List (Lit × DataW H) → Nat
  | [] => 0
  | x :: r => uptoBulkEntry x + uptoBulkEntries r
def uptoBulkEntry {H : Type} : Lit × DataW H → Nat
  | (.string bytes, d) => bytes.length + uptoBulk d + 1
  | (_, d) => uptoBulk d + 1
 end
def uptoSmall : (H : Type) → List (DataW H) → Bool := fun _ ds => decide (uptoBulkAll ds ≤ 1048576)
def OpenSpec.upto (s : _root_.Go.ChangeSpec) : _root_.Go.OpenSpec := { _root_.Go.OpenSpec.ofChange s with cond := some uptoSmall }

/-- 'gleaninglaw10.RollupAny', WHERE WHAT IT READS IS OF BULK AT MOST 1048576: true; the input reads as it did. -/
def rollupAnyUptoRow : OpenClaim := { program := "ytigakemkanobaaa", sum := "5deff1a372a21f2e1e89335df326f35838e3006d4c750c7979ff5797baddbb0d", func := "gleaning/gleaninglaw10.RollupAny", spec := "rollupAny", inPlace := ["slices.overlaps[gleaning/api.Row]", "sync/atomic.LoadInt64", "sync/atomic.AddInt64"], unfollowed := true, recurses := true, apart := false, narrowed := true }
def RollupAnyUptoSaid : Prop := rollupAnyUptoRow.holds Try.pinned (OpenSpec.upto rollupAnySpec)

/-- 'gleaninglaw10.RollupSums', WHERE WHAT IT READS IS OF BULK AT MOST 1048576: true; the input reads as it did. -/
def rollupSumsUptoRow : OpenClaim := { program := "ytigakemkanobaaa", sum := "5deff1a372a21f2e1e89335df326f35838e3006d4c750c7979ff5797baddbb0d", func := "gleaning/gleaninglaw10.RollupSums", spec := "rollupSums", inPlace := ["slices.overlaps[gleaning/api.Row]", "sync/atomic.LoadInt64", "sync/atomic.AddInt64"], unfollowed := true, recurses := true, apart := false, narrowed := true }
def RollupSumsUptoSaid : Prop := rollupSumsUptoRow.holds Try.pinned (OpenSpec.upto rollupSumsSpec)

/-- 'gleaninglaw10.RollupCounts', WHERE WHAT IT READS IS OF BULK AT MOST 1048576: true; the input reads as it did. -/
def rollupCountsUptoRow : OpenClaim := { program := "ytigakemkanobaaa", sum := "5deff1a372a21f2e1e89335df326f35838e3006d4c750c7979ff5797baddbb0d", func := "gleaning/gleaninglaw10.RollupCounts", spec := "rollupCounts", inPlace := ["slices.overlaps[gleaning/api.Row]", "sync/atomic.LoadInt64", "sync/atomic.AddInt64"], unfollowed := true, recurses := true, apart := false, narrowed := true }
def RollupCountsUptoSaid : Prop := rollupCountsUptoRow.holds Try.pinned (OpenSpec.upto rollupCountsSpec)

/-- 'gleaninglaw10.RollupTells', WHERE WHAT IT READS IS OF BULK AT MOST 1048576: true; the input reads as it did. -/
def rollupTellsUptoRow : OpenClaim := { program := "ytigakemkanobaaa", sum := "5deff1a372a21f2e1e89335df326f35838e3006d4c750c7979ff5797baddbb0d", func := "gleaning/gleaninglaw10.RollupTells", spec := "rollupTells", inPlace := ["slices.overlaps[gleaning/api.Row]", "sync/atomic.LoadInt64", "sync/atomic.AddInt64"], unfollowed := true, recurses := true, apart := false, narrowed := true }
def RollupTellsUptoSaid : Prop := rollupTellsUptoRow.holds Try.pinned (OpenSpec.upto rollupTellsSpec)

/-- 'gleaninglaw10.RollupExpires', WHERE WHAT IT READS IS OF BULK AT MOST 1048576: true; the input reads as it did. -/
def rollupExpiresUptoRow : OpenClaim := { program := "ytigakemkanobaaa", sum := "5deff1a372a21f2e1e89335df326f35838e3006d4c750c7979ff5797baddbb0d", func := "gleaning/gleaninglaw10.RollupExpires", spec := "rollupExpires", inPlace := ["slices.overlaps[gleaning/api.Row]", "sync/atomic.LoadInt64", "sync/atomic.AddInt64"], unfollowed := true, recurses := true, apart := false, narrowed := true }
def RollupExpiresUptoSaid : Prop := rollupExpiresUptoRow.holds Try.pinned (OpenSpec.upto rollupExpiresSpec)

end Rows
end Go.Proofs.Ytigakemkanobaaa
