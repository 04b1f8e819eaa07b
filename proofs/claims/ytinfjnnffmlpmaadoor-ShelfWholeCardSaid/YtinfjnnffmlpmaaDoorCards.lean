/-
  DERIVED. GIVEN WITH THE SEED: THE CARDS: each row of YtinfjnnffmlpmaaDoorRows.lean that lists a variable, with what it lists TIED to the program's text (the seventh form; the later family's looks); each row that meets fmt, with fmt's text TOLD by the authors' own Lean function (tested against real Go, not proved from fmt's source: count such statements apart). THE CARD IS WHAT COUNTS. Prove the row's statement (the work); the ties are given (YtinfjnnffmlpmaaDoorTie.lean); close each card by the builder's one call (the guide's Derived/Test/ToyasCard.lean, 'card_holds'). Laid BY PROGRAM, IN A SANDBOX (cutbox-door.mjs). By AI agents, Wed Nov 11 2026. No macro, syntax, notation, axiom, sorry.
-/
import Derived.Test.YtinfjnnffmlpmaaDoorRows
import GoSem.ClaimSeven
namespace Go.Proofs.YtinfjnnffmlpmaaDoor
namespace Rows

/-- THE TIED CARD OF 'gleaninglaw24.ShelfNames'. -/
def shelfNamesCard : Claim7 := { stood := { row := shelfNamesRow, standIns := [], harness := (true, "186a4899463cb9ec313ce9ba8a947694a5c8bc812a87f014e356d728d7264bdf"), looks := false }, kinds := [], alts := [], laidByText := true, laidKinds := [.data, .data, .data], laidTests := true, laidLooks := .later }
def ShelfNamesCardSaid : Prop := Claim7.holds Tryd.pinned (.plain (OpenSpec.ofChange shelfNamesSpec)) shelfNamesCard

/-- THE TIED CARD OF 'gleaninglaw24.ShelfWhole'. -/
def shelfWholeCard : Claim7 := { stood := { row := shelfWholeRow, standIns := [], harness := (true, "186a4899463cb9ec313ce9ba8a947694a5c8bc812a87f014e356d728d7264bdf"), looks := false }, kinds := [], alts := [], laidByText := true, laidKinds := [.data, .data, .data], laidTests := true, laidLooks := .later }
def ShelfWholeCardSaid : Prop := Claim7.holds Tryd.pinned (.plain (OpenSpec.ofChange shelfWholeSpec)) shelfWholeCard

/-- THE SECOND FORM's CARD OF 'gleaninglaw24.ShelfNames'. -/
def shelfNamesUptoCard : Claim7 := { stood := { row := shelfNamesUptoRow, standIns := [], harness := (true, "186a4899463cb9ec313ce9ba8a947694a5c8bc812a87f014e356d728d7264bdf"), looks := false }, kinds := [], alts := [], laidByText := true, laidKinds := [.data, .data, .data], laidTests := true, laidLooks := .later }
def ShelfNamesUptoCardSaid : Prop := Claim7.holds Tryd.pinned (.plain (OpenSpec.upto shelfNamesSpec)) shelfNamesUptoCard

/-- THE SECOND FORM's CARD OF 'gleaninglaw24.ShelfWhole'. -/
def shelfWholeUptoCard : Claim7 := { stood := { row := shelfWholeUptoRow, standIns := [], harness := (true, "186a4899463cb9ec313ce9ba8a947694a5c8bc812a87f014e356d728d7264bdf"), looks := false }, kinds := [], alts := [], laidByText := true, laidKinds := [.data, .data, .data], laidTests := true, laidLooks := .later }
def ShelfWholeUptoCardSaid : Prop := Claim7.holds Tryd.pinned (.plain (OpenSpec.upto shelfWholeSpec)) shelfWholeUptoCard
end Rows
end Go.Proofs.YtinfjnnffmlpmaaDoor
