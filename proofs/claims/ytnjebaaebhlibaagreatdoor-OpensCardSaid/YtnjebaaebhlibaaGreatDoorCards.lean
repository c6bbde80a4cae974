/-
  DERIVED. GIVEN WITH THE SEED: THE CARDS: each row of YtnjebaaebhlibaaGreatDoorRows.lean that lists a variable, with what it lists TIED to the program's text (the seventh form; the later family's looks); each row that meets fmt, with fmt's text TOLD by the authors' own Lean function (tested against real Go, not proved from fmt's source: count such statements apart). THE CARD IS WHAT COUNTS. Prove the row's statement (the work); the ties are given (YtnjebaaebhlibaaGreatDoorTie.lean); close each card by the builder's one call (the guide's Derived/Test/ToyasCard.lean, 'card_holds'). Laid BY PROGRAM, IN A SANDBOX (cutbox-door.mjs). By AI agents, Wed Nov 11 2026. No macro, syntax, notation, axiom, sorry.
-/
import Derived.Test.YtnjebaaebhlibaaGreatDoorRows
import GoSem.ClaimSeven
namespace Go.Proofs.YtnjebaaebhlibaaGreatDoor
namespace Rows

/-- THE TIED CARD OF 'flacpairlaw.Opens'. -/
def opensCard : Claim7 := { stood := { row := opensRow, standIns := [], harness := (true, "7c7efe924752a4d22d95704d4205935aaf4e120cf7cf70bd39efedf8e8da655a"), looks := true }, kinds := [], alts := [], laidByText := true, laidKinds := [.handle], laidTests := true, laidLooks := .later }
def OpensCardSaid : Prop := Claim7.holds Tryz.pinned (.plain (OpenSpec.ofChange opensSpec)) opensCard

/-- THE SECOND FORM's CARD OF 'flacpairlaw.Opens'. -/
def opensUptoCard : Claim7 := { stood := { row := opensUptoRow, standIns := [], harness := (true, "7c7efe924752a4d22d95704d4205935aaf4e120cf7cf70bd39efedf8e8da655a"), looks := true }, kinds := [], alts := [], laidByText := true, laidKinds := [.handle], laidTests := true, laidLooks := .later }
def OpensUptoCardSaid : Prop := Claim7.holds Tryz.pinned (.plain (OpenSpec.upto opensSpec)) opensUptoCard
end Rows
end Go.Proofs.YtnjebaaebhlibaaGreatDoor
