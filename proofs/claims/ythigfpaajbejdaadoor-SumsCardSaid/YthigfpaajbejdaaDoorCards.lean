/-
  DERIVED. GIVEN WITH THE SEED: THE CARDS: each row of YthigfpaajbejdaaDoorRows.lean that lists a variable, with what it lists TIED to the program's text (the seventh form; the later family's looks); each row that meets fmt, with fmt's text TOLD by the authors' own Lean function (tested against real Go, not proved from fmt's source: count such statements apart). THE CARD IS WHAT COUNTS. Prove the row's statement (the work); the ties are given (YthigfpaajbejdaaDoorTie.lean); close each card by the builder's one call (the guide's Derived/Test/ToyasCard.lean, 'card_holds'). Laid BY PROGRAM, IN A SANDBOX (cutbox-door.mjs). By AI agents, Wed Nov 11 2026. No macro, syntax, notation, axiom, sorry.
-/
import Derived.Test.YthigfpaajbejdaaDoorRows
import GoSem.ClaimSeven
namespace Go.Proofs.YthigfpaajbejdaaDoor
namespace Rows

/-- THE TIED CARD OF 'flacpairlaw.Sums'. -/
def sumsCard : Claim7 := { stood := { row := sumsRow, standIns := [], harness := (true, "4a9e744ad21f5003056d8dcaddc7b07001f7f8398fab296ac72a0eee60bd3e1c"), looks := true }, kinds := [], alts := [], laidByText := true, laidKinds := [.data, .data, .handle], laidTests := true, laidLooks := .later }
def SumsCardSaid : Prop := Claim7.holds Tryd.pinned (.plain (OpenSpec.ofChange sumsSpec)) sumsCard

/-- THE TIED CARD OF 'flacpairlaw.Bits'. -/
def bitsCard : Claim7 := { stood := { row := bitsRow, standIns := [], harness := (true, "4a9e744ad21f5003056d8dcaddc7b07001f7f8398fab296ac72a0eee60bd3e1c"), looks := true }, kinds := [], alts := [], laidByText := true, laidKinds := [.handle], laidTests := true, laidLooks := .later }
def BitsCardSaid : Prop := Claim7.holds Tryd.pinned (.plain (OpenSpec.ofChange bitsSpec)) bitsCard

/-- THE SECOND FORM's CARD OF 'flacpairlaw.Sums'. -/
def sumsUptoCard : Claim7 := { stood := { row := sumsUptoRow, standIns := [], harness := (true, "4a9e744ad21f5003056d8dcaddc7b07001f7f8398fab296ac72a0eee60bd3e1c"), looks := true }, kinds := [], alts := [], laidByText := true, laidKinds := [.data, .data, .handle], laidTests := true, laidLooks := .later }
def SumsUptoCardSaid : Prop := Claim7.holds Tryd.pinned (.plain (OpenSpec.upto sumsSpec)) sumsUptoCard

/-- THE SECOND FORM's CARD OF 'flacpairlaw.Bits'. -/
def bitsUptoCard : Claim7 := { stood := { row := bitsUptoRow, standIns := [], harness := (true, "4a9e744ad21f5003056d8dcaddc7b07001f7f8398fab296ac72a0eee60bd3e1c"), looks := true }, kinds := [], alts := [], laidByText := true, laidKinds := [.handle], laidTests := true, laidLooks := .later }
def BitsUptoCardSaid : Prop := Claim7.holds Tryd.pinned (.plain (OpenSpec.upto bitsSpec)) bitsUptoCard
end Rows
end Go.Proofs.YthigfpaajbejdaaDoor
