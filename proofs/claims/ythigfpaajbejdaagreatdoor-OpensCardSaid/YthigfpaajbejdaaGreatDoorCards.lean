/-
  DERIVED. GIVEN WITH THE SEED: THE CARDS: each row of YthigfpaajbejdaaGreatDoorRows.lean that lists a variable, with what it lists TIED to the program's text (the seventh form; the later family's looks); each row that meets fmt, with fmt's text TOLD by the authors' own Lean function (tested against real Go, not proved from fmt's source: count such statements apart). THE CARD IS WHAT COUNTS. Prove the row's statement (the work); the ties are given (YthigfpaajbejdaaGreatDoorTie.lean); close each card by the builder's one call (the guide's Derived/Test/ToyasCard.lean, 'card_holds'). Laid BY PROGRAM, IN A SANDBOX (cutbox-door.mjs). By AI agents, Wed Nov 11 2026. No macro, syntax, notation, axiom, sorry.
-/
import Derived.Test.YthigfpaajbejdaaGreatDoorRows
import GoSem.ClaimSeven
namespace Go.Proofs.YthigfpaajbejdaaGreatDoor
namespace Rows

/-- THE TIED CARD OF 'flacpairkeep.Known'. -/
def knownCard : Claim7 := { stood := { row := knownRow, standIns := [], harness := (true, "470302c905dc1f553ad3934a9a4514c77659bb0a79466a6c0fbe2118e5cdb238"), looks := true }, kinds := [], alts := [], laidByText := true, laidKinds := [.data, .data, .handle], laidTests := true, laidLooks := .later }
def KnownCardSaid : Prop := Claim7.holds Tryz.pinned (.plain (OpenSpec.ofChange knownSpec)) knownCard

/-- THE TIED CARD OF 'flacpairlaw.All'. -/
def allCard : Claim7 := { stood := { row := allRow, standIns := [], harness := (true, "470302c905dc1f553ad3934a9a4514c77659bb0a79466a6c0fbe2118e5cdb238"), looks := true }, kinds := [], alts := [], laidByText := true, laidKinds := [.handle], laidTests := true, laidLooks := .later }
def AllCardSaid : Prop := Claim7.holds Tryz.pinned (.plain (OpenSpec.ofChange allSpec)) allCard

/-- THE TIED CARD OF 'flacpairlaw.Opens'. -/
def opensCard : Claim7 := { stood := { row := opensRow, standIns := [], harness := (true, "470302c905dc1f553ad3934a9a4514c77659bb0a79466a6c0fbe2118e5cdb238"), looks := true }, kinds := [], alts := [], laidByText := true, laidKinds := [.handle], laidTests := true, laidLooks := .later }
def OpensCardSaid : Prop := Claim7.holds Tryz.pinned (.plain (OpenSpec.ofChange opensSpec)) opensCard

/-- THE TIED CARD OF 'flacpairlaw.Refused'. -/
def refusedCard : Claim7 := { stood := { row := refusedRow, standIns := [], harness := (true, "470302c905dc1f553ad3934a9a4514c77659bb0a79466a6c0fbe2118e5cdb238"), looks := true }, kinds := [], alts := [], laidByText := true, laidKinds := [.data, .data, .handle], laidTests := true, laidLooks := .later }
def RefusedCardSaid : Prop := Claim7.holds Tryz.pinned (.plain (OpenSpec.ofChange refusedSpec)) refusedCard

/-- THE TIED CARD OF 'flacpairkeep.Same'. -/
def sameCard : Claim7 := { stood := { row := sameRow, standIns := [], harness := (true, "470302c905dc1f553ad3934a9a4514c77659bb0a79466a6c0fbe2118e5cdb238"), looks := true }, kinds := [], alts := [], laidByText := true, laidKinds := [.handle], laidTests := true, laidLooks := .later }
def SameCardSaid : Prop := Claim7.holds Tryz.pinned (.plain (OpenSpec.ofChange sameSpec)) sameCard

/-- THE TIED CARD OF 'flacpairkeep.Pieces'. -/
def piecesCard : Claim7 := { stood := { row := piecesRow, standIns := [], harness := (true, "470302c905dc1f553ad3934a9a4514c77659bb0a79466a6c0fbe2118e5cdb238"), looks := true }, kinds := [], alts := [], laidByText := true, laidKinds := [.handle], laidTests := true, laidLooks := .later }
def PiecesCardSaid : Prop := Claim7.holds Tryz.pinned (.plain (OpenSpec.ofChange piecesSpec)) piecesCard

/-- THE TIED CARD OF 'flacpairkeep.Back'. -/
def backCard : Claim7 := { stood := { row := backRow, standIns := [], harness := (true, "470302c905dc1f553ad3934a9a4514c77659bb0a79466a6c0fbe2118e5cdb238"), looks := true }, kinds := [], alts := [], laidByText := true, laidKinds := [.handle], laidTests := true, laidLooks := .later }
def BackCardSaid : Prop := Claim7.holds Tryz.pinned (.plain (OpenSpec.ofChange backSpec)) backCard

/-- THE TIED CARD OF 'flacpairkeep.Cut'. -/
def cutCard : Claim7 := { stood := { row := cutRow, standIns := [], harness := (true, "470302c905dc1f553ad3934a9a4514c77659bb0a79466a6c0fbe2118e5cdb238"), looks := true }, kinds := [], alts := [], laidByText := true, laidKinds := [.handle], laidTests := true, laidLooks := .later }
def CutCardSaid : Prop := Claim7.holds Tryz.pinned (.plain (OpenSpec.ofChange cutSpec)) cutCard

/-- THE TIED CARD OF 'flacpairkeep.Summed'. -/
def summedCard : Claim7 := { stood := { row := summedRow, standIns := [], harness := (true, "470302c905dc1f553ad3934a9a4514c77659bb0a79466a6c0fbe2118e5cdb238"), looks := true }, kinds := [], alts := [], laidByText := true, laidKinds := [.handle], laidTests := true, laidLooks := .later }
def SummedCardSaid : Prop := Claim7.holds Tryz.pinned (.plain (OpenSpec.ofChange summedSpec)) summedCard

/-- THE SECOND FORM's CARD OF 'flacpairkeep.Known'. -/
def knownUptoCard : Claim7 := { stood := { row := knownUptoRow, standIns := [], harness := (true, "470302c905dc1f553ad3934a9a4514c77659bb0a79466a6c0fbe2118e5cdb238"), looks := true }, kinds := [], alts := [], laidByText := true, laidKinds := [.data, .data, .handle], laidTests := true, laidLooks := .later }
def KnownUptoCardSaid : Prop := Claim7.holds Tryz.pinned (.plain (OpenSpec.upto knownSpec)) knownUptoCard

/-- THE SECOND FORM's CARD OF 'flacpairlaw.All'. -/
def allUptoCard : Claim7 := { stood := { row := allUptoRow, standIns := [], harness := (true, "470302c905dc1f553ad3934a9a4514c77659bb0a79466a6c0fbe2118e5cdb238"), looks := true }, kinds := [], alts := [], laidByText := true, laidKinds := [.handle], laidTests := true, laidLooks := .later }
def AllUptoCardSaid : Prop := Claim7.holds Tryz.pinned (.plain (OpenSpec.upto allSpec)) allUptoCard

/-- THE SECOND FORM's CARD OF 'flacpairlaw.Opens'. -/
def opensUptoCard : Claim7 := { stood := { row := opensUptoRow, standIns := [], harness := (true, "470302c905dc1f553ad3934a9a4514c77659bb0a79466a6c0fbe2118e5cdb238"), looks := true }, kinds := [], alts := [], laidByText := true, laidKinds := [.handle], laidTests := true, laidLooks := .later }
def OpensUptoCardSaid : Prop := Claim7.holds Tryz.pinned (.plain (OpenSpec.upto opensSpec)) opensUptoCard

/-- THE SECOND FORM's CARD OF 'flacpairlaw.Refused'. -/
def refusedUptoCard : Claim7 := { stood := { row := refusedUptoRow, standIns := [], harness := (true, "470302c905dc1f553ad3934a9a4514c77659bb0a79466a6c0fbe2118e5cdb238"), looks := true }, kinds := [], alts := [], laidByText := true, laidKinds := [.data, .data, .handle], laidTests := true, laidLooks := .later }
def RefusedUptoCardSaid : Prop := Claim7.holds Tryz.pinned (.plain (OpenSpec.upto refusedSpec)) refusedUptoCard

/-- THE SECOND FORM's CARD OF 'flacpairkeep.Same'. -/
def sameUptoCard : Claim7 := { stood := { row := sameUptoRow, standIns := [], harness := (true, "470302c905dc1f553ad3934a9a4514c77659bb0a79466a6c0fbe2118e5cdb238"), looks := true }, kinds := [], alts := [], laidByText := true, laidKinds := [.handle], laidTests := true, laidLooks := .later }
def SameUptoCardSaid : Prop := Claim7.holds Tryz.pinned (.plain (OpenSpec.upto sameSpec)) sameUptoCard

/-- THE SECOND FORM's CARD OF 'flacpairkeep.Pieces'. -/
def piecesUptoCard : Claim7 := { stood := { row := piecesUptoRow, standIns := [], harness := (true, "470302c905dc1f553ad3934a9a4514c77659bb0a79466a6c0fbe2118e5cdb238"), looks := true }, kinds := [], alts := [], laidByText := true, laidKinds := [.handle], laidTests := true, laidLooks := .later }
def PiecesUptoCardSaid : Prop := Claim7.holds Tryz.pinned (.plain (OpenSpec.upto piecesSpec)) piecesUptoCard

/-- THE SECOND FORM's CARD OF 'flacpairkeep.Back'. -/
def backUptoCard : Claim7 := { stood := { row := backUptoRow, standIns := [], harness := (true, "470302c905dc1f553ad3934a9a4514c77659bb0a79466a6c0fbe2118e5cdb238"), looks := true }, kinds := [], alts := [], laidByText := true, laidKinds := [.handle], laidTests := true, laidLooks := .later }
def BackUptoCardSaid : Prop := Claim7.holds Tryz.pinned (.plain (OpenSpec.upto backSpec)) backUptoCard

/-- THE SECOND FORM's CARD OF 'flacpairkeep.Cut'. -/
def cutUptoCard : Claim7 := { stood := { row := cutUptoRow, standIns := [], harness := (true, "470302c905dc1f553ad3934a9a4514c77659bb0a79466a6c0fbe2118e5cdb238"), looks := true }, kinds := [], alts := [], laidByText := true, laidKinds := [.handle], laidTests := true, laidLooks := .later }
def CutUptoCardSaid : Prop := Claim7.holds Tryz.pinned (.plain (OpenSpec.upto cutSpec)) cutUptoCard

/-- THE SECOND FORM's CARD OF 'flacpairkeep.Summed'. -/
def summedUptoCard : Claim7 := { stood := { row := summedUptoRow, standIns := [], harness := (true, "470302c905dc1f553ad3934a9a4514c77659bb0a79466a6c0fbe2118e5cdb238"), looks := true }, kinds := [], alts := [], laidByText := true, laidKinds := [.handle], laidTests := true, laidLooks := .later }
def SummedUptoCardSaid : Prop := Claim7.holds Tryz.pinned (.plain (OpenSpec.upto summedSpec)) summedUptoCard
end Rows
end Go.Proofs.YthigfpaajbejdaaGreatDoor
