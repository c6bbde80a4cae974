/-
  NARROWER THAN 'FOR EVERY INPUT', by the rows' own cells (each row's printed sentence says how): Known: laid · All: laid · Opens: laid · Refused: laid · Same: laid · Pieces: laid · Back: laid · Cut: laid · Summed: laid.
  DERIVED. THE GIVEN ROWS OF THIS SEAT. 9 by the template 'for every input the law returns true; each argument reads behind the call as it read before'; 0 by the template 'total and deterministic' (their statements: YthigfpaajbejdaaGreatDoorTotals.lean).
  GIVEN WITH THE SEED: the statements are not yours to turn. If you find one false, say at which input.
  Laid BY PROGRAM, IN A SANDBOX (cutbox-rows.mjs): the forced cells as the released guide's own fill.sh prints them over the translation e3ca9900f826e555… (all of the seat's roots in one cut). By AI agents, Wed Nov 11 2026. No macro, syntax, notation, axiom, sorry.
-/
import Derived.Test.YthigfpaajbejdaaGreatDoorChecked
import GoSem.Claim
import GoSem.ClaimJoined
import GoSem.ClaimMapViews
import Derived.JoinedTies
import Derived.KernelRfl
namespace Go.Proofs.YthigfpaajbejdaaGreatDoor
/- THE CELL 'sum', in the pinned program and in every row, IS THE sha256 OF THE DUMP (.gsa) THAT YthigfpaajbejdaaGreatDoorProg.lean LOADS. Nothing in Lean hashes anything: it is a label: what it is worth is what the hold of that sum in a sandbox is worth. -/
noncomputable def Tryz.pinned : Pinned := { name := "ythigfpaajbejdaagreatdoor", sum := "e3ca9900f826e555fb7f4ca724dab71f688b59ff6cf2c5c173bdcec833e7f178", checked := Tryz.checked }
namespace Rows
def none {H : Type} : Left H := { results := [], args := [] }

/- WHAT THE LISTED PACKAGE-LEVEL VARIABLES READ AS WHEN THE CALL BEGINS. Each datum BY PROGRAM (the guide's laid-datum.mjs) off the statement by which the dump's own 'gosem.cut.vars' lays the variable. In a bare row this is a premise. The card (YthigfpaajbejdaaGreatDoorCards.lean) ties it to the program's text. -/
def laid_flacpair_check_turns {H : Type} : DataW H := .agg [.agg [.lit (.int .i64 7), .lit (.int .i64 12), .lit (.int .i64 17), .lit (.int .i64 22)], .agg [.lit (.int .i64 5), .lit (.int .i64 9), .lit (.int .i64 14), .lit (.int .i64 20)], .agg [.lit (.int .i64 4), .lit (.int .i64 11), .lit (.int .i64 16), .lit (.int .i64 23)], .agg [.lit (.int .i64 6), .lit (.int .i64 10), .lit (.int .i64 15), .lit (.int .i64 21)]]
def laid_flacpair_check_adds {H : Type} : DataW H := .agg [.lit (.int .u32 3614090360), .lit (.int .u32 3905402710), .lit (.int .u32 606105819), .lit (.int .u32 3250441966), .lit (.int .u32 4118548399), .lit (.int .u32 1200080426), .lit (.int .u32 2821735955), .lit (.int .u32 4249261313), .lit (.int .u32 1770035416), .lit (.int .u32 2336552879), .lit (.int .u32 4294925233), .lit (.int .u32 2304563134), .lit (.int .u32 1804603682), .lit (.int .u32 4254626195), .lit (.int .u32 2792965006), .lit (.int .u32 1236535329), .lit (.int .u32 4129170786), .lit (.int .u32 3225465664), .lit (.int .u32 643717713), .lit (.int .u32 3921069994), .lit (.int .u32 3593408605), .lit (.int .u32 38016083), .lit (.int .u32 3634488961), .lit (.int .u32 3889429448), .lit (.int .u32 568446438), .lit (.int .u32 3275163606), .lit (.int .u32 4107603335), .lit (.int .u32 1163531501), .lit (.int .u32 2850285829), .lit (.int .u32 4243563512), .lit (.int .u32 1735328473), .lit (.int .u32 2368359562), .lit (.int .u32 4294588738), .lit (.int .u32 2272392833), .lit (.int .u32 1839030562), .lit (.int .u32 4259657740), .lit (.int .u32 2763975236), .lit (.int .u32 1272893353), .lit (.int .u32 4139469664), .lit (.int .u32 3200236656), .lit (.int .u32 681279174), .lit (.int .u32 3936430074), .lit (.int .u32 3572445317), .lit (.int .u32 76029189), .lit (.int .u32 3654602809), .lit (.int .u32 3873151461), .lit (.int .u32 530742520), .lit (.int .u32 3299628645), .lit (.int .u32 4096336452), .lit (.int .u32 1126891415), .lit (.int .u32 2878612391), .lit (.int .u32 4237533241), .lit (.int .u32 1700485571), .lit (.int .u32 2399980690), .lit (.int .u32 4293915773), .lit (.int .u32 2240044497), .lit (.int .u32 1873313359), .lit (.int .u32 4264355552), .lit (.int .u32 2734768916), .lit (.int .u32 1309151649), .lit (.int .u32 4149444226), .lit (.int .u32 3174756917), .lit (.int .u32 718787259), .lit (.int .u32 3951481745)]
def laid_errors_errorType {H : Type} : DataW H := .iface "internal/reflectlite.rtype" (.agg [.ptr (.lit (.string [101, 114, 114, 111, 114]))])

/-- 'flacpairkeep.Known': WHATEVER THE INPUT: true; the input reads as it did. -/
def knownSpec : ChangeSpec := { name := "known", fn := fun _ => fun
  | [] => { results := [.lit (.bool true)], args := [] }
  | _ => none }
def knownRow : OpenClaim := { program := "ythigfpaajbejdaagreatdoor", sum := "e3ca9900f826e555fb7f4ca724dab71f688b59ff6cf2c5c173bdcec833e7f178", func := "flacpair/flacpairkeep.Known", spec := "known", inPlace := ["internal/reflectlite.TypeOf", "internal/reflectlite.ValueOf", "(internal/reflectlite.Value).Type", "(internal/reflectlite.Value).IsNil", "(internal/reflectlite.Value).Elem", "(internal/reflectlite.Value).Set"], unfollowed := true, recurses := true, named := ["flacpair/check.adds", "flacpair/check.turns", "errors.errorType"], apart := false, laid := [("flacpair/check.turns", laid_flacpair_check_turns), ("flacpair/check.adds", laid_flacpair_check_adds), ("errors.errorType", laid_errors_errorType)] }
def KnownSaid : Prop := knownRow.holds Tryz.pinned (OpenSpec.ofChange knownSpec)

/-- ITS FALSE NEIGHBOUR: 'it returns false'. Refute it at one input. -/
def knownWrong : ChangeSpec := { name := "known", fn := fun _ => fun
  | [] => { results := [.lit (.bool false)], args := [] }
  | _ => none }
def KnownWrongFalsely : Prop := knownRow.holds Tryz.pinned (OpenSpec.ofChange knownWrong)

/-- 'flacpairlaw.All': WHATEVER THE INPUT: true; the input reads as it did. -/
def allSpec : ChangeSpec := { name := "all", fn := fun _ => fun
  | [d] => { results := [.lit (.bool true)], args := [d] }
  | _ => none }
def allRow : OpenClaim := { program := "ythigfpaajbejdaagreatdoor", sum := "e3ca9900f826e555fb7f4ca724dab71f688b59ff6cf2c5c173bdcec833e7f178", func := "flacpair/flacpairlaw.All", spec := "all", inPlace := ["internal/reflectlite.TypeOf", "internal/reflectlite.ValueOf", "(internal/reflectlite.Value).Type", "(internal/reflectlite.Value).IsNil", "(internal/reflectlite.Value).Elem", "(internal/reflectlite.Value).Set"], unfollowed := true, recurses := true, named := ["errors.errorType"], apart := false, laid := [("errors.errorType", laid_errors_errorType)] }
def AllSaid : Prop := allRow.holds Tryz.pinned (OpenSpec.ofChange allSpec)

/-- ITS FALSE NEIGHBOUR: 'it returns false'. Refute it at one input. -/
def allWrong : ChangeSpec := { name := "all", fn := fun _ => fun
  | [d] => { results := [.lit (.bool false)], args := [d] }
  | _ => none }
def AllWrongFalsely : Prop := allRow.holds Tryz.pinned (OpenSpec.ofChange allWrong)

/-- 'flacpairlaw.Opens': WHATEVER THE INPUT: true; the input reads as it did. -/
def opensSpec : ChangeSpec := { name := "opens", fn := fun _ => fun
  | [d1, d2, d3, d4] => { results := [.lit (.bool true)], args := [d1, d2, d3, d4] }
  | _ => none }
def opensRow : OpenClaim := { program := "ythigfpaajbejdaagreatdoor", sum := "e3ca9900f826e555fb7f4ca724dab71f688b59ff6cf2c5c173bdcec833e7f178", func := "flacpair/flacpairlaw.Opens", spec := "opens", inPlace := ["internal/reflectlite.TypeOf", "internal/reflectlite.ValueOf", "(internal/reflectlite.Value).Type", "(internal/reflectlite.Value).IsNil", "(internal/reflectlite.Value).Elem", "(internal/reflectlite.Value).Set"], unfollowed := true, recurses := true, named := ["errors.errorType"], apart := false, laid := [("errors.errorType", laid_errors_errorType)] }
def OpensSaid : Prop := opensRow.holds Tryz.pinned (OpenSpec.ofChange opensSpec)

/-- ITS FALSE NEIGHBOUR: 'it returns false'. Refute it at one input. -/
def opensWrong : ChangeSpec := { name := "opens", fn := fun _ => fun
  | [d1, d2, d3, d4] => { results := [.lit (.bool false)], args := [d1, d2, d3, d4] }
  | _ => none }
def OpensWrongFalsely : Prop := opensRow.holds Tryz.pinned (OpenSpec.ofChange opensWrong)

/-- 'flacpairlaw.Refused': WHATEVER THE INPUT: true; the input reads as it did. -/
def refusedSpec : ChangeSpec := { name := "refused", fn := fun _ => fun
  | [d] => { results := [.lit (.bool true)], args := [d] }
  | _ => none }
def refusedRow : OpenClaim := { program := "ythigfpaajbejdaagreatdoor", sum := "e3ca9900f826e555fb7f4ca724dab71f688b59ff6cf2c5c173bdcec833e7f178", func := "flacpair/flacpairlaw.Refused", spec := "refused", inPlace := ["internal/reflectlite.TypeOf", "internal/reflectlite.ValueOf", "(internal/reflectlite.Value).Type", "(internal/reflectlite.Value).IsNil", "(internal/reflectlite.Value).Elem", "(internal/reflectlite.Value).Set"], unfollowed := true, recurses := true, named := ["flacpair/check.adds", "flacpair/check.turns", "errors.errorType"], apart := false, laid := [("flacpair/check.turns", laid_flacpair_check_turns), ("flacpair/check.adds", laid_flacpair_check_adds), ("errors.errorType", laid_errors_errorType)] }
def RefusedSaid : Prop := refusedRow.holds Tryz.pinned (OpenSpec.ofChange refusedSpec)

/-- ITS FALSE NEIGHBOUR: 'it returns false'. Refute it at one input. -/
def refusedWrong : ChangeSpec := { name := "refused", fn := fun _ => fun
  | [d] => { results := [.lit (.bool false)], args := [d] }
  | _ => none }
def RefusedWrongFalsely : Prop := refusedRow.holds Tryz.pinned (OpenSpec.ofChange refusedWrong)

/-- 'flacpairkeep.Same': WHATEVER THE INPUT: true; the input reads as it did. -/
def sameSpec : ChangeSpec := { name := "same", fn := fun _ => fun
  | [d1, d2, d3] => { results := [.lit (.bool true)], args := [d1, d2, d3] }
  | _ => none }
def sameRow : OpenClaim := { program := "ythigfpaajbejdaagreatdoor", sum := "e3ca9900f826e555fb7f4ca724dab71f688b59ff6cf2c5c173bdcec833e7f178", func := "flacpair/flacpairkeep.Same", spec := "same", inPlace := ["internal/reflectlite.TypeOf", "internal/reflectlite.ValueOf", "(internal/reflectlite.Value).Type", "(internal/reflectlite.Value).IsNil", "(internal/reflectlite.Value).Elem", "(internal/reflectlite.Value).Set"], unfollowed := true, recurses := true, named := ["errors.errorType"], apart := false, laid := [("errors.errorType", laid_errors_errorType)] }
def SameSaid : Prop := sameRow.holds Tryz.pinned (OpenSpec.ofChange sameSpec)

/-- ITS FALSE NEIGHBOUR: 'it returns false'. Refute it at one input. -/
def sameWrong : ChangeSpec := { name := "same", fn := fun _ => fun
  | [d1, d2, d3] => { results := [.lit (.bool false)], args := [d1, d2, d3] }
  | _ => none }
def SameWrongFalsely : Prop := sameRow.holds Tryz.pinned (OpenSpec.ofChange sameWrong)

/-- 'flacpairkeep.Pieces': WHATEVER THE INPUT: true; the input reads as it did. -/
def piecesSpec : ChangeSpec := { name := "pieces", fn := fun _ => fun
  | [d1, d2, d3] => { results := [.lit (.bool true)], args := [d1, d2, d3] }
  | _ => none }
def piecesRow : OpenClaim := { program := "ythigfpaajbejdaagreatdoor", sum := "e3ca9900f826e555fb7f4ca724dab71f688b59ff6cf2c5c173bdcec833e7f178", func := "flacpair/flacpairkeep.Pieces", spec := "pieces", inPlace := ["internal/reflectlite.TypeOf", "internal/reflectlite.ValueOf", "(internal/reflectlite.Value).Type", "(internal/reflectlite.Value).IsNil", "(internal/reflectlite.Value).Elem", "(internal/reflectlite.Value).Set"], unfollowed := true, recurses := true, named := ["errors.errorType"], apart := false, laid := [("errors.errorType", laid_errors_errorType)] }
def PiecesSaid : Prop := piecesRow.holds Tryz.pinned (OpenSpec.ofChange piecesSpec)

/-- ITS FALSE NEIGHBOUR: 'it returns false'. Refute it at one input. -/
def piecesWrong : ChangeSpec := { name := "pieces", fn := fun _ => fun
  | [d1, d2, d3] => { results := [.lit (.bool false)], args := [d1, d2, d3] }
  | _ => none }
def PiecesWrongFalsely : Prop := piecesRow.holds Tryz.pinned (OpenSpec.ofChange piecesWrong)

/-- 'flacpairkeep.Back': WHATEVER THE INPUT: true; the input reads as it did. -/
def backSpec : ChangeSpec := { name := "back", fn := fun _ => fun
  | [d1, d2, d3, d4] => { results := [.lit (.bool true)], args := [d1, d2, d3, d4] }
  | _ => none }
def backRow : OpenClaim := { program := "ythigfpaajbejdaagreatdoor", sum := "e3ca9900f826e555fb7f4ca724dab71f688b59ff6cf2c5c173bdcec833e7f178", func := "flacpair/flacpairkeep.Back", spec := "back", inPlace := ["internal/reflectlite.TypeOf", "internal/reflectlite.ValueOf", "(internal/reflectlite.Value).Type", "(internal/reflectlite.Value).IsNil", "(internal/reflectlite.Value).Elem", "(internal/reflectlite.Value).Set"], unfollowed := true, recurses := true, named := ["errors.errorType"], apart := false, laid := [("errors.errorType", laid_errors_errorType)] }
def BackSaid : Prop := backRow.holds Tryz.pinned (OpenSpec.ofChange backSpec)

/-- ITS FALSE NEIGHBOUR: 'it returns false'. Refute it at one input. -/
def backWrong : ChangeSpec := { name := "back", fn := fun _ => fun
  | [d1, d2, d3, d4] => { results := [.lit (.bool false)], args := [d1, d2, d3, d4] }
  | _ => none }
def BackWrongFalsely : Prop := backRow.holds Tryz.pinned (OpenSpec.ofChange backWrong)

/-- 'flacpairkeep.Cut': WHATEVER THE INPUT: true; the input reads as it did. -/
def cutSpec : ChangeSpec := { name := "cut", fn := fun _ => fun
  | [d1, d2, d3, d4] => { results := [.lit (.bool true)], args := [d1, d2, d3, d4] }
  | _ => none }
def cutRow : OpenClaim := { program := "ythigfpaajbejdaagreatdoor", sum := "e3ca9900f826e555fb7f4ca724dab71f688b59ff6cf2c5c173bdcec833e7f178", func := "flacpair/flacpairkeep.Cut", spec := "cut", inPlace := ["internal/reflectlite.TypeOf", "internal/reflectlite.ValueOf", "(internal/reflectlite.Value).Type", "(internal/reflectlite.Value).IsNil", "(internal/reflectlite.Value).Elem", "(internal/reflectlite.Value).Set"], unfollowed := true, recurses := true, named := ["errors.errorType"], apart := false, laid := [("errors.errorType", laid_errors_errorType)] }
def CutSaid : Prop := cutRow.holds Tryz.pinned (OpenSpec.ofChange cutSpec)

/-- ITS FALSE NEIGHBOUR: 'it returns false'. Refute it at one input. -/
def cutWrong : ChangeSpec := { name := "cut", fn := fun _ => fun
  | [d1, d2, d3, d4] => { results := [.lit (.bool false)], args := [d1, d2, d3, d4] }
  | _ => none }
def CutWrongFalsely : Prop := cutRow.holds Tryz.pinned (OpenSpec.ofChange cutWrong)

/-- 'flacpairkeep.Summed': WHATEVER THE INPUT: true; the input reads as it did. -/
def summedSpec : ChangeSpec := { name := "summed", fn := fun _ => fun
  | [d1, d2] => { results := [.lit (.bool true)], args := [d1, d2] }
  | _ => none }
def summedRow : OpenClaim := { program := "ythigfpaajbejdaagreatdoor", sum := "e3ca9900f826e555fb7f4ca724dab71f688b59ff6cf2c5c173bdcec833e7f178", func := "flacpair/flacpairkeep.Summed", spec := "summed", inPlace := ["internal/reflectlite.TypeOf", "internal/reflectlite.ValueOf", "(internal/reflectlite.Value).Type", "(internal/reflectlite.Value).IsNil", "(internal/reflectlite.Value).Elem", "(internal/reflectlite.Value).Set"], unfollowed := true, recurses := true, named := ["errors.errorType"], apart := false, laid := [("errors.errorType", laid_errors_errorType)] }
def SummedSaid : Prop := summedRow.holds Tryz.pinned (OpenSpec.ofChange summedSpec)

/-- ITS FALSE NEIGHBOUR: 'it returns false'. Refute it at one input. -/
def summedWrong : ChangeSpec := { name := "summed", fn := fun _ => fun
  | [d1, d2] => { results := [.lit (.bool false)], args := [d1, d2] }
  | _ => none }
def SummedWrongFalsely : Prop := summedRow.holds Tryz.pinned (OpenSpec.ofChange summedWrong)

/- THE SECOND FORM. 'bulk': how many values and letters a reading holds, each counted each time it is reached (what is shared counts as often as it is met; a slice's spare places count too). A statement '..UptoSaid' is the law's where the arguments, and the package variables that the reading takes, are together of bulk at most 1048576: NARROWER than '..Said'. Prove '..Said' where nothing that the law and all that it calls make is longer than what came in: it says more and counts as full. Else prove '..UptoSaid'. A law counts once. -/
mutual
def uptoBulk {H : Type} : DataW H → Nat
  | .lit (.string bytes) => bytes.length + 1
  | .lit _ => 1
  | .nil => 1
  | .ptr d => uptoBulk d + 1
  | .slice elems spare => uptoBulkAll elems + uptoBulkAll spare + 1
  | .agg parts => uptoBulkAll parts + 1
  | .iface _ d => uptoBulk d + 1
  | .map entries => uptoBulkEntries entries + 1
  | .held _ => 1
def uptoBulkAll {H : Type} : List (DataW H) → Nat
  | [] => 0
  | d :: r => uptoBulk d + uptoBulkAll r
def uptoBulkEntries {H : Type} : List (Lit × DataW H) → Nat
  | [] => 0
  | x :: r => uptoBulkEntry x + uptoBulkEntries r
def uptoBulkEntry {H : Type} : Lit × DataW H → Nat
  | (.string bytes, d) => bytes.length + uptoBulk d + 1
  | (_, d) => uptoBulk d + 1
 end
def uptoSmall : (H : Type) → List (DataW H) → Bool := fun _ ds => decide (uptoBulkAll ds ≤ 1048576)
def OpenSpec.upto (s : _root_.Go.ChangeSpec) : _root_.Go.OpenSpec := { _root_.Go.OpenSpec.ofChange s with cond := some uptoSmall }

/-- 'flacpairkeep.Known', WHERE WHAT IT READS IS OF BULK AT MOST 1048576: true; the input reads as it did. -/
def knownUptoRow : OpenClaim := { program := "ythigfpaajbejdaagreatdoor", sum := "e3ca9900f826e555fb7f4ca724dab71f688b59ff6cf2c5c173bdcec833e7f178", func := "flacpair/flacpairkeep.Known", spec := "known", inPlace := ["internal/reflectlite.TypeOf", "internal/reflectlite.ValueOf", "(internal/reflectlite.Value).Type", "(internal/reflectlite.Value).IsNil", "(internal/reflectlite.Value).Elem", "(internal/reflectlite.Value).Set"], unfollowed := true, recurses := true, named := ["flacpair/check.adds", "flacpair/check.turns", "errors.errorType"], apart := false, laid := [("flacpair/check.turns", laid_flacpair_check_turns), ("flacpair/check.adds", laid_flacpair_check_adds), ("errors.errorType", laid_errors_errorType)], narrowed := true }
def KnownUptoSaid : Prop := knownUptoRow.holds Tryz.pinned (OpenSpec.upto knownSpec)

/-- 'flacpairlaw.All', WHERE WHAT IT READS IS OF BULK AT MOST 1048576: true; the input reads as it did. -/
def allUptoRow : OpenClaim := { program := "ythigfpaajbejdaagreatdoor", sum := "e3ca9900f826e555fb7f4ca724dab71f688b59ff6cf2c5c173bdcec833e7f178", func := "flacpair/flacpairlaw.All", spec := "all", inPlace := ["internal/reflectlite.TypeOf", "internal/reflectlite.ValueOf", "(internal/reflectlite.Value).Type", "(internal/reflectlite.Value).IsNil", "(internal/reflectlite.Value).Elem", "(internal/reflectlite.Value).Set"], unfollowed := true, recurses := true, named := ["errors.errorType"], apart := false, laid := [("errors.errorType", laid_errors_errorType)], narrowed := true }
def AllUptoSaid : Prop := allUptoRow.holds Tryz.pinned (OpenSpec.upto allSpec)

/-- 'flacpairlaw.Opens', WHERE WHAT IT READS IS OF BULK AT MOST 1048576: true; the input reads as it did. -/
def opensUptoRow : OpenClaim := { program := "ythigfpaajbejdaagreatdoor", sum := "e3ca9900f826e555fb7f4ca724dab71f688b59ff6cf2c5c173bdcec833e7f178", func := "flacpair/flacpairlaw.Opens", spec := "opens", inPlace := ["internal/reflectlite.TypeOf", "internal/reflectlite.ValueOf", "(internal/reflectlite.Value).Type", "(internal/reflectlite.Value).IsNil", "(internal/reflectlite.Value).Elem", "(internal/reflectlite.Value).Set"], unfollowed := true, recurses := true, named := ["errors.errorType"], apart := false, laid := [("errors.errorType", laid_errors_errorType)], narrowed := true }
def OpensUptoSaid : Prop := opensUptoRow.holds Tryz.pinned (OpenSpec.upto opensSpec)

/-- 'flacpairlaw.Refused', WHERE WHAT IT READS IS OF BULK AT MOST 1048576: true; the input reads as it did. -/
def refusedUptoRow : OpenClaim := { program := "ythigfpaajbejdaagreatdoor", sum := "e3ca9900f826e555fb7f4ca724dab71f688b59ff6cf2c5c173bdcec833e7f178", func := "flacpair/flacpairlaw.Refused", spec := "refused", inPlace := ["internal/reflectlite.TypeOf", "internal/reflectlite.ValueOf", "(internal/reflectlite.Value).Type", "(internal/reflectlite.Value).IsNil", "(internal/reflectlite.Value).Elem", "(internal/reflectlite.Value).Set"], unfollowed := true, recurses := true, named := ["flacpair/check.adds", "flacpair/check.turns", "errors.errorType"], apart := false, laid := [("flacpair/check.turns", laid_flacpair_check_turns), ("flacpair/check.adds", laid_flacpair_check_adds), ("errors.errorType", laid_errors_errorType)], narrowed := true }
def RefusedUptoSaid : Prop := refusedUptoRow.holds Tryz.pinned (OpenSpec.upto refusedSpec)

/-- 'flacpairkeep.Same', WHERE WHAT IT READS IS OF BULK AT MOST 1048576: true; the input reads as it did. -/
def sameUptoRow : OpenClaim := { program := "ythigfpaajbejdaagreatdoor", sum := "e3ca9900f826e555fb7f4ca724dab71f688b59ff6cf2c5c173bdcec833e7f178", func := "flacpair/flacpairkeep.Same", spec := "same", inPlace := ["internal/reflectlite.TypeOf", "internal/reflectlite.ValueOf", "(internal/reflectlite.Value).Type", "(internal/reflectlite.Value).IsNil", "(internal/reflectlite.Value).Elem", "(internal/reflectlite.Value).Set"], unfollowed := true, recurses := true, named := ["errors.errorType"], apart := false, laid := [("errors.errorType", laid_errors_errorType)], narrowed := true }
def SameUptoSaid : Prop := sameUptoRow.holds Tryz.pinned (OpenSpec.upto sameSpec)

/-- 'flacpairkeep.Pieces', WHERE WHAT IT READS IS OF BULK AT MOST 1048576: true; the input reads as it did. -/
def piecesUptoRow : OpenClaim := { program := "ythigfpaajbejdaagreatdoor", sum := "e3ca9900f826e555fb7f4ca724dab71f688b59ff6cf2c5c173bdcec833e7f178", func := "flacpair/flacpairkeep.Pieces", spec := "pieces", inPlace := ["internal/reflectlite.TypeOf", "internal/reflectlite.ValueOf", "(internal/reflectlite.Value).Type", "(internal/reflectlite.Value).IsNil", "(internal/reflectlite.Value).Elem", "(internal/reflectlite.Value).Set"], unfollowed := true, recurses := true, named := ["errors.errorType"], apart := false, laid := [("errors.errorType", laid_errors_errorType)], narrowed := true }
def PiecesUptoSaid : Prop := piecesUptoRow.holds Tryz.pinned (OpenSpec.upto piecesSpec)

/-- 'flacpairkeep.Back', WHERE WHAT IT READS IS OF BULK AT MOST 1048576: true; the input reads as it did. -/
def backUptoRow : OpenClaim := { program := "ythigfpaajbejdaagreatdoor", sum := "e3ca9900f826e555fb7f4ca724dab71f688b59ff6cf2c5c173bdcec833e7f178", func := "flacpair/flacpairkeep.Back", spec := "back", inPlace := ["internal/reflectlite.TypeOf", "internal/reflectlite.ValueOf", "(internal/reflectlite.Value).Type", "(internal/reflectlite.Value).IsNil", "(internal/reflectlite.Value).Elem", "(internal/reflectlite.Value).Set"], unfollowed := true, recurses := true, named := ["errors.errorType"], apart := false, laid := [("errors.errorType", laid_errors_errorType)], narrowed := true }
def BackUptoSaid : Prop := backUptoRow.holds Tryz.pinned (OpenSpec.upto backSpec)

/-- 'flacpairkeep.Cut', WHERE WHAT IT READS IS OF BULK AT MOST 1048576: true; the input reads as it did. -/
def cutUptoRow : OpenClaim := { program := "ythigfpaajbejdaagreatdoor", sum := "e3ca9900f826e555fb7f4ca724dab71f688b59ff6cf2c5c173bdcec833e7f178", func := "flacpair/flacpairkeep.Cut", spec := "cut", inPlace := ["internal/reflectlite.TypeOf", "internal/reflectlite.ValueOf", "(internal/reflectlite.Value).Type", "(internal/reflectlite.Value).IsNil", "(internal/reflectlite.Value).Elem", "(internal/reflectlite.Value).Set"], unfollowed := true, recurses := true, named := ["errors.errorType"], apart := false, laid := [("errors.errorType", laid_errors_errorType)], narrowed := true }
def CutUptoSaid : Prop := cutUptoRow.holds Tryz.pinned (OpenSpec.upto cutSpec)

/-- 'flacpairkeep.Summed', WHERE WHAT IT READS IS OF BULK AT MOST 1048576: true; the input reads as it did. -/
def summedUptoRow : OpenClaim := { program := "ythigfpaajbejdaagreatdoor", sum := "e3ca9900f826e555fb7f4ca724dab71f688b59ff6cf2c5c173bdcec833e7f178", func := "flacpair/flacpairkeep.Summed", spec := "summed", inPlace := ["internal/reflectlite.TypeOf", "internal/reflectlite.ValueOf", "(internal/reflectlite.Value).Type", "(internal/reflectlite.Value).IsNil", "(internal/reflectlite.Value).Elem", "(internal/reflectlite.Value).Set"], unfollowed := true, recurses := true, named := ["errors.errorType"], apart := false, laid := [("errors.errorType", laid_errors_errorType)], narrowed := true }
def SummedUptoSaid : Prop := summedUptoRow.holds Tryz.pinned (OpenSpec.upto summedSpec)

end Rows
end Go.Proofs.YthigfpaajbejdaaGreatDoor
