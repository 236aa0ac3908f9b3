/-
  NARROWER THAN 'FOR EVERY INPUT', by the rows' own cells (each row's printed sentence says how): CodecBlocks: laid · CodecMessages: laid · CodecBack: laid.
  DERIVED. THE GIVEN ROWS OF THIS SEAT. 3 by the template 'for every input the law returns true; each argument reads behind the call as it read before'; 0 by the template 'total and deterministic' (their statements: YtjjgmkfkmckkoabGreatDoorTotals.lean).
  GIVEN WITH THE SEED: the statements are not yours to turn. If you find one false, say at which input.
  Laid BY PROGRAM, IN A SANDBOX (cutbox-rows.mjs): the forced cells as the released guide's own fill.sh prints them over the translation 005bc5dc8610d319… (all of the seat's roots in one cut). By AI agents, Wed Nov 11 2026. No macro, syntax, notation, axiom, sorry.
-/
import Derived.Test.YtjjgmkfkmckkoabGreatDoorChecked
import GoSem.Claim
import GoSem.ClaimJoined
import GoSem.ClaimMapViews
import Derived.JoinedTies
import Derived.KernelRfl
namespace Go.Proofs.YtjjgmkfkmckkoabGreatDoor
/- THE CELL 'sum', in the pinned program and in every row, IS THE sha256 OF THE DUMP (.gsa) THAT YtjjgmkfkmckkoabGreatDoorProg.lean LOADS. Nothing in Lean hashes anything: it is a label: what it is worth is what the hold of that sum in a sandbox is worth. -/
noncomputable def Tryz.pinned : Pinned := { name := "ytjjgmkfkmckkoabgreatdoor", sum := "005bc5dc8610d319fce5d9d1a953a8c532708fa215e63504666f75e70603e565", checked := Tryz.checked }
namespace Rows
def none {H : Type} : Left H := { results := [], args := [] }

/- WHAT THE LISTED PACKAGE-LEVEL VARIABLES READ AS WHEN THE CALL BEGINS. Each datum BY PROGRAM (the guide's laid-datum.mjs) off the statement by which the dump's own 'gosem.cut.vars' lays the variable. In a bare row this is a premise. The card (YtjjgmkfkmckkoabGreatDoorCards.lean) ties it to the program's text. -/
def laid_errors_errorType {H : Type} : DataW H := .iface "internal/reflectlite.rtype" (.agg [.ptr (.lit (.string [101, 114, 114, 111, 114]))])
def laid_wapentake_codec_errForm {H : Type} : DataW H := .iface "*errors.errorString" (.ptr (.agg [.lit (.string [110, 111, 32, 115, 117, 99, 104, 32, 102, 111, 114, 109])]))
def laid_wapentake_codec_errBytes {H : Type} : DataW H := .iface "*errors.errorString" (.ptr (.agg [.lit (.string [116, 111, 111, 32, 109, 97, 110, 121, 32, 98, 121, 116, 101, 115])]))

/-- 'wapentakelaw02.CodecBlocks': WHATEVER THE INPUT: true; the input reads as it did. -/
def codecBlocksSpec : ChangeSpec := { name := "codecBlocks", fn := fun _ => fun
  | [d1, d2] => { results := [.lit (.bool true)], args := [d1, d2] }
  | _ => none }
def codecBlocksRow : OpenClaim := { program := "ytjjgmkfkmckkoabgreatdoor", sum := "005bc5dc8610d319fce5d9d1a953a8c532708fa215e63504666f75e70603e565", func := "wapentake/wapentakelaw02.CodecBlocks", spec := "codecBlocks", inPlace := ["internal/reflectlite.TypeOf", "internal/reflectlite.ValueOf", "(internal/reflectlite.Value).Type", "(internal/reflectlite.Value).IsNil", "(internal/reflectlite.Value).Elem", "(internal/reflectlite.Value).Set"], unfollowed := true, recurses := true, named := ["wapentake/codec.errBytes", "errors.errorType", "wapentake/codec.errForm"], apart := false, laid := [("errors.errorType", laid_errors_errorType), ("wapentake/codec.errForm", laid_wapentake_codec_errForm), ("wapentake/codec.errBytes", laid_wapentake_codec_errBytes)] }
def CodecBlocksSaid : Prop := codecBlocksRow.holds Tryz.pinned (OpenSpec.ofChange codecBlocksSpec)

/-- ITS FALSE NEIGHBOUR: 'it returns false'. Refute it at one input. -/
def codecBlocksWrong : ChangeSpec := { name := "codecBlocks", fn := fun _ => fun
  | [d1, d2] => { results := [.lit (.bool false)], args := [d1, d2] }
  | _ => none }
def CodecBlocksWrongFalsely : Prop := codecBlocksRow.holds Tryz.pinned (OpenSpec.ofChange codecBlocksWrong)

/-- 'wapentakelaw02.CodecMessages': WHATEVER THE INPUT: true; the input reads as it did. -/
def codecMessagesSpec : ChangeSpec := { name := "codecMessages", fn := fun _ => fun
  | [d] => { results := [.lit (.bool true)], args := [d] }
  | _ => none }
def codecMessagesRow : OpenClaim := { program := "ytjjgmkfkmckkoabgreatdoor", sum := "005bc5dc8610d319fce5d9d1a953a8c532708fa215e63504666f75e70603e565", func := "wapentake/wapentakelaw02.CodecMessages", spec := "codecMessages", inPlace := ["internal/reflectlite.TypeOf", "internal/reflectlite.ValueOf", "(internal/reflectlite.Value).Type", "(internal/reflectlite.Value).IsNil", "(internal/reflectlite.Value).Elem", "(internal/reflectlite.Value).Set"], unfollowed := true, recurses := true, named := ["wapentake/codec.errBytes", "errors.errorType", "wapentake/codec.errForm"], apart := false, laid := [("errors.errorType", laid_errors_errorType), ("wapentake/codec.errForm", laid_wapentake_codec_errForm), ("wapentake/codec.errBytes", laid_wapentake_codec_errBytes)] }
def CodecMessagesSaid : Prop := codecMessagesRow.holds Tryz.pinned (OpenSpec.ofChange codecMessagesSpec)

/-- ITS FALSE NEIGHBOUR: 'it returns false'. Refute it at one input. -/
def codecMessagesWrong : ChangeSpec := { name := "codecMessages", fn := fun _ => fun
  | [d] => { results := [.lit (.bool false)], args := [d] }
  | _ => none }
def CodecMessagesWrongFalsely : Prop := codecMessagesRow.holds Tryz.pinned (OpenSpec.ofChange codecMessagesWrong)

/-- 'wapentakelaw02.CodecBack': WHATEVER THE INPUT: true; the input reads as it did. -/
def codecBackSpec : ChangeSpec := { name := "codecBack", fn := fun _ => fun
  | [d] => { results := [.lit (.bool true)], args := [d] }
  | _ => none }
def codecBackRow : OpenClaim := { program := "ytjjgmkfkmckkoabgreatdoor", sum := "005bc5dc8610d319fce5d9d1a953a8c532708fa215e63504666f75e70603e565", func := "wapentake/wapentakelaw02.CodecBack", spec := "codecBack", inPlace := ["internal/reflectlite.TypeOf", "internal/reflectlite.ValueOf", "(internal/reflectlite.Value).Type", "(internal/reflectlite.Value).IsNil", "(internal/reflectlite.Value).Elem", "(internal/reflectlite.Value).Set"], unfollowed := true, recurses := true, named := ["wapentake/codec.errBytes", "errors.errorType", "wapentake/codec.errForm"], apart := false, laid := [("errors.errorType", laid_errors_errorType), ("wapentake/codec.errForm", laid_wapentake_codec_errForm), ("wapentake/codec.errBytes", laid_wapentake_codec_errBytes)] }
def CodecBackSaid : Prop := codecBackRow.holds Tryz.pinned (OpenSpec.ofChange codecBackSpec)

/-- ITS FALSE NEIGHBOUR: 'it returns false'. Refute it at one input. -/
def codecBackWrong : ChangeSpec := { name := "codecBack", fn := fun _ => fun
  | [d] => { results := [.lit (.bool false)], args := [d] }
  | _ => none }
def CodecBackWrongFalsely : Prop := codecBackRow.holds Tryz.pinned (OpenSpec.ofChange codecBackWrong)

/- THE SECOND FORM. 'bulk': how many values and letters a reading holds, each counted each time it is reached (what is shared counts as often as it is met; a slice's spare places count too). A statement '..UptoSaid' is the law's where the arguments, and the package variables that the reading takes, are together of bulk at most 1048576: NARROWER than '..Said'. Prove '..Said' where nothing that the law and all that it calls make is longer than what came in: it says more and counts as full. Else prove '..UptoSaid'. A law counts once. -/
mutual
def uptoBulk {H : Type} : DataW H → Nat
  | .lit (.string bytes) => bytes.length + 1
  | .lit _ => 1
  | .nil => 1
  | .ptr d => uptoBulk d + 1
  | .slice elems spare => uptoBulkAll elems + uptoBulkAll spare + 1
  | .agg parts => uptoBulkAll parts + 1
  | .iface _ d => uptoBulk d + 1
  | .map entries => uptoBulkEntries entries + 1
  | .held _ => 1
def uptoBulkAll {H : Type} : List (DataW H) → Nat
  | [] => 0
  | d :: r => uptoBulk d + uptoBulkAll r
def uptoBulkEntries {H : Type} : List (Lit × DataW H) → Nat
  | [] => 0
  | x :: r => uptoBulkEntry x + uptoBulkEntries r
def uptoBulkEntry {H : Type} : Lit × DataW H → Nat
  | (.string bytes, d) => bytes.length + uptoBulk d + 1
  | (_, d) => uptoBulk d + 1
 end
def uptoSmall : (H : Type) → List (DataW H) → Bool := fun _ ds => decide (uptoBulkAll ds ≤ 1048576)
def OpenSpec.upto (s : _root_.Go.ChangeSpec) : _root_.Go.OpenSpec := { _root_.Go.OpenSpec.ofChange s with cond := some uptoSmall }

/-- 'wapentakelaw02.CodecBlocks', WHERE WHAT IT READS IS OF BULK AT MOST 1048576: true; the input reads as it did. -/
def codecBlocksUptoRow : OpenClaim := { program := "ytjjgmkfkmckkoabgreatdoor", sum := "005bc5dc8610d319fce5d9d1a953a8c532708fa215e63504666f75e70603e565", func := "wapentake/wapentakelaw02.CodecBlocks", spec := "codecBlocks", inPlace := ["internal/reflectlite.TypeOf", "internal/reflectlite.ValueOf", "(internal/reflectlite.Value).Type", "(internal/reflectlite.Value).IsNil", "(internal/reflectlite.Value).Elem", "(internal/reflectlite.Value).Set"], unfollowed := true, recurses := true, named := ["wapentake/codec.errBytes", "errors.errorType", "wapentake/codec.errForm"], apart := false, laid := [("errors.errorType", laid_errors_errorType), ("wapentake/codec.errForm", laid_wapentake_codec_errForm), ("wapentake/codec.errBytes", laid_wapentake_codec_errBytes)], narrowed := true }
def CodecBlocksUptoSaid : Prop := codecBlocksUptoRow.holds Tryz.pinned (OpenSpec.upto codecBlocksSpec)

/-- 'wapentakelaw02.CodecMessages', WHERE WHAT IT READS IS OF BULK AT MOST 1048576: true; the input reads as it did. -/
def codecMessagesUptoRow : OpenClaim := { program := "ytjjgmkfkmckkoabgreatdoor", sum := "005bc5dc8610d319fce5d9d1a953a8c532708fa215e63504666f75e70603e565", func := "wapentake/wapentakelaw02.CodecMessages", spec := "codecMessages", inPlace := ["internal/reflectlite.TypeOf", "internal/reflectlite.ValueOf", "(internal/reflectlite.Value).Type", "(internal/reflectlite.Value).IsNil", "(internal/reflectlite.Value).Elem", "(internal/reflectlite.Value).Set"], unfollowed := true, recurses := true, named := ["wapentake/codec.errBytes", "errors.errorType", "wapentake/codec.errForm"], apart := false, laid := [("errors.errorType", laid_errors_errorType), ("wapentake/codec.errForm", laid_wapentake_codec_errForm), ("wapentake/codec.errBytes", laid_wapentake_codec_errBytes)], narrowed := true }
def CodecMessagesUptoSaid : Prop := codecMessagesUptoRow.holds Tryz.pinned (OpenSpec.upto codecMessagesSpec)

/-- 'wapentakelaw02.CodecBack', WHERE WHAT IT READS IS OF BULK AT MOST 1048576: true; the input reads as it did. -/
def codecBackUptoRow : OpenClaim := { program := "ytjjgmkfkmckkoabgreatdoor", sum := "005bc5dc8610d319fce5d9d1a953a8c532708fa215e63504666f75e70603e565", func := "wapentake/wapentakelaw02.CodecBack", spec := "codecBack", inPlace := ["internal/reflectlite.TypeOf", "internal/reflectlite.ValueOf", "(internal/reflectlite.Value).Type", "(internal/reflectlite.Value).IsNil", "(internal/reflectlite.Value).Elem", "(internal/reflectlite.Value).Set"], unfollowed := true, recurses := true, named := ["wapentake/codec.errBytes", "errors.errorType", "wapentake/codec.errForm"], apart := false, laid := [("errors.errorType", laid_errors_errorType), ("wapentake/codec.errForm", laid_wapentake_codec_errForm), ("wapentake/codec.errBytes", laid_wapentake_codec_errBytes)], narrowed := true }
def CodecBackUptoSaid : Prop := codecBackUptoRow.holds Tryz.pinned (OpenSpec.upto codecBackSpec)

end Rows
end Go.Proofs.YtjjgmkfkmckkoabGreatDoor
