/-
  NARROWER THAN 'FOR EVERY INPUT', by the rows' own cells (each row's printed sentence says how): CodecHeaders: laid · CodecApart: laid · CodecCertificates: laid · CodecVotes: laid · CodecFacts: laid.
  DERIVED. THE GIVEN ROWS OF THIS SEAT. 5 by the template 'for every input the law returns true; each argument reads behind the call as it read before'; 0 by the template 'total and deterministic' (their statements: YtjjgmkfkmckkoaaDoorTotals.lean).
  GIVEN WITH THE SEED: the statements are not yours to turn. If you find one false, say at which input.
  Laid BY PROGRAM, IN A SANDBOX (cutbox-rows.mjs): the forced cells as the released guide's own fill.sh prints them over the translation db23a9a123619033… (all of the seat's roots in one cut). By AI agents, Wed Nov 11 2026. No macro, syntax, notation, axiom, sorry.
-/
import Derived.Test.YtjjgmkfkmckkoaaDoorChecked
import GoSem.Claim
import GoSem.ClaimJoined
import GoSem.ClaimMapViews
import Derived.JoinedTies
import Derived.KernelRfl
namespace Go.Proofs.YtjjgmkfkmckkoaaDoor
/- THE CELL 'sum', in the pinned program and in every row, IS THE sha256 OF THE DUMP (.gsa) THAT YtjjgmkfkmckkoaaDoorProg.lean LOADS. Nothing in Lean hashes anything: it is a label: what it is worth is what the hold of that sum in a sandbox is worth. -/
noncomputable def Tryd.pinned : Pinned := { name := "ytjjgmkfkmckkoaadoor", sum := "db23a9a123619033459f558c173f03edd7a037320892d3c1397b33a5e87f5f1f", checked := Tryd.checked }
namespace Rows
def none {H : Type} : Left H := { results := [], args := [] }

/- WHAT THE LISTED PACKAGE-LEVEL VARIABLES READ AS WHEN THE CALL BEGINS. Each datum BY PROGRAM (the guide's laid-datum.mjs) off the statement by which the dump's own 'gosem.cut.vars' lays the variable. In a bare row this is a premise. The card (YtjjgmkfkmckkoaaDoorCards.lean) ties it to the program's text. -/
def laid_errors_errorType {H : Type} : DataW H := .iface "internal/reflectlite.rtype" (.agg [.ptr (.lit (.string [101, 114, 114, 111, 114]))])
def laid_wapentake_codec_errForm {H : Type} : DataW H := .iface "*errors.errorString" (.ptr (.agg [.lit (.string [110, 111, 32, 115, 117, 99, 104, 32, 102, 111, 114, 109])]))
def laid_wapentake_codec_errBytes {H : Type} : DataW H := .iface "*errors.errorString" (.ptr (.agg [.lit (.string [116, 111, 111, 32, 109, 97, 110, 121, 32, 98, 121, 116, 101, 115])]))

/-- 'wapentakelaw02.CodecHeaders': WHATEVER THE INPUT: true; the input reads as it did. -/
def codecHeadersSpec : ChangeSpec := { name := "codecHeaders", fn := fun _ => fun
  | [d1, d2] => { results := [.lit (.bool true)], args := [d1, d2] }
  | _ => none }
def codecHeadersRow : OpenClaim := { program := "ytjjgmkfkmckkoaadoor", sum := "db23a9a123619033459f558c173f03edd7a037320892d3c1397b33a5e87f5f1f", func := "wapentake/wapentakelaw02.CodecHeaders", spec := "codecHeaders", inPlace := ["internal/reflectlite.TypeOf", "internal/reflectlite.ValueOf", "(internal/reflectlite.Value).Type", "(internal/reflectlite.Value).IsNil", "(internal/reflectlite.Value).Elem", "(internal/reflectlite.Value).Set"], unfollowed := true, recurses := true, named := ["wapentake/codec.errBytes", "errors.errorType", "wapentake/codec.errForm"], apart := false, laid := [("errors.errorType", laid_errors_errorType), ("wapentake/codec.errForm", laid_wapentake_codec_errForm), ("wapentake/codec.errBytes", laid_wapentake_codec_errBytes)] }
def CodecHeadersSaid : Prop := codecHeadersRow.holds Tryd.pinned (OpenSpec.ofChange codecHeadersSpec)

/-- ITS FALSE NEIGHBOUR: 'it returns false'. Refute it at one input. -/
def codecHeadersWrong : ChangeSpec := { name := "codecHeaders", fn := fun _ => fun
  | [d1, d2] => { results := [.lit (.bool false)], args := [d1, d2] }
  | _ => none }
def CodecHeadersWrongFalsely : Prop := codecHeadersRow.holds Tryd.pinned (OpenSpec.ofChange codecHeadersWrong)

/-- 'wapentakelaw02.CodecApart': WHATEVER THE INPUT: true; the input reads as it did. -/
def codecApartSpec : ChangeSpec := { name := "codecApart", fn := fun _ => fun
  | [d1, d2] => { results := [.lit (.bool true)], args := [d1, d2] }
  | _ => none }
def codecApartRow : OpenClaim := { program := "ytjjgmkfkmckkoaadoor", sum := "db23a9a123619033459f558c173f03edd7a037320892d3c1397b33a5e87f5f1f", func := "wapentake/wapentakelaw02.CodecApart", spec := "codecApart", inPlace := ["internal/reflectlite.TypeOf", "internal/reflectlite.ValueOf", "(internal/reflectlite.Value).Type", "(internal/reflectlite.Value).IsNil", "(internal/reflectlite.Value).Elem", "(internal/reflectlite.Value).Set"], unfollowed := true, recurses := true, named := ["wapentake/codec.errBytes", "errors.errorType", "wapentake/codec.errForm"], apart := false, laid := [("errors.errorType", laid_errors_errorType), ("wapentake/codec.errForm", laid_wapentake_codec_errForm), ("wapentake/codec.errBytes", laid_wapentake_codec_errBytes)] }
def CodecApartSaid : Prop := codecApartRow.holds Tryd.pinned (OpenSpec.ofChange codecApartSpec)

/-- ITS FALSE NEIGHBOUR: 'it returns false'. Refute it at one input. -/
def codecApartWrong : ChangeSpec := { name := "codecApart", fn := fun _ => fun
  | [d1, d2] => { results := [.lit (.bool false)], args := [d1, d2] }
  | _ => none }
def CodecApartWrongFalsely : Prop := codecApartRow.holds Tryd.pinned (OpenSpec.ofChange codecApartWrong)

/-- 'wapentakelaw02.CodecCertificates': WHATEVER THE INPUT: true; the input reads as it did. -/
def codecCertificatesSpec : ChangeSpec := { name := "codecCertificates", fn := fun _ => fun
  | [d1, d2] => { results := [.lit (.bool true)], args := [d1, d2] }
  | _ => none }
def codecCertificatesRow : OpenClaim := { program := "ytjjgmkfkmckkoaadoor", sum := "db23a9a123619033459f558c173f03edd7a037320892d3c1397b33a5e87f5f1f", func := "wapentake/wapentakelaw02.CodecCertificates", spec := "codecCertificates", inPlace := ["internal/reflectlite.TypeOf", "internal/reflectlite.ValueOf", "(internal/reflectlite.Value).Type", "(internal/reflectlite.Value).IsNil", "(internal/reflectlite.Value).Elem", "(internal/reflectlite.Value).Set"], unfollowed := true, recurses := true, named := ["wapentake/codec.errBytes", "errors.errorType", "wapentake/codec.errForm"], apart := false, laid := [("errors.errorType", laid_errors_errorType), ("wapentake/codec.errForm", laid_wapentake_codec_errForm), ("wapentake/codec.errBytes", laid_wapentake_codec_errBytes)] }
def CodecCertificatesSaid : Prop := codecCertificatesRow.holds Tryd.pinned (OpenSpec.ofChange codecCertificatesSpec)

/-- ITS FALSE NEIGHBOUR: 'it returns false'. Refute it at one input. -/
def codecCertificatesWrong : ChangeSpec := { name := "codecCertificates", fn := fun _ => fun
  | [d1, d2] => { results := [.lit (.bool false)], args := [d1, d2] }
  | _ => none }
def CodecCertificatesWrongFalsely : Prop := codecCertificatesRow.holds Tryd.pinned (OpenSpec.ofChange codecCertificatesWrong)

/-- 'wapentakelaw02.CodecVotes': WHATEVER THE INPUT: true; the input reads as it did. -/
def codecVotesSpec : ChangeSpec := { name := "codecVotes", fn := fun _ => fun
  | [d1, d2] => { results := [.lit (.bool true)], args := [d1, d2] }
  | _ => none }
def codecVotesRow : OpenClaim := { program := "ytjjgmkfkmckkoaadoor", sum := "db23a9a123619033459f558c173f03edd7a037320892d3c1397b33a5e87f5f1f", func := "wapentake/wapentakelaw02.CodecVotes", spec := "codecVotes", inPlace := ["internal/reflectlite.TypeOf", "internal/reflectlite.ValueOf", "(internal/reflectlite.Value).Type", "(internal/reflectlite.Value).IsNil", "(internal/reflectlite.Value).Elem", "(internal/reflectlite.Value).Set"], unfollowed := true, recurses := true, named := ["wapentake/codec.errBytes", "errors.errorType", "wapentake/codec.errForm"], apart := false, laid := [("errors.errorType", laid_errors_errorType), ("wapentake/codec.errForm", laid_wapentake_codec_errForm), ("wapentake/codec.errBytes", laid_wapentake_codec_errBytes)] }
def CodecVotesSaid : Prop := codecVotesRow.holds Tryd.pinned (OpenSpec.ofChange codecVotesSpec)

/-- ITS FALSE NEIGHBOUR: 'it returns false'. Refute it at one input. -/
def codecVotesWrong : ChangeSpec := { name := "codecVotes", fn := fun _ => fun
  | [d1, d2] => { results := [.lit (.bool false)], args := [d1, d2] }
  | _ => none }
def CodecVotesWrongFalsely : Prop := codecVotesRow.holds Tryd.pinned (OpenSpec.ofChange codecVotesWrong)

/-- 'wapentakelaw02.CodecFacts': WHATEVER THE INPUT: true; the input reads as it did. -/
def codecFactsSpec : ChangeSpec := { name := "codecFacts", fn := fun _ => fun
  | [d1, d2] => { results := [.lit (.bool true)], args := [d1, d2] }
  | _ => none }
def codecFactsRow : OpenClaim := { program := "ytjjgmkfkmckkoaadoor", sum := "db23a9a123619033459f558c173f03edd7a037320892d3c1397b33a5e87f5f1f", func := "wapentake/wapentakelaw02.CodecFacts", spec := "codecFacts", inPlace := ["internal/reflectlite.TypeOf", "internal/reflectlite.ValueOf", "(internal/reflectlite.Value).Type", "(internal/reflectlite.Value).IsNil", "(internal/reflectlite.Value).Elem", "(internal/reflectlite.Value).Set"], unfollowed := true, recurses := true, named := ["wapentake/codec.errBytes", "errors.errorType", "wapentake/codec.errForm"], apart := false, laid := [("errors.errorType", laid_errors_errorType), ("wapentake/codec.errForm", laid_wapentake_codec_errForm), ("wapentake/codec.errBytes", laid_wapentake_codec_errBytes)] }
def CodecFactsSaid : Prop := codecFactsRow.holds Tryd.pinned (OpenSpec.ofChange codecFactsSpec)

/-- ITS FALSE NEIGHBOUR: 'it returns false'. Refute it at one input. -/
def codecFactsWrong : ChangeSpec := { name := "codecFacts", fn := fun _ => fun
  | [d1, d2] => { results := [.lit (.bool false)], args := [d1, d2] }
  | _ => none }
def CodecFactsWrongFalsely : Prop := codecFactsRow.holds Tryd.pinned (OpenSpec.ofChange codecFactsWrong)

/- THE SECOND FORM. 'bulk': how many values and letters a reading holds, each counted each time it is reached (what is shared counts as often as it is met; a slice's spare places count too). A statement '..UptoSaid' is the law's where the arguments, and the package variables that the reading takes, are together of bulk at most 1048576: NARROWER than '..Said'. Prove '..Said' where nothing that the law and all that it calls make is longer than what came in: it says more and counts as full. Else prove '..UptoSaid'. A law counts once. -/
mutual
def uptoBulk {H : Type} : DataW H → Nat
  | .lit (.string bytes) => bytes.length + 1
  | .lit _ => 1
  | .nil => 1
  | .ptr d => uptoBulk d + 1
  | .slice elems spare => uptoBulkAll elems + uptoBulkAll spare + 1
  | .agg parts => uptoBulkAll parts + 1
  | .iface _ d => uptoBulk d + 1
  | .map entries => uptoBulkEntries entries + 1
  | .held _ => 1
def uptoBulkAll {H : Type} : List (DataW H) → Nat
  | [] => 0
  | d :: r => uptoBulk d + uptoBulkAll r
def uptoBulkEntries {H : Type} : List (Lit × DataW H) → Nat
  | [] => 0
  | x :: r => uptoBulkEntry x + uptoBulkEntries r
def uptoBulkEntry {H : Type} : Lit × DataW H → Nat
  | (.string bytes, d) => bytes.length + uptoBulk d + 1
  | (_, d) => uptoBulk d + 1
 end
def uptoSmall : (H : Type) → List (DataW H) → Bool := fun _ ds => decide (uptoBulkAll ds ≤ 1048576)
def OpenSpec.upto (s : _root_.Go.ChangeSpec) : _root_.Go.OpenSpec := { _root_.Go.OpenSpec.ofChange s with cond := some uptoSmall }

/-- 'wapentakelaw02.CodecHeaders', WHERE WHAT IT READS IS OF BULK AT MOST 1048576: true; the input reads as it did. -/
def codecHeadersUptoRow : OpenClaim := { program := "ytjjgmkfkmckkoaadoor", sum := "db23a9a123619033459f558c173f03edd7a037320892d3c1397b33a5e87f5f1f", func := "wapentake/wapentakelaw02.CodecHeaders", spec := "codecHeaders", inPlace := ["internal/reflectlite.TypeOf", "internal/reflectlite.ValueOf", "(internal/reflectlite.Value).Type", "(internal/reflectlite.Value).IsNil", "(internal/reflectlite.Value).Elem", "(internal/reflectlite.Value).Set"], unfollowed := true, recurses := true, named := ["wapentake/codec.errBytes", "errors.errorType", "wapentake/codec.errForm"], apart := false, laid := [("errors.errorType", laid_errors_errorType), ("wapentake/codec.errForm", laid_wapentake_codec_errForm), ("wapentake/codec.errBytes", laid_wapentake_codec_errBytes)], narrowed := true }
def CodecHeadersUptoSaid : Prop := codecHeadersUptoRow.holds Tryd.pinned (OpenSpec.upto codecHeadersSpec)

/-- 'wapentakelaw02.CodecApart', WHERE WHAT IT READS IS OF BULK AT MOST 1048576: true; the input reads as it did. -/
def codecApartUptoRow : OpenClaim := { program := "ytjjgmkfkmckkoaadoor", sum := "db23a9a123619033459f558c173f03edd7a037320892d3c1397b33a5e87f5f1f", func := "wapentake/wapentakelaw02.CodecApart", spec := "codecApart", inPlace := ["internal/reflectlite.TypeOf", "internal/reflectlite.ValueOf", "(internal/reflectlite.Value).Type", "(internal/reflectlite.Value).IsNil", "(internal/reflectlite.Value).Elem", "(internal/reflectlite.Value).Set"], unfollowed := true, recurses := true, named := ["wapentake/codec.errBytes", "errors.errorType", "wapentake/codec.errForm"], apart := false, laid := [("errors.errorType", laid_errors_errorType), ("wapentake/codec.errForm", laid_wapentake_codec_errForm), ("wapentake/codec.errBytes", laid_wapentake_codec_errBytes)], narrowed := true }
def CodecApartUptoSaid : Prop := codecApartUptoRow.holds Tryd.pinned (OpenSpec.upto codecApartSpec)

/-- 'wapentakelaw02.CodecCertificates', WHERE WHAT IT READS IS OF BULK AT MOST 1048576: true; the input reads as it did. -/
def codecCertificatesUptoRow : OpenClaim := { program := "ytjjgmkfkmckkoaadoor", sum := "db23a9a123619033459f558c173f03edd7a037320892d3c1397b33a5e87f5f1f", func := "wapentake/wapentakelaw02.CodecCertificates", spec := "codecCertificates", inPlace := ["internal/reflectlite.TypeOf", "internal/reflectlite.ValueOf", "(internal/reflectlite.Value).Type", "(internal/reflectlite.Value).IsNil", "(internal/reflectlite.Value).Elem", "(internal/reflectlite.Value).Set"], unfollowed := true, recurses := true, named := ["wapentake/codec.errBytes", "errors.errorType", "wapentake/codec.errForm"], apart := false, laid := [("errors.errorType", laid_errors_errorType), ("wapentake/codec.errForm", laid_wapentake_codec_errForm), ("wapentake/codec.errBytes", laid_wapentake_codec_errBytes)], narrowed := true }
def CodecCertificatesUptoSaid : Prop := codecCertificatesUptoRow.holds Tryd.pinned (OpenSpec.upto codecCertificatesSpec)

/-- 'wapentakelaw02.CodecVotes', WHERE WHAT IT READS IS OF BULK AT MOST 1048576: true; the input reads as it did. -/
def codecVotesUptoRow : OpenClaim := { program := "ytjjgmkfkmckkoaadoor", sum := "db23a9a123619033459f558c173f03edd7a037320892d3c1397b33a5e87f5f1f", func := "wapentake/wapentakelaw02.CodecVotes", spec := "codecVotes", inPlace := ["internal/reflectlite.TypeOf", "internal/reflectlite.ValueOf", "(internal/reflectlite.Value).Type", "(internal/reflectlite.Value).IsNil", "(internal/reflectlite.Value).Elem", "(internal/reflectlite.Value).Set"], unfollowed := true, recurses := true, named := ["wapentake/codec.errBytes", "errors.errorType", "wapentake/codec.errForm"], apart := false, laid := [("errors.errorType", laid_errors_errorType), ("wapentake/codec.errForm", laid_wapentake_codec_errForm), ("wapentake/codec.errBytes", laid_wapentake_codec_errBytes)], narrowed := true }
def CodecVotesUptoSaid : Prop := codecVotesUptoRow.holds Tryd.pinned (OpenSpec.upto codecVotesSpec)

/-- 'wapentakelaw02.CodecFacts', WHERE WHAT IT READS IS OF BULK AT MOST 1048576: true; the input reads as it did. -/
def codecFactsUptoRow : OpenClaim := { program := "ytjjgmkfkmckkoaadoor", sum := "db23a9a123619033459f558c173f03edd7a037320892d3c1397b33a5e87f5f1f", func := "wapentake/wapentakelaw02.CodecFacts", spec := "codecFacts", inPlace := ["internal/reflectlite.TypeOf", "internal/reflectlite.ValueOf", "(internal/reflectlite.Value).Type", "(internal/reflectlite.Value).IsNil", "(internal/reflectlite.Value).Elem", "(internal/reflectlite.Value).Set"], unfollowed := true, recurses := true, named := ["wapentake/codec.errBytes", "errors.errorType", "wapentake/codec.errForm"], apart := false, laid := [("errors.errorType", laid_errors_errorType), ("wapentake/codec.errForm", laid_wapentake_codec_errForm), ("wapentake/codec.errBytes", laid_wapentake_codec_errBytes)], narrowed := true }
def CodecFactsUptoSaid : Prop := codecFactsUptoRow.holds Tryd.pinned (OpenSpec.upto codecFactsSpec)

end Rows
end Go.Proofs.YtjjgmkfkmckkoaaDoor
