/-
  NARROWER THAN 'FOR EVERY INPUT', by the rows' own cells (each row's printed sentence says how): QueryPlain: laid · QueryAnew: laid · QueryTwice: laid · QueryOnly: laid · QueryPlays: laid · QueryNobody: laid · QueryParts: laid.
  DERIVED. THE GIVEN ROWS OF THIS SEAT. 7 by the template 'for every input the law returns true; each argument reads behind the call as it read before'; 0 by the template 'total and deterministic' (their statements: YtohpkolkagddiaaDoorTotals.lean).
  GIVEN WITH THE SEED: the statements are not yours to turn. If you find one false, say at which input.
  Laid BY PROGRAM, IN A SANDBOX (cutbox-rows.mjs): the forced cells as the released guide's own fill.sh prints them over the translation a61204f69d4c567c… (all of the seat's roots in one cut). By AI agents, Wed Nov 11 2026. No macro, syntax, notation, axiom, sorry.
-/
import Derived.Test.YtohpkolkagddiaaDoorChecked
import GoSem.Claim
import GoSem.ClaimJoined
import GoSem.ClaimMapViews
import Derived.JoinedTies
import Derived.KernelRfl
namespace Go.Proofs.YtohpkolkagddiaaDoor
/- THE CELL 'sum', in the pinned program and in every row, IS THE sha256 OF THE DUMP (.gsa) THAT YtohpkolkagddiaaDoorProg.lean LOADS. Nothing in Lean hashes anything: it is a label: what it is worth is what the hold of that sum in a sandbox is worth. -/
noncomputable def Tryd.pinned : Pinned := { name := "ytohpkolkagddiaadoor", sum := "a61204f69d4c567c95c68b6b1ec4ce82749f7c56d998cdfa1b9bb66652973746", checked := Tryd.checked }
namespace Rows
def none {H : Type} : Left H := { results := [], args := [] }

/- WHAT THE LISTED PACKAGE-LEVEL VARIABLES READ AS WHEN THE CALL BEGINS. Each datum BY PROGRAM (the guide's laid-datum.mjs) off the statement by which the dump's own 'gosem.cut.vars' lays the variable. In a bare row this is a premise. The card (YtohpkolkagddiaaDoorCards.lean) ties it to the program's text. -/
def laid_marginalia_query_asksOf {H : Type} : DataW H := .agg [.agg [.lit (.int .i64 0), .lit (.int .i64 0), .lit (.int .i64 0), .lit (.int .i64 0)], .agg [.lit (.int .i64 0), .lit (.int .i64 0), .lit (.int .i64 0), .lit (.int .i64 0)], .agg [.lit (.int .i64 0), .lit (.int .i64 12), .lit (.int .i64 1), .lit (.int .i64 1048576)], .agg [.lit (.int .i64 2), .lit (.int .i64 12), .lit (.int .i64 0), .lit (.int .i64 0)], .agg [.lit (.int .i64 0), .lit (.int .i64 12), .lit (.int .i64 0), .lit (.int .i64 0)], .agg [.lit (.int .i64 2), .lit (.int .i64 2), .lit (.int .i64 0), .lit (.int .i64 0)], .agg [.lit (.int .i64 1), .lit (.int .i64 1), .lit (.int .i64 (-1000)), .lit (.int .i64 1000)]]

/-- 'marginalialaw22.QueryPlain': WHATEVER THE INPUT: true; the input reads as it did. -/
def queryPlainSpec : ChangeSpec := { name := "queryPlain", fn := fun _ => fun
  | [d1, d2, d3] => { results := [.lit (.bool true)], args := [d1, d2, d3] }
  | _ => none }
def queryPlainRow : OpenClaim := { program := "ytohpkolkagddiaadoor", sum := "a61204f69d4c567c95c68b6b1ec4ce82749f7c56d998cdfa1b9bb66652973746", func := "marginalia/marginalialaw22.QueryPlain", spec := "queryPlain", unfollowed := true, recurses := true, named := ["marginalia/query.asksOf"], apart := false, laid := [("marginalia/query.asksOf", laid_marginalia_query_asksOf)] }
def QueryPlainSaid : Prop := queryPlainRow.holds Tryd.pinned (OpenSpec.ofChange queryPlainSpec)

/-- ITS FALSE NEIGHBOUR: 'it returns false'. Refute it at one input. -/
def queryPlainWrong : ChangeSpec := { name := "queryPlain", fn := fun _ => fun
  | [d1, d2, d3] => { results := [.lit (.bool false)], args := [d1, d2, d3] }
  | _ => none }
def QueryPlainWrongFalsely : Prop := queryPlainRow.holds Tryd.pinned (OpenSpec.ofChange queryPlainWrong)

/-- 'marginalialaw22.QueryAnew': WHATEVER THE INPUT: true; the input reads as it did. -/
def queryAnewSpec : ChangeSpec := { name := "queryAnew", fn := fun _ => fun
  | [d1, d2, d3] => { results := [.lit (.bool true)], args := [d1, d2, d3] }
  | _ => none }
def queryAnewRow : OpenClaim := { program := "ytohpkolkagddiaadoor", sum := "a61204f69d4c567c95c68b6b1ec4ce82749f7c56d998cdfa1b9bb66652973746", func := "marginalia/marginalialaw22.QueryAnew", spec := "queryAnew", unfollowed := true, recurses := true, named := ["marginalia/query.asksOf"], apart := false, laid := [("marginalia/query.asksOf", laid_marginalia_query_asksOf)] }
def QueryAnewSaid : Prop := queryAnewRow.holds Tryd.pinned (OpenSpec.ofChange queryAnewSpec)

/-- ITS FALSE NEIGHBOUR: 'it returns false'. Refute it at one input. -/
def queryAnewWrong : ChangeSpec := { name := "queryAnew", fn := fun _ => fun
  | [d1, d2, d3] => { results := [.lit (.bool false)], args := [d1, d2, d3] }
  | _ => none }
def QueryAnewWrongFalsely : Prop := queryAnewRow.holds Tryd.pinned (OpenSpec.ofChange queryAnewWrong)

/-- 'marginalialaw22.QueryTwice': WHATEVER THE INPUT: true; the input reads as it did. -/
def queryTwiceSpec : ChangeSpec := { name := "queryTwice", fn := fun _ => fun
  | [d1, d2, d3] => { results := [.lit (.bool true)], args := [d1, d2, d3] }
  | _ => none }
def queryTwiceRow : OpenClaim := { program := "ytohpkolkagddiaadoor", sum := "a61204f69d4c567c95c68b6b1ec4ce82749f7c56d998cdfa1b9bb66652973746", func := "marginalia/marginalialaw22.QueryTwice", spec := "queryTwice", unfollowed := true, recurses := true, named := ["marginalia/query.asksOf"], apart := false, laid := [("marginalia/query.asksOf", laid_marginalia_query_asksOf)] }
def QueryTwiceSaid : Prop := queryTwiceRow.holds Tryd.pinned (OpenSpec.ofChange queryTwiceSpec)

/-- ITS FALSE NEIGHBOUR: 'it returns false'. Refute it at one input. -/
def queryTwiceWrong : ChangeSpec := { name := "queryTwice", fn := fun _ => fun
  | [d1, d2, d3] => { results := [.lit (.bool false)], args := [d1, d2, d3] }
  | _ => none }
def QueryTwiceWrongFalsely : Prop := queryTwiceRow.holds Tryd.pinned (OpenSpec.ofChange queryTwiceWrong)

/-- 'marginalialaw22.QueryOnly': WHATEVER THE INPUT: true; the input reads as it did. -/
def queryOnlySpec : ChangeSpec := { name := "queryOnly", fn := fun _ => fun
  | [d1, d2, d3] => { results := [.lit (.bool true)], args := [d1, d2, d3] }
  | _ => none }
def queryOnlyRow : OpenClaim := { program := "ytohpkolkagddiaadoor", sum := "a61204f69d4c567c95c68b6b1ec4ce82749f7c56d998cdfa1b9bb66652973746", func := "marginalia/marginalialaw22.QueryOnly", spec := "queryOnly", unfollowed := true, recurses := true, named := ["marginalia/query.asksOf"], apart := false, laid := [("marginalia/query.asksOf", laid_marginalia_query_asksOf)] }
def QueryOnlySaid : Prop := queryOnlyRow.holds Tryd.pinned (OpenSpec.ofChange queryOnlySpec)

/-- ITS FALSE NEIGHBOUR: 'it returns false'. Refute it at one input. -/
def queryOnlyWrong : ChangeSpec := { name := "queryOnly", fn := fun _ => fun
  | [d1, d2, d3] => { results := [.lit (.bool false)], args := [d1, d2, d3] }
  | _ => none }
def QueryOnlyWrongFalsely : Prop := queryOnlyRow.holds Tryd.pinned (OpenSpec.ofChange queryOnlyWrong)

/-- 'marginalialaw22.QueryPlays': WHATEVER THE INPUT: true; the input reads as it did. -/
def queryPlaysSpec : ChangeSpec := { name := "queryPlays", fn := fun _ => fun
  | [d1, d2] => { results := [.lit (.bool true)], args := [d1, d2] }
  | _ => none }
def queryPlaysRow : OpenClaim := { program := "ytohpkolkagddiaadoor", sum := "a61204f69d4c567c95c68b6b1ec4ce82749f7c56d998cdfa1b9bb66652973746", func := "marginalia/marginalialaw22.QueryPlays", spec := "queryPlays", inPlace := ["maps.clone"], unfollowed := true, recurses := true, named := ["marginalia/query.asksOf"], apart := false, laid := [("marginalia/query.asksOf", laid_marginalia_query_asksOf)] }
def QueryPlaysSaid : Prop := queryPlaysRow.holds Tryd.pinned (OpenSpec.ofChange queryPlaysSpec)

/-- ITS FALSE NEIGHBOUR: 'it returns false'. Refute it at one input. -/
def queryPlaysWrong : ChangeSpec := { name := "queryPlays", fn := fun _ => fun
  | [d1, d2] => { results := [.lit (.bool false)], args := [d1, d2] }
  | _ => none }
def QueryPlaysWrongFalsely : Prop := queryPlaysRow.holds Tryd.pinned (OpenSpec.ofChange queryPlaysWrong)

/-- 'marginalialaw22.QueryNobody': WHATEVER THE INPUT: true; the input reads as it did. -/
def queryNobodySpec : ChangeSpec := { name := "queryNobody", fn := fun _ => fun
  | [d1, d2] => { results := [.lit (.bool true)], args := [d1, d2] }
  | _ => none }
def queryNobodyRow : OpenClaim := { program := "ytohpkolkagddiaadoor", sum := "a61204f69d4c567c95c68b6b1ec4ce82749f7c56d998cdfa1b9bb66652973746", func := "marginalia/marginalialaw22.QueryNobody", spec := "queryNobody", inPlace := ["maps.clone"], unfollowed := true, recurses := true, named := ["marginalia/query.asksOf"], apart := false, laid := [("marginalia/query.asksOf", laid_marginalia_query_asksOf)] }
def QueryNobodySaid : Prop := queryNobodyRow.holds Tryd.pinned (OpenSpec.ofChange queryNobodySpec)

/-- ITS FALSE NEIGHBOUR: 'it returns false'. Refute it at one input. -/
def queryNobodyWrong : ChangeSpec := { name := "queryNobody", fn := fun _ => fun
  | [d1, d2] => { results := [.lit (.bool false)], args := [d1, d2] }
  | _ => none }
def QueryNobodyWrongFalsely : Prop := queryNobodyRow.holds Tryd.pinned (OpenSpec.ofChange queryNobodyWrong)

/-- 'marginalialaw22.QueryParts': WHATEVER THE INPUT: true; the input reads as it did. -/
def queryPartsSpec : ChangeSpec := { name := "queryParts", fn := fun _ => fun
  | [d1, d2, d3, d4] => { results := [.lit (.bool true)], args := [d1, d2, d3, d4] }
  | _ => none }
def queryPartsRow : OpenClaim := { program := "ytohpkolkagddiaadoor", sum := "a61204f69d4c567c95c68b6b1ec4ce82749f7c56d998cdfa1b9bb66652973746", func := "marginalia/marginalialaw22.QueryParts", spec := "queryParts", inPlace := ["maps.clone"], unfollowed := true, recurses := true, named := ["marginalia/query.asksOf"], apart := false, laid := [("marginalia/query.asksOf", laid_marginalia_query_asksOf)] }
def QueryPartsSaid : Prop := queryPartsRow.holds Tryd.pinned (OpenSpec.ofChange queryPartsSpec)

/-- ITS FALSE NEIGHBOUR: 'it returns false'. Refute it at one input. -/
def queryPartsWrong : ChangeSpec := { name := "queryParts", fn := fun _ => fun
  | [d1, d2, d3, d4] => { results := [.lit (.bool false)], args := [d1, d2, d3, d4] }
  | _ => none }
def QueryPartsWrongFalsely : Prop := queryPartsRow.holds Tryd.pinned (OpenSpec.ofChange queryPartsWrong)

/- THE SECOND FORM. 'bulk': how many values and letters a reading holds, each counted each time it is reached (what is shared counts as often as it is met; a slice's spare places count too). A statement '..UptoSaid' is the law's where the arguments, and the package variables that the reading takes, are together of bulk at most 1048576: NARROWER than '..Said'. Prove '..Said' where nothing that the law and all that it calls make is longer than what came in: it says more and counts as full. Else prove '..UptoSaid'. A law counts once. -/
mutual
def uptoBulk {H : Type} : DataW H → Nat
  | .lit (.string bytes) => bytes.length + 1
  | .lit _ => 1
  | .nil => 1
  | .ptr d => uptoBulk d + 1
  | .slice elems spare => uptoBulkAll elems + uptoBulkAll spare + 1
  | .agg parts => uptoBulkAll parts + 1
  | .iface _ d => uptoBulk d + 1
  | .map entries => uptoBulkEntries entries + 1
  | .held _ => 1
def uptoBulkAll {H : Type} : List (DataW H) → Nat
  | [] => 0
  | d :: r => uptoBulk d + uptoBulkAll r
def uptoBulkEntries {H : Type} : List (Lit × DataW H) → Nat
  | [] => 0
  | x :: r => uptoBulkEntry x + uptoBulkEntries r
def uptoBulkEntry {H : Type} : Lit × DataW H → Nat
  | (.string bytes, d) => bytes.length + uptoBulk d + 1
  | (_, d) => uptoBulk d + 1
 end
def uptoSmall : (H : Type) → List (DataW H) → Bool := fun _ ds => decide (uptoBulkAll ds ≤ 1048576)
def OpenSpec.upto (s : _root_.Go.ChangeSpec) : _root_.Go.OpenSpec := { _root_.Go.OpenSpec.ofChange s with cond := some uptoSmall }

/-- 'marginalialaw22.QueryPlain', WHERE WHAT IT READS IS OF BULK AT MOST 1048576: true; the input reads as it did. -/
def queryPlainUptoRow : OpenClaim := { program := "ytohpkolkagddiaadoor", sum := "a61204f69d4c567c95c68b6b1ec4ce82749f7c56d998cdfa1b9bb66652973746", func := "marginalia/marginalialaw22.QueryPlain", spec := "queryPlain", unfollowed := true, recurses := true, named := ["marginalia/query.asksOf"], apart := false, laid := [("marginalia/query.asksOf", laid_marginalia_query_asksOf)], narrowed := true }
def QueryPlainUptoSaid : Prop := queryPlainUptoRow.holds Tryd.pinned (OpenSpec.upto queryPlainSpec)

/-- 'marginalialaw22.QueryAnew', WHERE WHAT IT READS IS OF BULK AT MOST 1048576: true; the input reads as it did. -/
def queryAnewUptoRow : OpenClaim := { program := "ytohpkolkagddiaadoor", sum := "a61204f69d4c567c95c68b6b1ec4ce82749f7c56d998cdfa1b9bb66652973746", func := "marginalia/marginalialaw22.QueryAnew", spec := "queryAnew", unfollowed := true, recurses := true, named := ["marginalia/query.asksOf"], apart := false, laid := [("marginalia/query.asksOf", laid_marginalia_query_asksOf)], narrowed := true }
def QueryAnewUptoSaid : Prop := queryAnewUptoRow.holds Tryd.pinned (OpenSpec.upto queryAnewSpec)

/-- 'marginalialaw22.QueryTwice', WHERE WHAT IT READS IS OF BULK AT MOST 1048576: true; the input reads as it did. -/
def queryTwiceUptoRow : OpenClaim := { program := "ytohpkolkagddiaadoor", sum := "a61204f69d4c567c95c68b6b1ec4ce82749f7c56d998cdfa1b9bb66652973746", func := "marginalia/marginalialaw22.QueryTwice", spec := "queryTwice", unfollowed := true, recurses := true, named := ["marginalia/query.asksOf"], apart := false, laid := [("marginalia/query.asksOf", laid_marginalia_query_asksOf)], narrowed := true }
def QueryTwiceUptoSaid : Prop := queryTwiceUptoRow.holds Tryd.pinned (OpenSpec.upto queryTwiceSpec)

/-- 'marginalialaw22.QueryOnly', WHERE WHAT IT READS IS OF BULK AT MOST 1048576: true; the input reads as it did. -/
def queryOnlyUptoRow : OpenClaim := { program := "ytohpkolkagddiaadoor", sum := "a61204f69d4c567c95c68b6b1ec4ce82749f7c56d998cdfa1b9bb66652973746", func := "marginalia/marginalialaw22.QueryOnly", spec := "queryOnly", unfollowed := true, recurses := true, named := ["marginalia/query.asksOf"], apart := false, laid := [("marginalia/query.asksOf", laid_marginalia_query_asksOf)], narrowed := true }
def QueryOnlyUptoSaid : Prop := queryOnlyUptoRow.holds Tryd.pinned (OpenSpec.upto queryOnlySpec)

/-- 'marginalialaw22.QueryPlays', WHERE WHAT IT READS IS OF BULK AT MOST 1048576: true; the input reads as it did. -/
def queryPlaysUptoRow : OpenClaim := { program := "ytohpkolkagddiaadoor", sum := "a61204f69d4c567c95c68b6b1ec4ce82749f7c56d998cdfa1b9bb66652973746", func := "marginalia/marginalialaw22.QueryPlays", spec := "queryPlays", inPlace := ["maps.clone"], unfollowed := true, recurses := true, named := ["marginalia/query.asksOf"], apart := false, laid := [("marginalia/query.asksOf", laid_marginalia_query_asksOf)], narrowed := true }
def QueryPlaysUptoSaid : Prop := queryPlaysUptoRow.holds Tryd.pinned (OpenSpec.upto queryPlaysSpec)

/-- 'marginalialaw22.QueryNobody', WHERE WHAT IT READS IS OF BULK AT MOST 1048576: true; the input reads as it did. -/
def queryNobodyUptoRow : OpenClaim := { program := "ytohpkolkagddiaadoor", sum := "a61204f69d4c567c95c68b6b1ec4ce82749f7c56d998cdfa1b9bb66652973746", func := "marginalia/marginalialaw22.QueryNobody", spec := "queryNobody", inPlace := ["maps.clone"], unfollowed := true, recurses := true, named := ["marginalia/query.asksOf"], apart := false, laid := [("marginalia/query.asksOf", laid_marginalia_query_asksOf)], narrowed := true }
def QueryNobodyUptoSaid : Prop := queryNobodyUptoRow.holds Tryd.pinned (OpenSpec.upto queryNobodySpec)

/-- 'marginalialaw22.QueryParts', WHERE WHAT IT READS IS OF BULK AT MOST 1048576: true; the input reads as it did. -/
def queryPartsUptoRow : OpenClaim := { program := "ytohpkolkagddiaadoor", sum := "a61204f69d4c567c95c68b6b1ec4ce82749f7c56d998cdfa1b9bb66652973746", func := "marginalia/marginalialaw22.QueryParts", spec := "queryParts", inPlace := ["maps.clone"], unfollowed := true, recurses := true, named := ["marginalia/query.asksOf"], apart := false, laid := [("marginalia/query.asksOf", laid_marginalia_query_asksOf)], narrowed := true }
def QueryPartsUptoSaid : Prop := queryPartsUptoRow.holds Tryd.pinned (OpenSpec.upto queryPartsSpec)

end Rows
end Go.Proofs.YtohpkolkagddiaaDoor
