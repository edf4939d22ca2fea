/-
  NARROWER THAN 'FOR EVERY INPUT', by the rows' own cells (each row's printed sentence says how): StoreDecodes: laid · StoreBack: laid · StoreCanon: laid · StoreStale: laid · StoreSums: laid.
  DERIVED. THE GIVEN ROWS OF THIS SEAT. 5 by the template 'for every input the law returns true; each argument reads behind the call as it read before'; 0 by the template 'total and deterministic' (their statements: YtjgccbpdpnpfjaaDoorTotals.lean).
  GIVEN WITH THE SEED: the statements are not yours to turn. If you find one false, say at which input.
  Laid BY PROGRAM, IN A SANDBOX (cutbox-rows.mjs): the forced cells as the released guide's own fill.sh prints them over the translation 61ebe8f572ff2ed0… (all of the seat's roots in one cut). By AI agents, Wed Nov 11 2026. No macro, syntax, notation, axiom, sorry.
-/
import Derived.Test.YtjgccbpdpnpfjaaDoorChecked
import GoSem.Claim
import GoSem.ClaimJoined
import GoSem.ClaimMapViews
import Derived.JoinedTies
import Derived.KernelRfl
namespace Go.Proofs.YtjgccbpdpnpfjaaDoor
/- THE CELL 'sum', in the pinned program and in every row, IS THE sha256 OF THE DUMP (.gsa) THAT YtjgccbpdpnpfjaaDoorProg.lean LOADS. Nothing in Lean hashes anything: it is a label: what it is worth is what the hold of that sum in a sandbox is worth. -/
noncomputable def Tryd.pinned : Pinned := { name := "ytjgccbpdpnpfjaadoor", sum := "61ebe8f572ff2ed01a9df961e5a5ceee4cbdb72b7cf8fd8ced05d7209028c167", checked := Tryd.checked }
namespace Rows
def none {H : Type} : Left H := { results := [], args := [] }

/- WHAT THE LISTED PACKAGE-LEVEL VARIABLES READ AS WHEN THE CALL BEGINS. Each datum BY PROGRAM (the guide's laid-datum.mjs) off the statement by which the dump's own 'gosem.cut.vars' lays the variable. In a bare row this is a premise. The card (YtjgccbpdpnpfjaaDoorCards.lean) ties it to the program's text. -/
def laid_errors_errorType {H : Type} : DataW H := .iface "internal/reflectlite.rtype" (.agg [.ptr (.lit (.string [101, 114, 114, 111, 114]))])

/-- 'trellislaw33.StoreDecodes': WHATEVER THE INPUT: true; the input reads as it did. -/
def storeDecodesSpec : ChangeSpec := { name := "storeDecodes", fn := fun _ => fun
  | [d1, d2, d3] => { results := [.lit (.bool true)], args := [d1, d2, d3] }
  | _ => none }
def storeDecodesRow : OpenClaim := { program := "ytjgccbpdpnpfjaadoor", sum := "61ebe8f572ff2ed01a9df961e5a5ceee4cbdb72b7cf8fd8ced05d7209028c167", func := "trellis/trellislaw33.StoreDecodes", spec := "storeDecodes", inPlace := ["internal/reflectlite.ValueOf", "(internal/reflectlite.Value).Type", "(internal/reflectlite.Value).IsNil", "internal/reflectlite.TypeOf", "(internal/reflectlite.Value).Elem", "(internal/reflectlite.Value).Set"], unfollowed := true, recurses := true, named := ["errors.errorType"], apart := false, laid := [("errors.errorType", laid_errors_errorType)] }
def StoreDecodesSaid : Prop := storeDecodesRow.holds Tryd.pinned (OpenSpec.ofChange storeDecodesSpec)

/-- ITS FALSE NEIGHBOUR: 'it returns false'. Refute it at one input. -/
def storeDecodesWrong : ChangeSpec := { name := "storeDecodes", fn := fun _ => fun
  | [d1, d2, d3] => { results := [.lit (.bool false)], args := [d1, d2, d3] }
  | _ => none }
def StoreDecodesWrongFalsely : Prop := storeDecodesRow.holds Tryd.pinned (OpenSpec.ofChange storeDecodesWrong)

/-- 'trellislaw33.StoreBack': WHATEVER THE INPUT: true; the input reads as it did. -/
def storeBackSpec : ChangeSpec := { name := "storeBack", fn := fun _ => fun
  | [d1, d2, d3, d4, d5, d6, d7] => { results := [.lit (.bool true)], args := [d1, d2, d3, d4, d5, d6, d7] }
  | _ => none }
def storeBackRow : OpenClaim := { program := "ytjgccbpdpnpfjaadoor", sum := "61ebe8f572ff2ed01a9df961e5a5ceee4cbdb72b7cf8fd8ced05d7209028c167", func := "trellis/trellislaw33.StoreBack", spec := "storeBack", inPlace := ["internal/reflectlite.ValueOf", "(internal/reflectlite.Value).Type", "(internal/reflectlite.Value).IsNil", "internal/reflectlite.TypeOf", "(internal/reflectlite.Value).Elem", "(internal/reflectlite.Value).Set"], unfollowed := true, recurses := true, named := ["errors.errorType"], apart := false, laid := [("errors.errorType", laid_errors_errorType)] }
def StoreBackSaid : Prop := storeBackRow.holds Tryd.pinned (OpenSpec.ofChange storeBackSpec)

/-- ITS FALSE NEIGHBOUR: 'it returns false'. Refute it at one input. -/
def storeBackWrong : ChangeSpec := { name := "storeBack", fn := fun _ => fun
  | [d1, d2, d3, d4, d5, d6, d7] => { results := [.lit (.bool false)], args := [d1, d2, d3, d4, d5, d6, d7] }
  | _ => none }
def StoreBackWrongFalsely : Prop := storeBackRow.holds Tryd.pinned (OpenSpec.ofChange storeBackWrong)

/-- 'trellislaw33.StoreCanon': WHATEVER THE INPUT: true; the input reads as it did. -/
def storeCanonSpec : ChangeSpec := { name := "storeCanon", fn := fun _ => fun
  | [d1, d2, d3] => { results := [.lit (.bool true)], args := [d1, d2, d3] }
  | _ => none }
def storeCanonRow : OpenClaim := { program := "ytjgccbpdpnpfjaadoor", sum := "61ebe8f572ff2ed01a9df961e5a5ceee4cbdb72b7cf8fd8ced05d7209028c167", func := "trellis/trellislaw33.StoreCanon", spec := "storeCanon", inPlace := ["internal/reflectlite.ValueOf", "(internal/reflectlite.Value).Type", "(internal/reflectlite.Value).IsNil", "internal/reflectlite.TypeOf", "(internal/reflectlite.Value).Elem", "(internal/reflectlite.Value).Set"], unfollowed := true, recurses := true, named := ["errors.errorType"], apart := false, laid := [("errors.errorType", laid_errors_errorType)] }
def StoreCanonSaid : Prop := storeCanonRow.holds Tryd.pinned (OpenSpec.ofChange storeCanonSpec)

/-- ITS FALSE NEIGHBOUR: 'it returns false'. Refute it at one input. -/
def storeCanonWrong : ChangeSpec := { name := "storeCanon", fn := fun _ => fun
  | [d1, d2, d3] => { results := [.lit (.bool false)], args := [d1, d2, d3] }
  | _ => none }
def StoreCanonWrongFalsely : Prop := storeCanonRow.holds Tryd.pinned (OpenSpec.ofChange storeCanonWrong)

/-- 'trellislaw33.StoreStale': WHATEVER THE INPUT: true; the input reads as it did. -/
def storeStaleSpec : ChangeSpec := { name := "storeStale", fn := fun _ => fun
  | [d1, d2, d3, d4, d5] => { results := [.lit (.bool true)], args := [d1, d2, d3, d4, d5] }
  | _ => none }
def storeStaleRow : OpenClaim := { program := "ytjgccbpdpnpfjaadoor", sum := "61ebe8f572ff2ed01a9df961e5a5ceee4cbdb72b7cf8fd8ced05d7209028c167", func := "trellis/trellislaw33.StoreStale", spec := "storeStale", inPlace := ["internal/reflectlite.ValueOf", "(internal/reflectlite.Value).Type", "(internal/reflectlite.Value).IsNil", "internal/reflectlite.TypeOf", "(internal/reflectlite.Value).Elem", "(internal/reflectlite.Value).Set"], unfollowed := true, recurses := true, named := ["errors.errorType"], apart := false, laid := [("errors.errorType", laid_errors_errorType)] }
def StoreStaleSaid : Prop := storeStaleRow.holds Tryd.pinned (OpenSpec.ofChange storeStaleSpec)

/-- ITS FALSE NEIGHBOUR: 'it returns false'. Refute it at one input. -/
def storeStaleWrong : ChangeSpec := { name := "storeStale", fn := fun _ => fun
  | [d1, d2, d3, d4, d5] => { results := [.lit (.bool false)], args := [d1, d2, d3, d4, d5] }
  | _ => none }
def StoreStaleWrongFalsely : Prop := storeStaleRow.holds Tryd.pinned (OpenSpec.ofChange storeStaleWrong)

/-- 'trellislaw33.StoreSums': WHATEVER THE INPUT: true; the input reads as it did. -/
def storeSumsSpec : ChangeSpec := { name := "storeSums", fn := fun _ => fun
  | [d1, d2, d3, d4, d5] => { results := [.lit (.bool true)], args := [d1, d2, d3, d4, d5] }
  | _ => none }
def storeSumsRow : OpenClaim := { program := "ytjgccbpdpnpfjaadoor", sum := "61ebe8f572ff2ed01a9df961e5a5ceee4cbdb72b7cf8fd8ced05d7209028c167", func := "trellis/trellislaw33.StoreSums", spec := "storeSums", inPlace := ["internal/reflectlite.ValueOf", "(internal/reflectlite.Value).Type", "(internal/reflectlite.Value).IsNil", "internal/reflectlite.TypeOf", "(internal/reflectlite.Value).Elem", "(internal/reflectlite.Value).Set"], unfollowed := true, recurses := true, named := ["errors.errorType"], apart := false, laid := [("errors.errorType", laid_errors_errorType)] }
def StoreSumsSaid : Prop := storeSumsRow.holds Tryd.pinned (OpenSpec.ofChange storeSumsSpec)

/-- ITS FALSE NEIGHBOUR: 'it returns false'. Refute it at one input. -/
def storeSumsWrong : ChangeSpec := { name := "storeSums", fn := fun _ => fun
  | [d1, d2, d3, d4, d5] => { results := [.lit (.bool false)], args := [d1, d2, d3, d4, d5] }
  | _ => none }
def StoreSumsWrongFalsely : Prop := storeSumsRow.holds Tryd.pinned (OpenSpec.ofChange storeSumsWrong)

/- THE SECOND FORM. 'bulk': how many values and letters a reading holds, each counted each time it is reached (what is shared counts as often as it is met; a slice's spare places count too). A statement '..UptoSaid' is the law's where the arguments, and the package variables that the reading takes, are together of bulk at most 1048576: NARROWER than '..Said'. Prove '..Said' where nothing that the law and all that it calls make is longer than what came in: it says more and counts as full. Else prove '..UptoSaid'. A law counts once. -/
mutual
def uptoBulk {H : Type} : DataW H → Nat
  | .lit (.string bytes) => bytes.length + 1
  | .lit _ => 1
  | .nil => 1
  | .ptr d => uptoBulk d + 1
  | .slice elems spare => uptoBulkAll elems + uptoBulkAll spare + 1
  | .agg parts => uptoBulkAll parts + 1
  | .iface _ d => uptoBulk d + 1
  | .map entries => uptoBulkEntries entries + 1
  | .held _ => 1
def uptoBulkAll {H : Type} : List (DataW H) → Nat
  | [] => 0
  | d :: r => uptoBulk d + uptoBulkAll r
def uptoBulkEntries {H : Type} : List (Lit × DataW H) → Nat
  | [] => 0
  | x :: r => uptoBulkEntry x + uptoBulkEntries r
def uptoBulkEntry {H : Type} : Lit × DataW H → Nat
  | (.string bytes, d) => bytes.length + uptoBulk d + 1
  | (_, d) => uptoBulk d + 1
 end
def uptoSmall : (H : Type) → List (DataW H) → Bool := fun _ ds => decide (uptoBulkAll ds ≤ 1048576)
def OpenSpec.upto (s : _root_.Go.ChangeSpec) : _root_.Go.OpenSpec := { _root_.Go.OpenSpec.ofChange s with cond := some uptoSmall }

/-- 'trellislaw33.StoreDecodes', WHERE WHAT IT READS IS OF BULK AT MOST 1048576: true; the input reads as it did. -/
def storeDecodesUptoRow : OpenClaim := { program := "ytjgccbpdpnpfjaadoor", sum := "61ebe8f572ff2ed01a9df961e5a5ceee4cbdb72b7cf8fd8ced05d7209028c167", func := "trellis/trellislaw33.StoreDecodes", spec := "storeDecodes", inPlace := ["internal/reflectlite.ValueOf", "(internal/reflectlite.Value).Type", "(internal/reflectlite.Value).IsNil", "internal/reflectlite.TypeOf", "(internal/reflectlite.Value).Elem", "(internal/reflectlite.Value).Set"], unfollowed := true, recurses := true, named := ["errors.errorType"], apart := false, laid := [("errors.errorType", laid_errors_errorType)], narrowed := true }
def StoreDecodesUptoSaid : Prop := storeDecodesUptoRow.holds Tryd.pinned (OpenSpec.upto storeDecodesSpec)

/-- 'trellislaw33.StoreBack', WHERE WHAT IT READS IS OF BULK AT MOST 1048576: true; the input reads as it did. -/
def storeBackUptoRow : OpenClaim := { program := "ytjgccbpdpnpfjaadoor", sum := "61ebe8f572ff2ed01a9df961e5a5ceee4cbdb72b7cf8fd8ced05d7209028c167", func := "trellis/trellislaw33.StoreBack", spec := "storeBack", inPlace := ["internal/reflectlite.ValueOf", "(internal/reflectlite.Value).Type", "(internal/reflectlite.Value).IsNil", "internal/reflectlite.TypeOf", "(internal/reflectlite.Value).Elem", "(internal/reflectlite.Value).Set"], unfollowed := true, recurses := true, named := ["errors.errorType"], apart := false, laid := [("errors.errorType", laid_errors_errorType)], narrowed := true }
def StoreBackUptoSaid : Prop := storeBackUptoRow.holds Tryd.pinned (OpenSpec.upto storeBackSpec)

/-- 'trellislaw33.StoreCanon', WHERE WHAT IT READS IS OF BULK AT MOST 1048576: true; the input reads as it did. -/
def storeCanonUptoRow : OpenClaim := { program := "ytjgccbpdpnpfjaadoor", sum := "61ebe8f572ff2ed01a9df961e5a5ceee4cbdb72b7cf8fd8ced05d7209028c167", func := "trellis/trellislaw33.StoreCanon", spec := "storeCanon", inPlace := ["internal/reflectlite.ValueOf", "(internal/reflectlite.Value).Type", "(internal/reflectlite.Value).IsNil", "internal/reflectlite.TypeOf", "(internal/reflectlite.Value).Elem", "(internal/reflectlite.Value).Set"], unfollowed := true, recurses := true, named := ["errors.errorType"], apart := false, laid := [("errors.errorType", laid_errors_errorType)], narrowed := true }
def StoreCanonUptoSaid : Prop := storeCanonUptoRow.holds Tryd.pinned (OpenSpec.upto storeCanonSpec)

/-- 'trellislaw33.StoreStale', WHERE WHAT IT READS IS OF BULK AT MOST 1048576: true; the input reads as it did. -/
def storeStaleUptoRow : OpenClaim := { program := "ytjgccbpdpnpfjaadoor", sum := "61ebe8f572ff2ed01a9df961e5a5ceee4cbdb72b7cf8fd8ced05d7209028c167", func := "trellis/trellislaw33.StoreStale", spec := "storeStale", inPlace := ["internal/reflectlite.ValueOf", "(internal/reflectlite.Value).Type", "(internal/reflectlite.Value).IsNil", "internal/reflectlite.TypeOf", "(internal/reflectlite.Value).Elem", "(internal/reflectlite.Value).Set"], unfollowed := true, recurses := true, named := ["errors.errorType"], apart := false, laid := [("errors.errorType", laid_errors_errorType)], narrowed := true }
def StoreStaleUptoSaid : Prop := storeStaleUptoRow.holds Tryd.pinned (OpenSpec.upto storeStaleSpec)

/-- 'trellislaw33.StoreSums', WHERE WHAT IT READS IS OF BULK AT MOST 1048576: true; the input reads as it did. -/
def storeSumsUptoRow : OpenClaim := { program := "ytjgccbpdpnpfjaadoor", sum := "61ebe8f572ff2ed01a9df961e5a5ceee4cbdb72b7cf8fd8ced05d7209028c167", func := "trellis/trellislaw33.StoreSums", spec := "storeSums", inPlace := ["internal/reflectlite.ValueOf", "(internal/reflectlite.Value).Type", "(internal/reflectlite.Value).IsNil", "internal/reflectlite.TypeOf", "(internal/reflectlite.Value).Elem", "(internal/reflectlite.Value).Set"], unfollowed := true, recurses := true, named := ["errors.errorType"], apart := false, laid := [("errors.errorType", laid_errors_errorType)], narrowed := true }
def StoreSumsUptoSaid : Prop := storeSumsUptoRow.holds Tryd.pinned (OpenSpec.upto storeSumsSpec)

end Rows
end Go.Proofs.YtjgccbpdpnpfjaaDoor
