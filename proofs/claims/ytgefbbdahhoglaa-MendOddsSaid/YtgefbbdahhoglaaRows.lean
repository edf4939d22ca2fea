/-
  No cell of these rows narrows 'for every input' (looked for: loops, veiled, ifaces, maps, wideKeys, modest, calm, conditions, laid).
  DERIVED. THE GIVEN ROWS OF THIS SEAT. 7 by the template 'for every input the law returns true; each argument reads behind the call as it read before'; 0 by the template 'total and deterministic' (their statements: YtgefbbdahhoglaaTotals.lean).
  GIVEN WITH THE SEED: the statements are not yours to turn. If you find one false, say at which input.
  Laid BY PROGRAM, IN A SANDBOX (cutbox-rows.mjs): the forced cells as the released guide's own fill.sh prints them over the translation 7a59de971dc31be6… (all of the seat's roots in one cut). By AI agents, Wed Nov 11 2026. No macro, syntax, notation, axiom, sorry.
-/
import Derived.Test.YtgefbbdahhoglaaChecked
import GoSem.Claim
import GoSem.ClaimJoined
import GoSem.ClaimMapViews
import Derived.JoinedTies
import Derived.KernelRfl
namespace Go.Proofs.Ytgefbbdahhoglaa
/- THE CELL 'sum', in the pinned program and in every row, IS THE sha256 OF THE DUMP (.gsa) THAT YtgefbbdahhoglaaProg.lean LOADS. Nothing in Lean hashes anything: it is a label: what it is worth is what the hold of that sum in a sandbox is worth. -/
noncomputable def Try.pinned : Pinned := { name := "ytgefbbdahhoglaa", sum := "7a59de971dc31be6d72bd9739450f953d0bcaeb765bb3831741321493016da30", checked := Try.checked }
namespace Rows
def none {H : Type} : Left H := { results := [], args := [] }

/-- 'trellislaw30.MendOdds': WHATEVER THE INPUT: true; the input reads as it did. -/
def mendOddsSpec : ChangeSpec := { name := "mendOdds", fn := fun _ => fun
  | [d] => { results := [.lit (.bool true)], args := [d] }
  | _ => none }
def mendOddsRow : OpenClaim := { program := "ytgefbbdahhoglaa", sum := "7a59de971dc31be6d72bd9739450f953d0bcaeb765bb3831741321493016da30", func := "trellis/trellislaw30.MendOdds", spec := "mendOdds", apart := false }
def MendOddsSaid : Prop := mendOddsRow.holds Try.pinned (OpenSpec.ofChange mendOddsSpec)

/-- ITS FALSE NEIGHBOUR: 'it returns false'. Refute it at one input. -/
def mendOddsWrong : ChangeSpec := { name := "mendOdds", fn := fun _ => fun
  | [d] => { results := [.lit (.bool false)], args := [d] }
  | _ => none }
def MendOddsWrongFalsely : Prop := mendOddsRow.holds Try.pinned (OpenSpec.ofChange mendOddsWrong)

/-- 'trellislaw2.PlaceRows': WHATEVER THE INPUT: true; the input reads as it did. -/
def placeRowsSpec : ChangeSpec := { name := "placeRows", fn := fun _ => fun
  | [d1, d2] => { results := [.lit (.bool true)], args := [d1, d2] }
  | _ => none }
def placeRowsRow : OpenClaim := { program := "ytgefbbdahhoglaa", sum := "7a59de971dc31be6d72bd9739450f953d0bcaeb765bb3831741321493016da30", func := "trellis/trellislaw2.PlaceRows", spec := "placeRows", apart := false }
def PlaceRowsSaid : Prop := placeRowsRow.holds Try.pinned (OpenSpec.ofChange placeRowsSpec)

/-- ITS FALSE NEIGHBOUR: 'it returns false'. Refute it at one input. -/
def placeRowsWrong : ChangeSpec := { name := "placeRows", fn := fun _ => fun
  | [d1, d2] => { results := [.lit (.bool false)], args := [d1, d2] }
  | _ => none }
def PlaceRowsWrongFalsely : Prop := placeRowsRow.holds Try.pinned (OpenSpec.ofChange placeRowsWrong)

/-- 'trellislaw2.PlaceBytes': WHATEVER THE INPUT: true; the input reads as it did. -/
def placeBytesSpec : ChangeSpec := { name := "placeBytes", fn := fun _ => fun
  | [d1, d2, d3] => { results := [.lit (.bool true)], args := [d1, d2, d3] }
  | _ => none }
def placeBytesRow : OpenClaim := { program := "ytgefbbdahhoglaa", sum := "7a59de971dc31be6d72bd9739450f953d0bcaeb765bb3831741321493016da30", func := "trellis/trellislaw2.PlaceBytes", spec := "placeBytes", apart := false }
def PlaceBytesSaid : Prop := placeBytesRow.holds Try.pinned (OpenSpec.ofChange placeBytesSpec)

/-- ITS FALSE NEIGHBOUR: 'it returns false'. Refute it at one input. -/
def placeBytesWrong : ChangeSpec := { name := "placeBytes", fn := fun _ => fun
  | [d1, d2, d3] => { results := [.lit (.bool false)], args := [d1, d2, d3] }
  | _ => none }
def PlaceBytesWrongFalsely : Prop := placeBytesRow.holds Try.pinned (OpenSpec.ofChange placeBytesWrong)

/-- 'trellislaw2.PlaceUnits': WHATEVER THE INPUT: true; the input reads as it did. -/
def placeUnitsSpec : ChangeSpec := { name := "placeUnits", fn := fun _ => fun
  | [d1, d2, d3] => { results := [.lit (.bool true)], args := [d1, d2, d3] }
  | _ => none }
def placeUnitsRow : OpenClaim := { program := "ytgefbbdahhoglaa", sum := "7a59de971dc31be6d72bd9739450f953d0bcaeb765bb3831741321493016da30", func := "trellis/trellislaw2.PlaceUnits", spec := "placeUnits", apart := false }
def PlaceUnitsSaid : Prop := placeUnitsRow.holds Try.pinned (OpenSpec.ofChange placeUnitsSpec)

/-- ITS FALSE NEIGHBOUR: 'it returns false'. Refute it at one input. -/
def placeUnitsWrong : ChangeSpec := { name := "placeUnits", fn := fun _ => fun
  | [d1, d2, d3] => { results := [.lit (.bool false)], args := [d1, d2, d3] }
  | _ => none }
def PlaceUnitsWrongFalsely : Prop := placeUnitsRow.holds Try.pinned (OpenSpec.ofChange placeUnitsWrong)

/-- 'trellislaw2.PlaceBack': WHATEVER THE INPUT: true; the input reads as it did. -/
def placeBackSpec : ChangeSpec := { name := "placeBack", fn := fun _ => fun
  | [d1, d2, d3] => { results := [.lit (.bool true)], args := [d1, d2, d3] }
  | _ => none }
def placeBackRow : OpenClaim := { program := "ytgefbbdahhoglaa", sum := "7a59de971dc31be6d72bd9739450f953d0bcaeb765bb3831741321493016da30", func := "trellis/trellislaw2.PlaceBack", spec := "placeBack", apart := false }
def PlaceBackSaid : Prop := placeBackRow.holds Try.pinned (OpenSpec.ofChange placeBackSpec)

/-- ITS FALSE NEIGHBOUR: 'it returns false'. Refute it at one input. -/
def placeBackWrong : ChangeSpec := { name := "placeBack", fn := fun _ => fun
  | [d1, d2, d3] => { results := [.lit (.bool false)], args := [d1, d2, d3] }
  | _ => none }
def PlaceBackWrongFalsely : Prop := placeBackRow.holds Try.pinned (OpenSpec.ofChange placeBackWrong)

/-- 'trellislaw2.PlaceOrder': WHATEVER THE INPUT: true; the input reads as it did. -/
def placeOrderSpec : ChangeSpec := { name := "placeOrder", fn := fun _ => fun
  | [d1, d2, d3] => { results := [.lit (.bool true)], args := [d1, d2, d3] }
  | _ => none }
def placeOrderRow : OpenClaim := { program := "ytgefbbdahhoglaa", sum := "7a59de971dc31be6d72bd9739450f953d0bcaeb765bb3831741321493016da30", func := "trellis/trellislaw2.PlaceOrder", spec := "placeOrder", apart := false }
def PlaceOrderSaid : Prop := placeOrderRow.holds Try.pinned (OpenSpec.ofChange placeOrderSpec)

/-- ITS FALSE NEIGHBOUR: 'it returns false'. Refute it at one input. -/
def placeOrderWrong : ChangeSpec := { name := "placeOrder", fn := fun _ => fun
  | [d1, d2, d3] => { results := [.lit (.bool false)], args := [d1, d2, d3] }
  | _ => none }
def PlaceOrderWrongFalsely : Prop := placeOrderRow.holds Try.pinned (OpenSpec.ofChange placeOrderWrong)

/-- 'trellislaw2.PlaceEdits': WHATEVER THE INPUT: true; the input reads as it did. -/
def placeEditsSpec : ChangeSpec := { name := "placeEdits", fn := fun _ => fun
  | [d1, d2, d3, d4] => { results := [.lit (.bool true)], args := [d1, d2, d3, d4] }
  | _ => none }
def placeEditsRow : OpenClaim := { program := "ytgefbbdahhoglaa", sum := "7a59de971dc31be6d72bd9739450f953d0bcaeb765bb3831741321493016da30", func := "trellis/trellislaw2.PlaceEdits", spec := "placeEdits", apart := false }
def PlaceEditsSaid : Prop := placeEditsRow.holds Try.pinned (OpenSpec.ofChange placeEditsSpec)

/-- ITS FALSE NEIGHBOUR: 'it returns false'. Refute it at one input. -/
def placeEditsWrong : ChangeSpec := { name := "placeEdits", fn := fun _ => fun
  | [d1, d2, d3, d4] => { results := [.lit (.bool false)], args := [d1, d2, d3, d4] }
  | _ => none }
def PlaceEditsWrongFalsely : Prop := placeEditsRow.holds Try.pinned (OpenSpec.ofChange placeEditsWrong)

/- THE SECOND FORM. 'bulk': how many values and letters a reading holds, each counted each time it is reached (what is shared counts as often as it is met; a slice's spare places count too). A statement '..UptoSaid' is the law's where the arguments, and the package variables that the reading takes, are together of bulk at most 1048576: NARROWER than '..Said'. Prove '..Said' where nothing that the law and all that it calls make is longer than what came in: it says more and counts as full. Else prove '..UptoSaid'. A law counts once. -/
mutual
def uptoBulk {H : Type} : DataW H → Nat
  | .lit (.string bytes) => bytes.length + 1
  | .lit _ => 1
  | .nil => 1
  | .ptr d => uptoBulk d + 1
  | .slice elems spare => uptoBulkAll elems + uptoBulkAll spare + 1
  | .agg parts => uptoBulkAll parts + 1
  | .iface _ d => uptoBulk d + 1
  | .map entries => uptoBulkEntries entries + 1
  | .held _ => 1
def uptoBulkAll {H : Type} : List (DataW H) → Nat
  | [] => 0
  | d :: r => uptoBulk d + uptoBulkAll r
def uptoBulkEntries {H : Type} : List (Lit × DataW H) → Nat
  | [] => 0
  | x :: r => uptoBulkEntry x + uptoBulkEntries r
def uptoBulkEntry {H : Type} : Lit × DataW H → Nat
  | (.string bytes, d) => bytes.length + uptoBulk d + 1
  | (_, d) => uptoBulk d + 1
 end
def uptoSmall : (H : Type) → List (DataW H) → Bool := fun _ ds => decide (uptoBulkAll ds ≤ 1048576)
def OpenSpec.upto (s : _root_.Go.ChangeSpec) : _root_.Go.OpenSpec := { _root_.Go.OpenSpec.ofChange s with cond := some uptoSmall }

/-- 'trellislaw30.MendOdds', WHERE WHAT IT READS IS OF BULK AT MOST 1048576: true; the input reads as it did. -/
def mendOddsUptoRow : OpenClaim := { program := "ytgefbbdahhoglaa", sum := "7a59de971dc31be6d72bd9739450f953d0bcaeb765bb3831741321493016da30", func := "trellis/trellislaw30.MendOdds", spec := "mendOdds", apart := false, narrowed := true }
def MendOddsUptoSaid : Prop := mendOddsUptoRow.holds Try.pinned (OpenSpec.upto mendOddsSpec)

/-- 'trellislaw2.PlaceRows', WHERE WHAT IT READS IS OF BULK AT MOST 1048576: true; the input reads as it did. -/
def placeRowsUptoRow : OpenClaim := { program := "ytgefbbdahhoglaa", sum := "7a59de971dc31be6d72bd9739450f953d0bcaeb765bb3831741321493016da30", func := "trellis/trellislaw2.PlaceRows", spec := "placeRows", apart := false, narrowed := true }
def PlaceRowsUptoSaid : Prop := placeRowsUptoRow.holds Try.pinned (OpenSpec.upto placeRowsSpec)

/-- 'trellislaw2.PlaceBytes', WHERE WHAT IT READS IS OF BULK AT MOST 1048576: true; the input reads as it did. -/
def placeBytesUptoRow : OpenClaim := { program := "ytgefbbdahhoglaa", sum := "7a59de971dc31be6d72bd9739450f953d0bcaeb765bb3831741321493016da30", func := "trellis/trellislaw2.PlaceBytes", spec := "placeBytes", apart := false, narrowed := true }
def PlaceBytesUptoSaid : Prop := placeBytesUptoRow.holds Try.pinned (OpenSpec.upto placeBytesSpec)

/-- 'trellislaw2.PlaceUnits', WHERE WHAT IT READS IS OF BULK AT MOST 1048576: true; the input reads as it did. -/
def placeUnitsUptoRow : OpenClaim := { program := "ytgefbbdahhoglaa", sum := "7a59de971dc31be6d72bd9739450f953d0bcaeb765bb3831741321493016da30", func := "trellis/trellislaw2.PlaceUnits", spec := "placeUnits", apart := false, narrowed := true }
def PlaceUnitsUptoSaid : Prop := placeUnitsUptoRow.holds Try.pinned (OpenSpec.upto placeUnitsSpec)

/-- 'trellislaw2.PlaceBack', WHERE WHAT IT READS IS OF BULK AT MOST 1048576: true; the input reads as it did. -/
def placeBackUptoRow : OpenClaim := { program := "ytgefbbdahhoglaa", sum := "7a59de971dc31be6d72bd9739450f953d0bcaeb765bb3831741321493016da30", func := "trellis/trellislaw2.PlaceBack", spec := "placeBack", apart := false, narrowed := true }
def PlaceBackUptoSaid : Prop := placeBackUptoRow.holds Try.pinned (OpenSpec.upto placeBackSpec)

/-- 'trellislaw2.PlaceOrder', WHERE WHAT IT READS IS OF BULK AT MOST 1048576: true; the input reads as it did. -/
def placeOrderUptoRow : OpenClaim := { program := "ytgefbbdahhoglaa", sum := "7a59de971dc31be6d72bd9739450f953d0bcaeb765bb3831741321493016da30", func := "trellis/trellislaw2.PlaceOrder", spec := "placeOrder", apart := false, narrowed := true }
def PlaceOrderUptoSaid : Prop := placeOrderUptoRow.holds Try.pinned (OpenSpec.upto placeOrderSpec)

/-- 'trellislaw2.PlaceEdits', WHERE WHAT IT READS IS OF BULK AT MOST 1048576: true; the input reads as it did. -/
def placeEditsUptoRow : OpenClaim := { program := "ytgefbbdahhoglaa", sum := "7a59de971dc31be6d72bd9739450f953d0bcaeb765bb3831741321493016da30", func := "trellis/trellislaw2.PlaceEdits", spec := "placeEdits", apart := false, narrowed := true }
def PlaceEditsUptoSaid : Prop := placeEditsUptoRow.holds Try.pinned (OpenSpec.upto placeEditsSpec)

end Rows
end Go.Proofs.Ytgefbbdahhoglaa
