/-
  No cell of these rows narrows 'for every input' (looked for: loops, veiled, ifaces, maps, wideKeys, modest, calm, conditions, laid).
  DERIVED. THE GIVEN ROWS OF THIS SEAT. 6 by the template 'for every input the law returns true; each argument reads behind the call as it read before'; 0 by the template 'total and deterministic' (their statements: YtknagjiipelfnaaTotals.lean).
  GIVEN WITH THE SEED: the statements are not yours to turn. If you find one false, say at which input.
  Laid BY PROGRAM, IN A SANDBOX (cutbox-rows.mjs): the forced cells as the released guide's own fill.sh prints them over the translation 5fb3cf6972a9f7f7… (all of the seat's roots in one cut). By AI agents, Wed Nov 11 2026. No macro, syntax, notation, axiom, sorry.
-/
import Derived.Test.YtknagjiipelfnaaChecked
import GoSem.Claim
import GoSem.ClaimJoined
import GoSem.ClaimMapViews
import Derived.JoinedTies
import Derived.KernelRfl
namespace Go.Proofs.Ytknagjiipelfnaa
/- THE CELL 'sum', in the pinned program and in every row, IS THE sha256 OF THE DUMP (.gsa) THAT YtknagjiipelfnaaProg.lean LOADS. Nothing in Lean hashes anything: it is a label: what it is worth is what the hold of that sum in a sandbox is worth. -/
noncomputable def Try.pinned : Pinned := { name := "ytknagjiipelfnaa", sum := "5fb3cf6972a9f7f7d8b96d623c91027ee3b2ab0a0a4a5ed83348fcd8b483d500", checked := Try.checked }
namespace Rows
def none {H : Type} : Left H := { results := [], args := [] }

/-- 'trellislaw22.OutlineSymbols': WHATEVER THE INPUT: true; the input reads as it did. -/
def outlineSymbolsSpec : ChangeSpec := { name := "outlineSymbols", fn := fun _ => fun
  | [d1, d2, d3] => { results := [.lit (.bool true)], args := [d1, d2, d3] }
  | _ => none }
def outlineSymbolsRow : OpenClaim := { program := "ytknagjiipelfnaa", sum := "5fb3cf6972a9f7f7d8b96d623c91027ee3b2ab0a0a4a5ed83348fcd8b483d500", func := "trellis/trellislaw22.OutlineSymbols", spec := "outlineSymbols", unfollowed := true, recurses := true, apart := false }
def OutlineSymbolsSaid : Prop := outlineSymbolsRow.holds Try.pinned (OpenSpec.ofChange outlineSymbolsSpec)

/-- ITS FALSE NEIGHBOUR: 'it returns false'. Refute it at one input. -/
def outlineSymbolsWrong : ChangeSpec := { name := "outlineSymbols", fn := fun _ => fun
  | [d1, d2, d3] => { results := [.lit (.bool false)], args := [d1, d2, d3] }
  | _ => none }
def OutlineSymbolsWrongFalsely : Prop := outlineSymbolsRow.holds Try.pinned (OpenSpec.ofChange outlineSymbolsWrong)

/-- 'trellislaw17.ReuseFinds': WHATEVER THE INPUT: true; the input reads as it did. -/
def reuseFindsSpec : ChangeSpec := { name := "reuseFinds", fn := fun _ => fun
  | [d1, d2, d3, d4] => { results := [.lit (.bool true)], args := [d1, d2, d3, d4] }
  | _ => none }
def reuseFindsRow : OpenClaim := { program := "ytknagjiipelfnaa", sum := "5fb3cf6972a9f7f7d8b96d623c91027ee3b2ab0a0a4a5ed83348fcd8b483d500", func := "trellis/trellislaw17.ReuseFinds", spec := "reuseFinds", inPlace := ["internal/bytealg.IndexByteString", "internal/bytealg.IndexString"], recurses := true, named := ["internal/bytealg.MaxLen"], apart := false }
def ReuseFindsSaid : Prop := reuseFindsRow.holds Try.pinned (OpenSpec.ofChange reuseFindsSpec)

/-- ITS FALSE NEIGHBOUR: 'it returns false'. Refute it at one input. -/
def reuseFindsWrong : ChangeSpec := { name := "reuseFinds", fn := fun _ => fun
  | [d1, d2, d3, d4] => { results := [.lit (.bool false)], args := [d1, d2, d3, d4] }
  | _ => none }
def ReuseFindsWrongFalsely : Prop := reuseFindsRow.holds Try.pinned (OpenSpec.ofChange reuseFindsWrong)

/-- 'trellislaw17.ReuseNone': WHATEVER THE INPUT: true; the input reads as it did. -/
def reuseNoneSpec : ChangeSpec := { name := "reuseNone", fn := fun _ => fun
  | [d1, d2, d3, d4, d5, d6] => { results := [.lit (.bool true)], args := [d1, d2, d3, d4, d5, d6] }
  | _ => none }
def reuseNoneRow : OpenClaim := { program := "ytknagjiipelfnaa", sum := "5fb3cf6972a9f7f7d8b96d623c91027ee3b2ab0a0a4a5ed83348fcd8b483d500", func := "trellis/trellislaw17.ReuseNone", spec := "reuseNone", inPlace := ["internal/bytealg.IndexByteString", "internal/bytealg.IndexString"], named := ["internal/bytealg.MaxLen"], apart := false }
def ReuseNoneSaid : Prop := reuseNoneRow.holds Try.pinned (OpenSpec.ofChange reuseNoneSpec)

/-- ITS FALSE NEIGHBOUR: 'it returns false'. Refute it at one input. -/
def reuseNoneWrong : ChangeSpec := { name := "reuseNone", fn := fun _ => fun
  | [d1, d2, d3, d4, d5, d6] => { results := [.lit (.bool false)], args := [d1, d2, d3, d4, d5, d6] }
  | _ => none }
def ReuseNoneWrongFalsely : Prop := reuseNoneRow.holds Try.pinned (OpenSpec.ofChange reuseNoneWrong)

/-- 'trellislaw22.OutlineFolds': WHATEVER THE INPUT: true; the input reads as it did. -/
def outlineFoldsSpec : ChangeSpec := { name := "outlineFolds", fn := fun _ => fun
  | [d1, d2, d3] => { results := [.lit (.bool true)], args := [d1, d2, d3] }
  | _ => none }
def outlineFoldsRow : OpenClaim := { program := "ytknagjiipelfnaa", sum := "5fb3cf6972a9f7f7d8b96d623c91027ee3b2ab0a0a4a5ed83348fcd8b483d500", func := "trellis/trellislaw22.OutlineFolds", spec := "outlineFolds", unfollowed := true, recurses := true, apart := false }
def OutlineFoldsSaid : Prop := outlineFoldsRow.holds Try.pinned (OpenSpec.ofChange outlineFoldsSpec)

/-- ITS FALSE NEIGHBOUR: 'it returns false'. Refute it at one input. -/
def outlineFoldsWrong : ChangeSpec := { name := "outlineFolds", fn := fun _ => fun
  | [d1, d2, d3] => { results := [.lit (.bool false)], args := [d1, d2, d3] }
  | _ => none }
def OutlineFoldsWrongFalsely : Prop := outlineFoldsRow.holds Try.pinned (OpenSpec.ofChange outlineFoldsWrong)

/-- 'trellislaw22.OutlineMoves': WHATEVER THE INPUT: true; the input reads as it did. -/
def outlineMovesSpec : ChangeSpec := { name := "outlineMoves", fn := fun _ => fun
  | [d1, d2, d3, d4] => { results := [.lit (.bool true)], args := [d1, d2, d3, d4] }
  | _ => none }
def outlineMovesRow : OpenClaim := { program := "ytknagjiipelfnaa", sum := "5fb3cf6972a9f7f7d8b96d623c91027ee3b2ab0a0a4a5ed83348fcd8b483d500", func := "trellis/trellislaw22.OutlineMoves", spec := "outlineMoves", unfollowed := true, recurses := true, apart := false }
def OutlineMovesSaid : Prop := outlineMovesRow.holds Try.pinned (OpenSpec.ofChange outlineMovesSpec)

/-- ITS FALSE NEIGHBOUR: 'it returns false'. Refute it at one input. -/
def outlineMovesWrong : ChangeSpec := { name := "outlineMoves", fn := fun _ => fun
  | [d1, d2, d3, d4] => { results := [.lit (.bool false)], args := [d1, d2, d3, d4] }
  | _ => none }
def OutlineMovesWrongFalsely : Prop := outlineMovesRow.holds Try.pinned (OpenSpec.ofChange outlineMovesWrong)

/-- 'trellislaw22.OutlineSpares': WHATEVER THE INPUT: true; the input reads as it did. -/
def outlineSparesSpec : ChangeSpec := { name := "outlineSpares", fn := fun _ => fun
  | [d1, d2, d3] => { results := [.lit (.bool true)], args := [d1, d2, d3] }
  | _ => none }
def outlineSparesRow : OpenClaim := { program := "ytknagjiipelfnaa", sum := "5fb3cf6972a9f7f7d8b96d623c91027ee3b2ab0a0a4a5ed83348fcd8b483d500", func := "trellis/trellislaw22.OutlineSpares", spec := "outlineSpares", unfollowed := true, recurses := true, apart := false }
def OutlineSparesSaid : Prop := outlineSparesRow.holds Try.pinned (OpenSpec.ofChange outlineSparesSpec)

/-- ITS FALSE NEIGHBOUR: 'it returns false'. Refute it at one input. -/
def outlineSparesWrong : ChangeSpec := { name := "outlineSpares", fn := fun _ => fun
  | [d1, d2, d3] => { results := [.lit (.bool false)], args := [d1, d2, d3] }
  | _ => none }
def OutlineSparesWrongFalsely : Prop := outlineSparesRow.holds Try.pinned (OpenSpec.ofChange outlineSparesWrong)

/- THE SECOND FORM. 'bulk': how many values and letters a reading holds, each counted each time it is reached (what is shared counts as often as it is met; a slice's spare places count too). A statement '..UptoSaid' is the law's where the arguments, and the package variables that the reading takes, are together of bulk at most 1048576: NARROWER than '..Said'. Prove '..Said' where nothing that the law and all that it calls make is longer than what came in: it says more and counts as full. Else prove '..UptoSaid'. A law counts once. -/
mutual
def uptoBulk {H : Type} : DataW H → Nat
  | .lit (.string bytes) => bytes.length + 1
  | .lit _ => 1
  | .nil => 1
  | .ptr d => uptoBulk d + 1
  | .slice elems spare => uptoBulkAll elems + uptoBulkAll spare + 1
  | .agg parts => uptoBulkAll parts + 1
  | .iface _ d => uptoBulk d + 1
  | .map entries => uptoBulkEntries entries + 1
  | .held _ => 1
def uptoBulkAll {H : Type} : List (DataW H) → Nat
  | [] => 0
  | d :: r => uptoBulk d + uptoBulkAll r
def uptoBulkEntries {H : Type} : List (Lit × DataW H) → Nat
  | [] => 0
  | x :: r => uptoBulkEntry x + uptoBulkEntries r
def uptoBulkEntry {H : Type} : Lit × DataW H → Nat
  | (.string bytes, d) => bytes.length + uptoBulk d + 1
  | (_, d) => uptoBulk d + 1
 end
def uptoSmall : (H : Type) → List (DataW H) → Bool := fun _ ds => decide (uptoBulkAll ds ≤ 1048576)
def OpenSpec.upto (s : _root_.Go.ChangeSpec) : _root_.Go.OpenSpec := { _root_.Go.OpenSpec.ofChange s with cond := some uptoSmall }

/-- 'trellislaw22.OutlineSymbols', WHERE WHAT IT READS IS OF BULK AT MOST 1048576: true; the input reads as it did. -/
def outlineSymbolsUptoRow : OpenClaim := { program := "ytknagjiipelfnaa", sum := "5fb3cf6972a9f7f7d8b96d623c91027ee3b2ab0a0a4a5ed83348fcd8b483d500", func := "trellis/trellislaw22.OutlineSymbols", spec := "outlineSymbols", unfollowed := true, recurses := true, apart := false, narrowed := true }
def OutlineSymbolsUptoSaid : Prop := outlineSymbolsUptoRow.holds Try.pinned (OpenSpec.upto outlineSymbolsSpec)

/-- 'trellislaw17.ReuseFinds', WHERE WHAT IT READS IS OF BULK AT MOST 1048576: true; the input reads as it did. -/
def reuseFindsUptoRow : OpenClaim := { program := "ytknagjiipelfnaa", sum := "5fb3cf6972a9f7f7d8b96d623c91027ee3b2ab0a0a4a5ed83348fcd8b483d500", func := "trellis/trellislaw17.ReuseFinds", spec := "reuseFinds", inPlace := ["internal/bytealg.IndexByteString", "internal/bytealg.IndexString"], recurses := true, named := ["internal/bytealg.MaxLen"], apart := false, narrowed := true }
def ReuseFindsUptoSaid : Prop := reuseFindsUptoRow.holds Try.pinned (OpenSpec.upto reuseFindsSpec)

/-- 'trellislaw17.ReuseNone', WHERE WHAT IT READS IS OF BULK AT MOST 1048576: true; the input reads as it did. -/
def reuseNoneUptoRow : OpenClaim := { program := "ytknagjiipelfnaa", sum := "5fb3cf6972a9f7f7d8b96d623c91027ee3b2ab0a0a4a5ed83348fcd8b483d500", func := "trellis/trellislaw17.ReuseNone", spec := "reuseNone", inPlace := ["internal/bytealg.IndexByteString", "internal/bytealg.IndexString"], named := ["internal/bytealg.MaxLen"], apart := false, narrowed := true }
def ReuseNoneUptoSaid : Prop := reuseNoneUptoRow.holds Try.pinned (OpenSpec.upto reuseNoneSpec)

/-- 'trellislaw22.OutlineFolds', WHERE WHAT IT READS IS OF BULK AT MOST 1048576: true; the input reads as it did. -/
def outlineFoldsUptoRow : OpenClaim := { program := "ytknagjiipelfnaa", sum := "5fb3cf6972a9f7f7d8b96d623c91027ee3b2ab0a0a4a5ed83348fcd8b483d500", func := "trellis/trellislaw22.OutlineFolds", spec := "outlineFolds", unfollowed := true, recurses := true, apart := false, narrowed := true }
def OutlineFoldsUptoSaid : Prop := outlineFoldsUptoRow.holds Try.pinned (OpenSpec.upto outlineFoldsSpec)

/-- 'trellislaw22.OutlineMoves', WHERE WHAT IT READS IS OF BULK AT MOST 1048576: true; the input reads as it did. -/
def outlineMovesUptoRow : OpenClaim := { program := "ytknagjiipelfnaa", sum := "5fb3cf6972a9f7f7d8b96d623c91027ee3b2ab0a0a4a5ed83348fcd8b483d500", func := "trellis/trellislaw22.OutlineMoves", spec := "outlineMoves", unfollowed := true, recurses := true, apart := false, narrowed := true }
def OutlineMovesUptoSaid : Prop := outlineMovesUptoRow.holds Try.pinned (OpenSpec.upto outlineMovesSpec)

/-- 'trellislaw22.OutlineSpares', WHERE WHAT IT READS IS OF BULK AT MOST 1048576: true; the input reads as it did. -/
def outlineSparesUptoRow : OpenClaim := { program := "ytknagjiipelfnaa", sum := "5fb3cf6972a9f7f7d8b96d623c91027ee3b2ab0a0a4a5ed83348fcd8b483d500", func := "trellis/trellislaw22.OutlineSpares", spec := "outlineSpares", unfollowed := true, recurses := true, apart := false, narrowed := true }
def OutlineSparesUptoSaid : Prop := outlineSparesUptoRow.holds Try.pinned (OpenSpec.upto outlineSparesSpec)

end Rows
end Go.Proofs.Ytknagjiipelfnaa
