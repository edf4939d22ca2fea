/-
  DERIVED. GIVEN WITH THE SEED: THE CARDS: each row of YtjgccbpdpnpfjaaDoorRows.lean that lists a variable, with what it lists TIED to the program's text (the seventh form; the later family's looks); each row that meets fmt, with fmt's text TOLD by the authors' own Lean function (tested against real Go, not proved from fmt's source: count such statements apart). THE CARD IS WHAT COUNTS. Prove the row's statement (the work); the ties are given (YtjgccbpdpnpfjaaDoorTie.lean); close each card by the builder's one call (the guide's Derived/Test/ToyasCard.lean, 'card_holds'). Laid BY PROGRAM, IN A SANDBOX (cutbox-door.mjs). By AI agents, Wed Nov 11 2026. No macro, syntax, notation, axiom, sorry.
-/
import Derived.Test.YtjgccbpdpnpfjaaDoorRows
import GoSem.ClaimSeven
namespace Go.Proofs.YtjgccbpdpnpfjaaDoor
namespace Rows

/-- THE TIED CARD OF 'trellislaw33.StoreDecodes'. -/
def storeDecodesCard : Claim7 := { stood := { row := storeDecodesRow, standIns := [], harness := (true, "994861d5efa04e8f43e6c514174f51f37d64aba924efc1da3ad67b2001059100"), looks := true }, kinds := [], alts := [], laidByText := true, laidKinds := [.handle], laidTests := true, laidLooks := .later }
def StoreDecodesCardSaid : Prop := Claim7.holds Tryd.pinned (.plain (OpenSpec.ofChange storeDecodesSpec)) storeDecodesCard

/-- THE TIED CARD OF 'trellislaw33.StoreBack'. -/
def storeBackCard : Claim7 := { stood := { row := storeBackRow, standIns := [], harness := (true, "994861d5efa04e8f43e6c514174f51f37d64aba924efc1da3ad67b2001059100"), looks := true }, kinds := [], alts := [], laidByText := true, laidKinds := [.handle], laidTests := true, laidLooks := .later }
def StoreBackCardSaid : Prop := Claim7.holds Tryd.pinned (.plain (OpenSpec.ofChange storeBackSpec)) storeBackCard

/-- THE TIED CARD OF 'trellislaw33.StoreCanon'. -/
def storeCanonCard : Claim7 := { stood := { row := storeCanonRow, standIns := [], harness := (true, "994861d5efa04e8f43e6c514174f51f37d64aba924efc1da3ad67b2001059100"), looks := true }, kinds := [], alts := [], laidByText := true, laidKinds := [.handle], laidTests := true, laidLooks := .later }
def StoreCanonCardSaid : Prop := Claim7.holds Tryd.pinned (.plain (OpenSpec.ofChange storeCanonSpec)) storeCanonCard

/-- THE TIED CARD OF 'trellislaw33.StoreStale'. -/
def storeStaleCard : Claim7 := { stood := { row := storeStaleRow, standIns := [], harness := (true, "994861d5efa04e8f43e6c514174f51f37d64aba924efc1da3ad67b2001059100"), looks := true }, kinds := [], alts := [], laidByText := true, laidKinds := [.handle], laidTests := true, laidLooks := .later }
def StoreStaleCardSaid : Prop := Claim7.holds Tryd.pinned (.plain (OpenSpec.ofChange storeStaleSpec)) storeStaleCard

/-- THE TIED CARD OF 'trellislaw33.StoreSums'. -/
def storeSumsCard : Claim7 := { stood := { row := storeSumsRow, standIns := [], harness := (true, "994861d5efa04e8f43e6c514174f51f37d64aba924efc1da3ad67b2001059100"), looks := true }, kinds := [], alts := [], laidByText := true, laidKinds := [.handle], laidTests := true, laidLooks := .later }
def StoreSumsCardSaid : Prop := Claim7.holds Tryd.pinned (.plain (OpenSpec.ofChange storeSumsSpec)) storeSumsCard

/-- THE SECOND FORM's CARD OF 'trellislaw33.StoreDecodes'. -/
def storeDecodesUptoCard : Claim7 := { stood := { row := storeDecodesUptoRow, standIns := [], harness := (true, "994861d5efa04e8f43e6c514174f51f37d64aba924efc1da3ad67b2001059100"), looks := true }, kinds := [], alts := [], laidByText := true, laidKinds := [.handle], laidTests := true, laidLooks := .later }
def StoreDecodesUptoCardSaid : Prop := Claim7.holds Tryd.pinned (.plain (OpenSpec.upto storeDecodesSpec)) storeDecodesUptoCard

/-- THE SECOND FORM's CARD OF 'trellislaw33.StoreBack'. -/
def storeBackUptoCard : Claim7 := { stood := { row := storeBackUptoRow, standIns := [], harness := (true, "994861d5efa04e8f43e6c514174f51f37d64aba924efc1da3ad67b2001059100"), looks := true }, kinds := [], alts := [], laidByText := true, laidKinds := [.handle], laidTests := true, laidLooks := .later }
def StoreBackUptoCardSaid : Prop := Claim7.holds Tryd.pinned (.plain (OpenSpec.upto storeBackSpec)) storeBackUptoCard

/-- THE SECOND FORM's CARD OF 'trellislaw33.StoreCanon'. -/
def storeCanonUptoCard : Claim7 := { stood := { row := storeCanonUptoRow, standIns := [], harness := (true, "994861d5efa04e8f43e6c514174f51f37d64aba924efc1da3ad67b2001059100"), looks := true }, kinds := [], alts := [], laidByText := true, laidKinds := [.handle], laidTests := true, laidLooks := .later }
def StoreCanonUptoCardSaid : Prop := Claim7.holds Tryd.pinned (.plain (OpenSpec.upto storeCanonSpec)) storeCanonUptoCard

/-- THE SECOND FORM's CARD OF 'trellislaw33.StoreStale'. -/
def storeStaleUptoCard : Claim7 := { stood := { row := storeStaleUptoRow, standIns := [], harness := (true, "994861d5efa04e8f43e6c514174f51f37d64aba924efc1da3ad67b2001059100"), looks := true }, kinds := [], alts := [], laidByText := true, laidKinds := [.handle], laidTests := true, laidLooks := .later }
def StoreStaleUptoCardSaid : Prop := Claim7.holds Tryd.pinned (.plain (OpenSpec.upto storeStaleSpec)) storeStaleUptoCard

/-- THE SECOND FORM's CARD OF 'trellislaw33.StoreSums'. -/
def storeSumsUptoCard : Claim7 := { stood := { row := storeSumsUptoRow, standIns := [], harness := (true, "994861d5efa04e8f43e6c514174f51f37d64aba924efc1da3ad67b2001059100"), looks := true }, kinds := [], alts := [], laidByText := true, laidKinds := [.handle], laidTests := true, laidLooks := .later }
def StoreSumsUptoCardSaid : Prop := Claim7.holds Tryd.pinned (.plain (OpenSpec.upto storeSumsSpec)) storeSumsUptoCard
end Rows
end Go.Proofs.YtjgccbpdpnpfjaaDoor
