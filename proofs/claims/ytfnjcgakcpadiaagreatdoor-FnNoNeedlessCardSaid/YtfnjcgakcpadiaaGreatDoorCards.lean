/-
  DERIVED. GIVEN WITH THE SEED: THE CARDS: each row of YtfnjcgakcpadiaaGreatDoorRows.lean that lists a variable, with what it lists TIED to the program's text (the seventh form; the later family's looks); each row that meets fmt, with fmt's text TOLD by the authors' own Lean function (tested against real Go, not proved from fmt's source: count such statements apart). THE CARD IS WHAT COUNTS. Prove the row's statement (the work); the ties are given (YtfnjcgakcpadiaaGreatDoorTie.lean); close each card by the builder's one call (the guide's Derived/Test/ToyasCard.lean, 'card_holds'). Laid BY PROGRAM, IN A SANDBOX (cutbox-door.mjs). By AI agents, Wed Nov 11 2026. No macro, syntax, notation, axiom, sorry.
-/
import Derived.Test.YtfnjcgakcpadiaaGreatDoorRows
import GoSem.ClaimSeven
namespace Go.Proofs.YtfnjcgakcpadiaaGreatDoor
namespace Rows

/-- THE TIED CARD OF 'laws.FnNoNeedless'. -/
def fnNoNeedlessCard : Claim7 := { stood := { row := fnNoNeedlessRow, standIns := [], harness := (true, "0ec48baf6a1b369fa60d814d7e4e69d2899e0d7b28fab3e77880a49471e2b96d"), looks := true }, kinds := [], alts := [], laidByText := true, laidKinds := [.data, .data, .data, .data, .sentinel, .sentinel, .pinned], laidTests := true, laidLooks := .later }
def FnNoNeedlessCardSaid : Prop := Claim7.holds Tryz.pinned (.plain (OpenSpec.ofChange fnNoNeedlessSpec)) fnNoNeedlessCard

/-- THE TIED CARD OF 'laws.FnLexText'. -/
def fnLexTextCard : Claim7 := { stood := { row := fnLexTextRow, standIns := [], harness := (true, "0ec48baf6a1b369fa60d814d7e4e69d2899e0d7b28fab3e77880a49471e2b96d"), looks := true }, kinds := [], alts := [], laidByText := true, laidKinds := [.data, .data, .data, .data, .sentinel, .sentinel, .pinned], laidTests := true, laidLooks := .later }
def FnLexTextCardSaid : Prop := Claim7.holds Tryz.pinned (.plain (OpenSpec.ofChange fnLexTextSpec)) fnLexTextCard

/-- THE TIED CARD OF 'laws.FnLexBad'. -/
def fnLexBadCard : Claim7 := { stood := { row := fnLexBadRow, standIns := [], harness := (true, "0ec48baf6a1b369fa60d814d7e4e69d2899e0d7b28fab3e77880a49471e2b96d"), looks := true }, kinds := [], alts := [], laidByText := true, laidKinds := [.data, .data, .data, .data, .sentinel, .sentinel, .pinned], laidTests := true, laidLooks := .later }
def FnLexBadCardSaid : Prop := Claim7.holds Tryz.pinned (.plain (OpenSpec.ofChange fnLexBadSpec)) fnLexBadCard

/-- THE TIED CARD OF 'laws.FnLexPlaces'. -/
def fnLexPlacesCard : Claim7 := { stood := { row := fnLexPlacesRow, standIns := [], harness := (true, "0ec48baf6a1b369fa60d814d7e4e69d2899e0d7b28fab3e77880a49471e2b96d"), looks := true }, kinds := [], alts := [], laidByText := true, laidKinds := [.data, .data, .data, .data, .sentinel, .sentinel, .pinned], laidTests := true, laidLooks := .later }
def FnLexPlacesCardSaid : Prop := Claim7.holds Tryz.pinned (.plain (OpenSpec.ofChange fnLexPlacesSpec)) fnLexPlacesCard

/-- THE SECOND FORM's CARD OF 'laws.FnNoNeedless'. -/
def fnNoNeedlessUptoCard : Claim7 := { stood := { row := fnNoNeedlessUptoRow, standIns := [], harness := (true, "0ec48baf6a1b369fa60d814d7e4e69d2899e0d7b28fab3e77880a49471e2b96d"), looks := true }, kinds := [], alts := [], laidByText := true, laidKinds := [.data, .data, .data, .data, .sentinel, .sentinel, .pinned], laidTests := true, laidLooks := .later }
def FnNoNeedlessUptoCardSaid : Prop := Claim7.holds Tryz.pinned (.plain (OpenSpec.upto fnNoNeedlessSpec)) fnNoNeedlessUptoCard

/-- THE SECOND FORM's CARD OF 'laws.FnLexText'. -/
def fnLexTextUptoCard : Claim7 := { stood := { row := fnLexTextUptoRow, standIns := [], harness := (true, "0ec48baf6a1b369fa60d814d7e4e69d2899e0d7b28fab3e77880a49471e2b96d"), looks := true }, kinds := [], alts := [], laidByText := true, laidKinds := [.data, .data, .data, .data, .sentinel, .sentinel, .pinned], laidTests := true, laidLooks := .later }
def FnLexTextUptoCardSaid : Prop := Claim7.holds Tryz.pinned (.plain (OpenSpec.upto fnLexTextSpec)) fnLexTextUptoCard

/-- THE SECOND FORM's CARD OF 'laws.FnLexBad'. -/
def fnLexBadUptoCard : Claim7 := { stood := { row := fnLexBadUptoRow, standIns := [], harness := (true, "0ec48baf6a1b369fa60d814d7e4e69d2899e0d7b28fab3e77880a49471e2b96d"), looks := true }, kinds := [], alts := [], laidByText := true, laidKinds := [.data, .data, .data, .data, .sentinel, .sentinel, .pinned], laidTests := true, laidLooks := .later }
def FnLexBadUptoCardSaid : Prop := Claim7.holds Tryz.pinned (.plain (OpenSpec.upto fnLexBadSpec)) fnLexBadUptoCard

/-- THE SECOND FORM's CARD OF 'laws.FnLexPlaces'. -/
def fnLexPlacesUptoCard : Claim7 := { stood := { row := fnLexPlacesUptoRow, standIns := [], harness := (true, "0ec48baf6a1b369fa60d814d7e4e69d2899e0d7b28fab3e77880a49471e2b96d"), looks := true }, kinds := [], alts := [], laidByText := true, laidKinds := [.data, .data, .data, .data, .sentinel, .sentinel, .pinned], laidTests := true, laidLooks := .later }
def FnLexPlacesUptoCardSaid : Prop := Claim7.holds Tryz.pinned (.plain (OpenSpec.upto fnLexPlacesSpec)) fnLexPlacesUptoCard
end Rows
end Go.Proofs.YtfnjcgakcpadiaaGreatDoor
