/-
  DERIVED. GIVEN WITH THE SEED: THE CARDS: each row of YtifkldghbdpdmaaDoorRows.lean that lists a variable, with what it lists TIED to the program's text (the seventh form; the later family's looks); each row that meets fmt, with fmt's text TOLD by the authors' own Lean function (tested against real Go, not proved from fmt's source: count such statements apart). THE CARD IS WHAT COUNTS. Prove the row's statement (the work); the ties are given (YtifkldghbdpdmaaDoorTie.lean); close each card by the builder's one call (the guide's Derived/Test/ToyasCard.lean, 'card_holds'). Laid BY PROGRAM, IN A SANDBOX (cutbox-door.mjs). By AI agents, Wed Nov 11 2026. No macro, syntax, notation, axiom, sorry.
-/
import Derived.Test.YtifkldghbdpdmaaDoorRows
import GoSem.ClaimSeven
namespace Go.Proofs.YtifkldghbdpdmaaDoor
namespace Rows

/-- THE TIED CARD OF 'laws.FnExactDigits'. -/
def fnExactDigitsCard : Claim7 := { stood := { row := fnExactDigitsRow, standIns := [], harness := (true, "6c1dedb2095760fa4c5dbc5ddd5103dae7bb0e7a2464509f9dd3c0c25949a748"), looks := true }, kinds := [], alts := [], laidByText := true, laidKinds := [.data, .data, .data], laidTests := true, laidLooks := .later }
def FnExactDigitsCardSaid : Prop := Claim7.holds Tryd.pinned (.plain (OpenSpec.ofChange fnExactDigitsSpec)) fnExactDigitsCard

/-- THE TIED CARD OF 'laws.FnExactKeyText'. -/
def fnExactKeyTextCard : Claim7 := { stood := { row := fnExactKeyTextRow, standIns := [], harness := (true, "6c1dedb2095760fa4c5dbc5ddd5103dae7bb0e7a2464509f9dd3c0c25949a748"), looks := true }, kinds := [], alts := [], laidByText := true, laidKinds := [.data, .pinned], laidTests := true, laidLooks := .later }
def FnExactKeyTextCardSaid : Prop := Claim7.holds Tryd.pinned (.plain (OpenSpec.ofChange fnExactKeyTextSpec)) fnExactKeyTextCard

/-- THE TIED CARD OF 'laws.FnExactKeyOf'. -/
def fnExactKeyOfCard : Claim7 := { stood := { row := fnExactKeyOfRow, standIns := [], harness := (true, "6c1dedb2095760fa4c5dbc5ddd5103dae7bb0e7a2464509f9dd3c0c25949a748"), looks := true }, kinds := [], alts := [], laidByText := true, laidKinds := [.data, .pinned], laidTests := true, laidLooks := .later }
def FnExactKeyOfCardSaid : Prop := Claim7.holds Tryd.pinned (.plain (OpenSpec.ofChange fnExactKeyOfSpec)) fnExactKeyOfCard

/-- THE TIED CARD OF 'laws.FnExactQuoteText'. -/
def fnExactQuoteTextCard : Claim7 := { stood := { row := fnExactQuoteTextRow, standIns := [], harness := (true, "6c1dedb2095760fa4c5dbc5ddd5103dae7bb0e7a2464509f9dd3c0c25949a748"), looks := true }, kinds := [], alts := [], laidByText := true, laidKinds := [.data, .pinned], laidTests := true, laidLooks := .later }
def FnExactQuoteTextCardSaid : Prop := Claim7.holds Tryd.pinned (.plain (OpenSpec.ofChange fnExactQuoteTextSpec)) fnExactQuoteTextCard

/-- THE TIED CARD OF 'laws.FnExactPlainName'. -/
def fnExactPlainNameCard : Claim7 := { stood := { row := fnExactPlainNameRow, standIns := [], harness := (true, "6c1dedb2095760fa4c5dbc5ddd5103dae7bb0e7a2464509f9dd3c0c25949a748"), looks := true }, kinds := [], alts := [], laidByText := true, laidKinds := [.data, .pinned], laidTests := true, laidLooks := .later }
def FnExactPlainNameCardSaid : Prop := Claim7.holds Tryd.pinned (.plain (OpenSpec.ofChange fnExactPlainNameSpec)) fnExactPlainNameCard

/-- THE TIED CARD OF 'laws.FnExactNameText'. -/
def fnExactNameTextCard : Claim7 := { stood := { row := fnExactNameTextRow, standIns := [], harness := (true, "6c1dedb2095760fa4c5dbc5ddd5103dae7bb0e7a2464509f9dd3c0c25949a748"), looks := true }, kinds := [], alts := [], laidByText := true, laidKinds := [.data, .pinned], laidTests := true, laidLooks := .later }
def FnExactNameTextCardSaid : Prop := Claim7.holds Tryd.pinned (.plain (OpenSpec.ofChange fnExactNameTextSpec)) fnExactNameTextCard

/-- THE TIED CARD OF 'laws.FnExactNumber'. -/
def fnExactNumberCard : Claim7 := { stood := { row := fnExactNumberRow, standIns := [], harness := (true, "6c1dedb2095760fa4c5dbc5ddd5103dae7bb0e7a2464509f9dd3c0c25949a748"), looks := true }, kinds := [], alts := [], laidByText := true, laidKinds := [.data, .data, .data, .sentinel, .sentinel], laidTests := true, laidLooks := .later }
def FnExactNumberCardSaid : Prop := Claim7.holds Tryd.pinned (.plain (OpenSpec.ofChange fnExactNumberSpec)) fnExactNumberCard

/-- THE TIED CARD OF 'laws.FnExactValueText'. -/
def fnExactValueTextCard : Claim7 := { stood := { row := fnExactValueTextRow, standIns := [], harness := (true, "6c1dedb2095760fa4c5dbc5ddd5103dae7bb0e7a2464509f9dd3c0c25949a748"), looks := true }, kinds := [], alts := [], laidByText := true, laidKinds := [.data, .data, .data, .data, .pinned], laidTests := true, laidLooks := .later }
def FnExactValueTextCardSaid : Prop := Claim7.holds Tryd.pinned (.plain (OpenSpec.ofChange fnExactValueTextSpec)) fnExactValueTextCard

/-- THE TIED CARD OF 'laws.FnExactTokenOk'. -/
def fnExactTokenOkCard : Claim7 := { stood := { row := fnExactTokenOkRow, standIns := [], harness := (true, "6c1dedb2095760fa4c5dbc5ddd5103dae7bb0e7a2464509f9dd3c0c25949a748"), looks := true }, kinds := [], alts := [], laidByText := true, laidKinds := [.data, .data, .data, .data, .sentinel, .sentinel, .pinned], laidTests := true, laidLooks := .later }
def FnExactTokenOkCardSaid : Prop := Claim7.holds Tryd.pinned (.plain (OpenSpec.ofChange fnExactTokenOkSpec)) fnExactTokenOkCard

/-- THE TIED CARD OF 'laws.FnExactTokenText'. -/
def fnExactTokenTextCard : Claim7 := { stood := { row := fnExactTokenTextRow, standIns := [], harness := (true, "6c1dedb2095760fa4c5dbc5ddd5103dae7bb0e7a2464509f9dd3c0c25949a748"), looks := true }, kinds := [], alts := [], laidByText := true, laidKinds := [.data, .data, .data, .data, .sentinel, .sentinel, .pinned], laidTests := true, laidLooks := .later }
def FnExactTokenTextCardSaid : Prop := Claim7.holds Tryd.pinned (.plain (OpenSpec.ofChange fnExactTokenTextSpec)) fnExactTokenTextCard

/-- THE TIED CARD OF 'laws.FnExactNeedsGap'. -/
def fnExactNeedsGapCard : Claim7 := { stood := { row := fnExactNeedsGapRow, standIns := [], harness := (true, "6c1dedb2095760fa4c5dbc5ddd5103dae7bb0e7a2464509f9dd3c0c25949a748"), looks := true }, kinds := [], alts := [], laidByText := true, laidKinds := [.data, .data, .data, .data, .sentinel, .sentinel, .pinned], laidTests := true, laidLooks := .later }
def FnExactNeedsGapCardSaid : Prop := Claim7.holds Tryd.pinned (.plain (OpenSpec.ofChange fnExactNeedsGapSpec)) fnExactNeedsGapCard

/-- THE TIED CARD OF 'laws.FnExactLex'. -/
def fnExactLexCard : Claim7 := { stood := { row := fnExactLexRow, standIns := [], harness := (true, "6c1dedb2095760fa4c5dbc5ddd5103dae7bb0e7a2464509f9dd3c0c25949a748"), looks := true }, kinds := [], alts := [], laidByText := true, laidKinds := [.data, .data, .data, .data, .sentinel, .sentinel, .pinned], laidTests := true, laidLooks := .later }
def FnExactLexCardSaid : Prop := Claim7.holds Tryd.pinned (.plain (OpenSpec.ofChange fnExactLexSpec)) fnExactLexCard

/-- THE SECOND FORM's CARD OF 'laws.FnExactDigits'. -/
def fnExactDigitsUptoCard : Claim7 := { stood := { row := fnExactDigitsUptoRow, standIns := [], harness := (true, "6c1dedb2095760fa4c5dbc5ddd5103dae7bb0e7a2464509f9dd3c0c25949a748"), looks := true }, kinds := [], alts := [], laidByText := true, laidKinds := [.data, .data, .data], laidTests := true, laidLooks := .later }
def FnExactDigitsUptoCardSaid : Prop := Claim7.holds Tryd.pinned (.plain (OpenSpec.upto fnExactDigitsSpec)) fnExactDigitsUptoCard

/-- THE SECOND FORM's CARD OF 'laws.FnExactKeyText'. -/
def fnExactKeyTextUptoCard : Claim7 := { stood := { row := fnExactKeyTextUptoRow, standIns := [], harness := (true, "6c1dedb2095760fa4c5dbc5ddd5103dae7bb0e7a2464509f9dd3c0c25949a748"), looks := true }, kinds := [], alts := [], laidByText := true, laidKinds := [.data, .pinned], laidTests := true, laidLooks := .later }
def FnExactKeyTextUptoCardSaid : Prop := Claim7.holds Tryd.pinned (.plain (OpenSpec.upto fnExactKeyTextSpec)) fnExactKeyTextUptoCard

/-- THE SECOND FORM's CARD OF 'laws.FnExactKeyOf'. -/
def fnExactKeyOfUptoCard : Claim7 := { stood := { row := fnExactKeyOfUptoRow, standIns := [], harness := (true, "6c1dedb2095760fa4c5dbc5ddd5103dae7bb0e7a2464509f9dd3c0c25949a748"), looks := true }, kinds := [], alts := [], laidByText := true, laidKinds := [.data, .pinned], laidTests := true, laidLooks := .later }
def FnExactKeyOfUptoCardSaid : Prop := Claim7.holds Tryd.pinned (.plain (OpenSpec.upto fnExactKeyOfSpec)) fnExactKeyOfUptoCard

/-- THE SECOND FORM's CARD OF 'laws.FnExactQuoteText'. -/
def fnExactQuoteTextUptoCard : Claim7 := { stood := { row := fnExactQuoteTextUptoRow, standIns := [], harness := (true, "6c1dedb2095760fa4c5dbc5ddd5103dae7bb0e7a2464509f9dd3c0c25949a748"), looks := true }, kinds := [], alts := [], laidByText := true, laidKinds := [.data, .pinned], laidTests := true, laidLooks := .later }
def FnExactQuoteTextUptoCardSaid : Prop := Claim7.holds Tryd.pinned (.plain (OpenSpec.upto fnExactQuoteTextSpec)) fnExactQuoteTextUptoCard

/-- THE SECOND FORM's CARD OF 'laws.FnExactPlainName'. -/
def fnExactPlainNameUptoCard : Claim7 := { stood := { row := fnExactPlainNameUptoRow, standIns := [], harness := (true, "6c1dedb2095760fa4c5dbc5ddd5103dae7bb0e7a2464509f9dd3c0c25949a748"), looks := true }, kinds := [], alts := [], laidByText := true, laidKinds := [.data, .pinned], laidTests := true, laidLooks := .later }
def FnExactPlainNameUptoCardSaid : Prop := Claim7.holds Tryd.pinned (.plain (OpenSpec.upto fnExactPlainNameSpec)) fnExactPlainNameUptoCard

/-- THE SECOND FORM's CARD OF 'laws.FnExactNameText'. -/
def fnExactNameTextUptoCard : Claim7 := { stood := { row := fnExactNameTextUptoRow, standIns := [], harness := (true, "6c1dedb2095760fa4c5dbc5ddd5103dae7bb0e7a2464509f9dd3c0c25949a748"), looks := true }, kinds := [], alts := [], laidByText := true, laidKinds := [.data, .pinned], laidTests := true, laidLooks := .later }
def FnExactNameTextUptoCardSaid : Prop := Claim7.holds Tryd.pinned (.plain (OpenSpec.upto fnExactNameTextSpec)) fnExactNameTextUptoCard

/-- THE SECOND FORM's CARD OF 'laws.FnExactNumber'. -/
def fnExactNumberUptoCard : Claim7 := { stood := { row := fnExactNumberUptoRow, standIns := [], harness := (true, "6c1dedb2095760fa4c5dbc5ddd5103dae7bb0e7a2464509f9dd3c0c25949a748"), looks := true }, kinds := [], alts := [], laidByText := true, laidKinds := [.data, .data, .data, .sentinel, .sentinel], laidTests := true, laidLooks := .later }
def FnExactNumberUptoCardSaid : Prop := Claim7.holds Tryd.pinned (.plain (OpenSpec.upto fnExactNumberSpec)) fnExactNumberUptoCard

/-- THE SECOND FORM's CARD OF 'laws.FnExactValueText'. -/
def fnExactValueTextUptoCard : Claim7 := { stood := { row := fnExactValueTextUptoRow, standIns := [], harness := (true, "6c1dedb2095760fa4c5dbc5ddd5103dae7bb0e7a2464509f9dd3c0c25949a748"), looks := true }, kinds := [], alts := [], laidByText := true, laidKinds := [.data, .data, .data, .data, .pinned], laidTests := true, laidLooks := .later }
def FnExactValueTextUptoCardSaid : Prop := Claim7.holds Tryd.pinned (.plain (OpenSpec.upto fnExactValueTextSpec)) fnExactValueTextUptoCard

/-- THE SECOND FORM's CARD OF 'laws.FnExactTokenOk'. -/
def fnExactTokenOkUptoCard : Claim7 := { stood := { row := fnExactTokenOkUptoRow, standIns := [], harness := (true, "6c1dedb2095760fa4c5dbc5ddd5103dae7bb0e7a2464509f9dd3c0c25949a748"), looks := true }, kinds := [], alts := [], laidByText := true, laidKinds := [.data, .data, .data, .data, .sentinel, .sentinel, .pinned], laidTests := true, laidLooks := .later }
def FnExactTokenOkUptoCardSaid : Prop := Claim7.holds Tryd.pinned (.plain (OpenSpec.upto fnExactTokenOkSpec)) fnExactTokenOkUptoCard

/-- THE SECOND FORM's CARD OF 'laws.FnExactTokenText'. -/
def fnExactTokenTextUptoCard : Claim7 := { stood := { row := fnExactTokenTextUptoRow, standIns := [], harness := (true, "6c1dedb2095760fa4c5dbc5ddd5103dae7bb0e7a2464509f9dd3c0c25949a748"), looks := true }, kinds := [], alts := [], laidByText := true, laidKinds := [.data, .data, .data, .data, .sentinel, .sentinel, .pinned], laidTests := true, laidLooks := .later }
def FnExactTokenTextUptoCardSaid : Prop := Claim7.holds Tryd.pinned (.plain (OpenSpec.upto fnExactTokenTextSpec)) fnExactTokenTextUptoCard

/-- THE SECOND FORM's CARD OF 'laws.FnExactNeedsGap'. -/
def fnExactNeedsGapUptoCard : Claim7 := { stood := { row := fnExactNeedsGapUptoRow, standIns := [], harness := (true, "6c1dedb2095760fa4c5dbc5ddd5103dae7bb0e7a2464509f9dd3c0c25949a748"), looks := true }, kinds := [], alts := [], laidByText := true, laidKinds := [.data, .data, .data, .data, .sentinel, .sentinel, .pinned], laidTests := true, laidLooks := .later }
def FnExactNeedsGapUptoCardSaid : Prop := Claim7.holds Tryd.pinned (.plain (OpenSpec.upto fnExactNeedsGapSpec)) fnExactNeedsGapUptoCard

/-- THE SECOND FORM's CARD OF 'laws.FnExactLex'. -/
def fnExactLexUptoCard : Claim7 := { stood := { row := fnExactLexUptoRow, standIns := [], harness := (true, "6c1dedb2095760fa4c5dbc5ddd5103dae7bb0e7a2464509f9dd3c0c25949a748"), looks := true }, kinds := [], alts := [], laidByText := true, laidKinds := [.data, .data, .data, .data, .sentinel, .sentinel, .pinned], laidTests := true, laidLooks := .later }
def FnExactLexUptoCardSaid : Prop := Claim7.holds Tryd.pinned (.plain (OpenSpec.upto fnExactLexSpec)) fnExactLexUptoCard
end Rows
end Go.Proofs.YtifkldghbdpdmaaDoor
