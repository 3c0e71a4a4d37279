/-
  DERIVED. GIVEN WITH THE SEED: THE CARDS: each row of YtjeklcgflocfoaaDoorRows.lean that lists a variable, with what it lists TIED to the program's text (the seventh form; the later family's looks); each row that meets fmt, with fmt's text TOLD by the authors' own Lean function (tested against real Go, not proved from fmt's source: count such statements apart). THE CARD IS WHAT COUNTS. Prove the row's statement (the work); the ties are given (YtjeklcgflocfoaaDoorTie.lean); close each card by the builder's one call (the guide's Derived/Test/ToyasCard.lean, 'card_holds'). Laid BY PROGRAM, IN A SANDBOX (cutbox-door.mjs). By AI agents, Wed Nov 11 2026. No macro, syntax, notation, axiom, sorry.
-/
import Derived.Test.YtjeklcgflocfoaaDoorRows
import GoSem.ClaimSeven
namespace Go.Proofs.YtjeklcgflocfoaaDoor
namespace Rows

/-- THE TIED CARD OF 'laws.FnExactKnownOf'. -/
def fnExactKnownOfCard : Claim7 := { stood := { row := fnExactKnownOfRow, standIns := [], harness := (true, "c5c5f94b4c1c5ad8c6b269056180c5697893721d908b17d1f31342dcef1a7ffb"), looks := true }, kinds := [], alts := [], laidByText := true, laidKinds := [.data, .data], laidTests := true, laidLooks := .later }
def FnExactKnownOfCardSaid : Prop := Claim7.holds Tryd.pinned (.plain (OpenSpec.ofChange fnExactKnownOfSpec)) fnExactKnownOfCard

/-- THE TIED CARD OF 'laws.FnExactInstrText'. -/
def fnExactInstrTextCard : Claim7 := { stood := { row := fnExactInstrTextRow, standIns := [], harness := (true, "c5c5f94b4c1c5ad8c6b269056180c5697893721d908b17d1f31342dcef1a7ffb"), looks := true }, kinds := [], alts := [], laidByText := true, laidKinds := [.data, .data, .data], laidTests := true, laidLooks := .later }
def FnExactInstrTextCardSaid : Prop := Claim7.holds Tryd.pinned (.plain (OpenSpec.ofChange fnExactInstrTextSpec)) fnExactInstrTextCard

/-- THE TIED CARD OF 'laws.FnExactCodeText'. -/
def fnExactCodeTextCard : Claim7 := { stood := { row := fnExactCodeTextRow, standIns := [], harness := (true, "c5c5f94b4c1c5ad8c6b269056180c5697893721d908b17d1f31342dcef1a7ffb"), looks := true }, kinds := [], alts := [], laidByText := true, laidKinds := [.data, .data, .data], laidTests := true, laidLooks := .later }
def FnExactCodeTextCardSaid : Prop := Claim7.holds Tryd.pinned (.plain (OpenSpec.ofChange fnExactCodeTextSpec)) fnExactCodeTextCard

/-- THE TIED CARD OF 'laws.FnExactExprText'. -/
def fnExactExprTextCard : Claim7 := { stood := { row := fnExactExprTextRow, standIns := [], harness := (true, "c5c5f94b4c1c5ad8c6b269056180c5697893721d908b17d1f31342dcef1a7ffb"), looks := true }, kinds := [], alts := [], laidByText := true, laidKinds := [.data, .data, .data], laidTests := true, laidLooks := .later }
def FnExactExprTextCardSaid : Prop := Claim7.holds Tryd.pinned (.plain (OpenSpec.ofChange fnExactExprTextSpec)) fnExactExprTextCard

/-- THE TIED CARD OF 'laws.FnExactParseInstr'. -/
def fnExactParseInstrCard : Claim7 := { stood := { row := fnExactParseInstrRow, standIns := [], harness := (true, "c5c5f94b4c1c5ad8c6b269056180c5697893721d908b17d1f31342dcef1a7ffb"), looks := true }, kinds := [], alts := [], laidByText := true, laidKinds := [.data, .data, .data, .data, .sentinel, .sentinel, .pinned], laidTests := true, laidLooks := .later }
def FnExactParseInstrCardSaid : Prop := Claim7.holds Tryd.pinned (.plain (OpenSpec.ofChange fnExactParseInstrSpec)) fnExactParseInstrCard

/-- THE TIED CARD OF 'laws.FnExactParseCode'. -/
def fnExactParseCodeCard : Claim7 := { stood := { row := fnExactParseCodeRow, standIns := [], harness := (true, "c5c5f94b4c1c5ad8c6b269056180c5697893721d908b17d1f31342dcef1a7ffb"), looks := true }, kinds := [], alts := [], laidByText := true, laidKinds := [.data, .data, .data, .data, .sentinel, .sentinel, .pinned], laidTests := true, laidLooks := .later }
def FnExactParseCodeCardSaid : Prop := Claim7.holds Tryd.pinned (.plain (OpenSpec.ofChange fnExactParseCodeSpec)) fnExactParseCodeCard

/-- THE TIED CARD OF 'laws.FnExactParseExpr'. -/
def fnExactParseExprCard : Claim7 := { stood := { row := fnExactParseExprRow, standIns := [], harness := (true, "c5c5f94b4c1c5ad8c6b269056180c5697893721d908b17d1f31342dcef1a7ffb"), looks := true }, kinds := [], alts := [], laidByText := true, laidKinds := [.data, .data, .data, .sentinel, .sentinel], laidTests := true, laidLooks := .later }
def FnExactParseExprCardSaid : Prop := Claim7.holds Tryd.pinned (.plain (OpenSpec.ofChange fnExactParseExprSpec)) fnExactParseExprCard

/-- THE SECOND FORM's CARD OF 'laws.FnExactKnownOf'. -/
def fnExactKnownOfUptoCard : Claim7 := { stood := { row := fnExactKnownOfUptoRow, standIns := [], harness := (true, "c5c5f94b4c1c5ad8c6b269056180c5697893721d908b17d1f31342dcef1a7ffb"), looks := true }, kinds := [], alts := [], laidByText := true, laidKinds := [.data, .data], laidTests := true, laidLooks := .later }
def FnExactKnownOfUptoCardSaid : Prop := Claim7.holds Tryd.pinned (.plain (OpenSpec.upto fnExactKnownOfSpec)) fnExactKnownOfUptoCard

/-- THE SECOND FORM's CARD OF 'laws.FnExactInstrText'. -/
def fnExactInstrTextUptoCard : Claim7 := { stood := { row := fnExactInstrTextUptoRow, standIns := [], harness := (true, "c5c5f94b4c1c5ad8c6b269056180c5697893721d908b17d1f31342dcef1a7ffb"), looks := true }, kinds := [], alts := [], laidByText := true, laidKinds := [.data, .data, .data], laidTests := true, laidLooks := .later }
def FnExactInstrTextUptoCardSaid : Prop := Claim7.holds Tryd.pinned (.plain (OpenSpec.upto fnExactInstrTextSpec)) fnExactInstrTextUptoCard

/-- THE SECOND FORM's CARD OF 'laws.FnExactCodeText'. -/
def fnExactCodeTextUptoCard : Claim7 := { stood := { row := fnExactCodeTextUptoRow, standIns := [], harness := (true, "c5c5f94b4c1c5ad8c6b269056180c5697893721d908b17d1f31342dcef1a7ffb"), looks := true }, kinds := [], alts := [], laidByText := true, laidKinds := [.data, .data, .data], laidTests := true, laidLooks := .later }
def FnExactCodeTextUptoCardSaid : Prop := Claim7.holds Tryd.pinned (.plain (OpenSpec.upto fnExactCodeTextSpec)) fnExactCodeTextUptoCard

/-- THE SECOND FORM's CARD OF 'laws.FnExactExprText'. -/
def fnExactExprTextUptoCard : Claim7 := { stood := { row := fnExactExprTextUptoRow, standIns := [], harness := (true, "c5c5f94b4c1c5ad8c6b269056180c5697893721d908b17d1f31342dcef1a7ffb"), looks := true }, kinds := [], alts := [], laidByText := true, laidKinds := [.data, .data, .data], laidTests := true, laidLooks := .later }
def FnExactExprTextUptoCardSaid : Prop := Claim7.holds Tryd.pinned (.plain (OpenSpec.upto fnExactExprTextSpec)) fnExactExprTextUptoCard

/-- THE SECOND FORM's CARD OF 'laws.FnExactParseInstr'. -/
def fnExactParseInstrUptoCard : Claim7 := { stood := { row := fnExactParseInstrUptoRow, standIns := [], harness := (true, "c5c5f94b4c1c5ad8c6b269056180c5697893721d908b17d1f31342dcef1a7ffb"), looks := true }, kinds := [], alts := [], laidByText := true, laidKinds := [.data, .data, .data, .data, .sentinel, .sentinel, .pinned], laidTests := true, laidLooks := .later }
def FnExactParseInstrUptoCardSaid : Prop := Claim7.holds Tryd.pinned (.plain (OpenSpec.upto fnExactParseInstrSpec)) fnExactParseInstrUptoCard

/-- THE SECOND FORM's CARD OF 'laws.FnExactParseCode'. -/
def fnExactParseCodeUptoCard : Claim7 := { stood := { row := fnExactParseCodeUptoRow, standIns := [], harness := (true, "c5c5f94b4c1c5ad8c6b269056180c5697893721d908b17d1f31342dcef1a7ffb"), looks := true }, kinds := [], alts := [], laidByText := true, laidKinds := [.data, .data, .data, .data, .sentinel, .sentinel, .pinned], laidTests := true, laidLooks := .later }
def FnExactParseCodeUptoCardSaid : Prop := Claim7.holds Tryd.pinned (.plain (OpenSpec.upto fnExactParseCodeSpec)) fnExactParseCodeUptoCard

/-- THE SECOND FORM's CARD OF 'laws.FnExactParseExpr'. -/
def fnExactParseExprUptoCard : Claim7 := { stood := { row := fnExactParseExprUptoRow, standIns := [], harness := (true, "c5c5f94b4c1c5ad8c6b269056180c5697893721d908b17d1f31342dcef1a7ffb"), looks := true }, kinds := [], alts := [], laidByText := true, laidKinds := [.data, .data, .data, .sentinel, .sentinel], laidTests := true, laidLooks := .later }
def FnExactParseExprUptoCardSaid : Prop := Claim7.holds Tryd.pinned (.plain (OpenSpec.upto fnExactParseExprSpec)) fnExactParseExprUptoCard
end Rows
end Go.Proofs.YtjeklcgflocfoaaDoor
