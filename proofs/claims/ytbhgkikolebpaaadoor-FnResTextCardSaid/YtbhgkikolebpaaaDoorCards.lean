/-
  DERIVED. GIVEN WITH THE SEED: THE CARDS: each row of YtbhgkikolebpaaaDoorRows.lean that lists a variable, with what it lists TIED to the program's text (the seventh form; the later family's looks); each row that meets fmt, with fmt's text TOLD by the authors' own Lean function (tested against real Go, not proved from fmt's source: count such statements apart). THE CARD IS WHAT COUNTS. Prove the row's statement (the work); the ties are given (YtbhgkikolebpaaaDoorTie.lean); close each card by the builder's one call (the guide's Derived/Test/ToyasCard.lean, 'card_holds'). Laid BY PROGRAM, IN A SANDBOX (cutbox-door.mjs). By AI agents, Wed Nov 11 2026. No macro, syntax, notation, axiom, sorry.
-/
import Derived.Test.YtbhgkikolebpaaaDoorRows
import GoSem.ClaimSeven
namespace Go.Proofs.YtbhgkikolebpaaaDoor
namespace Rows

/-- THE TIED CARD OF 'laws.FnExactResText'. -/
def fnExactResTextCard : Claim7 := { stood := { row := fnExactResTextRow, standIns := [], harness := (true, "8039401ca920f256d1d871d569d6719cdb76e61ba3f0d8466115e9c5331784d2"), looks := false }, kinds := [], alts := [], laidByText := true, laidKinds := [.data, .data, .data], laidTests := true, laidLooks := .later }
def FnExactResTextCardSaid : Prop := Claim7.holds Tryd.pinned (.plain (OpenSpec.ofChange fnExactResTextSpec)) fnExactResTextCard

/-- THE TIED CARD OF 'laws.FnResText'. -/
def fnResTextCard : Claim7 := { stood := { row := fnResTextRow, standIns := [], harness := (true, "8039401ca920f256d1d871d569d6719cdb76e61ba3f0d8466115e9c5331784d2"), looks := false }, kinds := [], alts := [], laidByText := true, laidKinds := [.data, .data, .data], laidTests := true, laidLooks := .later }
def FnResTextCardSaid : Prop := Claim7.holds Tryd.pinned (.plain (OpenSpec.ofChange fnResTextSpec)) fnResTextCard

/-- THE TIED CARD OF 'laws.FnExactOpText'. -/
def fnExactOpTextCard : Claim7 := { stood := { row := fnExactOpTextRow, standIns := [], harness := (true, "8039401ca920f256d1d871d569d6719cdb76e61ba3f0d8466115e9c5331784d2"), looks := false }, kinds := [], alts := [], laidByText := true, laidKinds := [.data, .data, .data], laidTests := true, laidLooks := .later }
def FnExactOpTextCardSaid : Prop := Claim7.holds Tryd.pinned (.plain (OpenSpec.ofChange fnExactOpTextSpec)) fnExactOpTextCard

/-- THE SECOND FORM's CARD OF 'laws.FnExactResText'. -/
def fnExactResTextUptoCard : Claim7 := { stood := { row := fnExactResTextUptoRow, standIns := [], harness := (true, "8039401ca920f256d1d871d569d6719cdb76e61ba3f0d8466115e9c5331784d2"), looks := false }, kinds := [], alts := [], laidByText := true, laidKinds := [.data, .data, .data], laidTests := true, laidLooks := .later }
def FnExactResTextUptoCardSaid : Prop := Claim7.holds Tryd.pinned (.plain (OpenSpec.upto fnExactResTextSpec)) fnExactResTextUptoCard

/-- THE SECOND FORM's CARD OF 'laws.FnResText'. -/
def fnResTextUptoCard : Claim7 := { stood := { row := fnResTextUptoRow, standIns := [], harness := (true, "8039401ca920f256d1d871d569d6719cdb76e61ba3f0d8466115e9c5331784d2"), looks := false }, kinds := [], alts := [], laidByText := true, laidKinds := [.data, .data, .data], laidTests := true, laidLooks := .later }
def FnResTextUptoCardSaid : Prop := Claim7.holds Tryd.pinned (.plain (OpenSpec.upto fnResTextSpec)) fnResTextUptoCard

/-- THE SECOND FORM's CARD OF 'laws.FnExactOpText'. -/
def fnExactOpTextUptoCard : Claim7 := { stood := { row := fnExactOpTextUptoRow, standIns := [], harness := (true, "8039401ca920f256d1d871d569d6719cdb76e61ba3f0d8466115e9c5331784d2"), looks := false }, kinds := [], alts := [], laidByText := true, laidKinds := [.data, .data, .data], laidTests := true, laidLooks := .later }
def FnExactOpTextUptoCardSaid : Prop := Claim7.holds Tryd.pinned (.plain (OpenSpec.upto fnExactOpTextSpec)) fnExactOpTextUptoCard
end Rows
end Go.Proofs.YtbhgkikolebpaaaDoor
